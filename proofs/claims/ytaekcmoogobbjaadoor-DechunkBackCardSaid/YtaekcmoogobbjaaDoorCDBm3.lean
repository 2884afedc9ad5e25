/- Texts of this claim, one behind the other: N8, N9, Ck1, NA, NB, NC. -/
import Derived.Test.YtaekcmoogobbjaaDoorCDBm2
import Derived.Test.YtaekcmoogobbjaaDoorCDBm1
import Derived.Shelf.Spec.SlicesGrow
import Derived.WalkSpells
/- dechunk: lfs. Printed by genN8.py. -/
namespace Go.Proofs.YtaekcmoogobbjaaDoor
set_option linter.unusedVariables false
set_option linter.unusedSimpArgs false
set_option linter.unusedSectionVars false
open Go.RowKit Go.Shelf
set_option maxHeartbeats 8000000
set_option maxRecDepth 100000
variable [Gst]
def lfF (D B : Nat) (VE : Value) (pu : Option Addr) (nu cu ne : Nat) (xs : List Value) (f : Nat → Bool) : Nat → World → Value → Prop
  | 0, _, v => v = .pointer (some ⟨D, 0, none⟩)
  | 1, _, v => v = .pointer (some ⟨D, 0, none⟩)
  | 2, _, v => v = .pointer (some ⟨D, 0, none⟩)
  | 3, _, v => v = .pointer (some ⟨D, 0, none⟩)
  | 4, _, v => v = .pointer (some ⟨D, 0, none⟩)
  | 5, _, v => v = .pointer (some ⟨D, 7, none⟩)
  | 6, _, v => v = VE
  | 7, _, v => v = .pointer (some ⟨D, 0, none⟩)
  | 8, _, v => v = .pointer (some ⟨D, 0, none⟩)
  | 9, _, v => v = .pointer (some ⟨D, 8, none⟩)
  | 10, _, v => v = .slice pu nu cu
  | 11, w, v => f 12 = false → ∃ g, v = .slice (some ⟨g, 0, none⟩) 1 1 ∧ w.heap[g]? = some (.cells #[.slice pu nu cu] 22 (0, 0)) ∧ B ≤ g
  | 12, w, v => w.ownsRow (D + 1) 22 1 v (ne + 1) (xs ++ [.slice pu nu cu]) ∧ (v.ownBlock = VE.ownBlock ∨ ∃ k, v.ownBlock = some k ∧ B ≤ k) ∧ (f 18 = true → w.cell? ⟨D, 7, none⟩ = some v)
  | 13, _, v => v = .pointer (some ⟨D, 0, none⟩)
  | 14, _, v => v = .pointer (some ⟨D, 3, none⟩)
  | 15, w, v => True
  | 16, _, v => v = .pointer (some ⟨D, 0, none⟩)
  | 17, _, v => v = .pointer (some ⟨D, 7, none⟩)
  | 18, w, v => True
  | 19, _, v => v = .pointer (some ⟨D, 0, none⟩)
  | 20, _, v => v = .pointer (some ⟨D, 8, none⟩)
  | 21, w, v => True
  | _, _, _ => False
def dcX (cap : Nat) (s : Dn.St) (vt x3 vo x7 x8 : Value) : Array Value := #[.int .i64 cap, vt, .bool s.cr, x3, .int .i64 s.left, .int .i64 s.many, vo, x7, x8, .int .i64 s.why]
structure lfT (w0 : World) (D cap : Nat) (s : Dn.St) (vt vo VE : Value) (pu : Option Addr) (nu cu ne : Nat) (xs : List Value) (f : Nat → Bool) (w : World) : Prop where
  bel : Below D w0 w
  size : w0.heap.size ≤ w.heap.size
  dc : ∃ x3 x7 x8, w.heap[D]? = some (.cells (dcX cap s vt x3 vo x7 x8) 50 (0, 0)) ∧ (f 15 = true → x3 = .int .i64 0) ∧ (f 18 = false → x7 = VE) ∧ (f 21 = false → x8 = .slice pu nu cu) ∧ (f 21 = true → x8 = .slice none 0 0)
  rt : w.ownsRow (D + 1) 5 1 vt s.line.length (s.line.map by8)
  ro : w.ownsRow (D + 1) 5 1 vo s.out.length (s.out.map by8)
  rv : f 12 = false → w.ownsRow (D + 1) 22 1 VE ne xs
  n6 : f 6 = false → f 12 = false
  n10 : f 10 = false → f 11 = false
  n11 : f 11 = false → f 12 = false
  n12 : f 12 = false → f 15 = false
  n15 : f 15 = false → f 18 = false
  n18 : f 18 = false → f 21 = false
  oth : ∀ k, k < w0.heap.size → k ≠ D → VE.ownBlock ≠ some k → w.heap[k]? = w0.heap[k]?
theorem lfT.step {w0 : World} {D cap : Nat} {s : Dn.St} {vt vo VE : Value} {pu : Option Addr} {nu cu ne : Nat} {xs : List Value} {w w' : World} {f : Nat → Bool} (i : Nat) (h : lfT w0 D cap s vt vo VE pu nu cu ne xs f w)
    (h11 : i ≠ 11) (h12 : i ≠ 12) (h15 : i ≠ 15) (h18 : i ≠ 18) (h21 : i ≠ 21) (hb : Below w.heap.size w w') : lfT w0 D cap s vt vo VE pu nu cu ne xs (fun j => if j = i then true else f j) w' := by
  obtain ⟨x3, x7, x8, hd, d1, d2, d3, d4⟩ := h.dc
  have hD := (Array.getElem?_eq_some_iff.1 hd).1
  exact ⟨h.bel.trans (hb.mono (Nat.le_of_lt hD)), Nat.le_trans h.size hb.size, ⟨x3, x7, x8, (hb.block D hD).trans hd, fun e => d1 (up_true h15 e), fun e => d2 (up_false e), fun e => d3 (up_false e), fun e => d4 (up_true h21 e)⟩, own_bel h.rt hb, own_bel h.ro hb,
    fun e => own_bel (h.rv (up_false e)) hb, fun e => up_un h12 (h.n6 (up_false e)), fun e => up_un h11 (h.n10 (up_false e)), fun e => up_un h12 (h.n11 (up_false e)), fun e => up_un h15 (h.n12 (up_false e)), fun e => up_un h18 (h.n15 (up_false e)), fun e => up_un h21 (h.n18 (up_false e)), fun k a b c => (hb.block k (Nat.lt_of_lt_of_le a h.size)).trans (h.oth k a b c)⟩
theorem lfF_step {D B : Nat} {VE : Value} {pu : Option Addr} {nu cu ne : Nat} {xs : List Value} {f : Nat → Bool} {w w' : World} {j : Nat} {v : Value} (i : Nat) (h18 : i ≠ 18) (hb : Below w.heap.size w w') (hDw : D < w.heap.size) (h : lfF D B VE pu nu cu ne xs f j w v) :
    lfF D B VE pu nu cu ne xs (fun j => if j = i then true else f j) j w' v := by
  match j, h with
  | 0, h | 1, h | 2, h | 3, h | 4, h | 5, h | 6, h | 7, h | 8, h | 9, h | 10, h | 13, h | 14, h | 16, h | 17, h | 19, h | 20, h => exact h
  | 11, h => exact fun e => by obtain ⟨g, h1, h2, h3⟩ := h (up_false e); exact ⟨g, h1, (hb.block g (Array.getElem?_eq_some_iff.1 h2).1).trans h2, h3⟩
  | 12, h => exact ⟨own_bel h.1 hb, h.2.1, fun e => (hb.cell hDw).trans (h.2.2 (up_true h18 e))⟩
  | 15, h | 18, h | 21, h => trivial
  | n + 22, h => exact h.elim
def lfSlot (i : Nat) : Nat := ([7, 8, 9, 10, 11, 12, 13, 14, 15, 16, 17, 18, 19, 20, 21, 4, 22, 23, 5, 24, 25, 6] : List Nat).getD i 6
theorem lfSlot_lt (i : Nat) : lfSlot i < 26 := by
  match i with
  | 0 | 1 | 2 | 3 | 4 | 5 | 6 | 7 | 8 | 9 | 10 | 11 | 12 | 13 | 14 | 15 | 16 | 17 | 18 | 19 | 20 | 21 => decide
  | n + 22 => show 6 < 26; decide
theorem lfSlot_inj : ∀ i j, i < 22 → j < 22 → lfSlot i = lfSlot j → i = j := by
  have h : ∀ i j : Fin 22, lfSlot i.val = lfSlot j.val → i = j := by decide
  intro i j hi hj e
  have := h ⟨i, hi⟩ ⟨j, hj⟩ e
  simpa using this
theorem lfNot0 : ∀ i, i < 22 → lfSlot i ≠ 0 := by
  have h : ∀ i : Fin 22, lfSlot i.val ≠ 0 := by decide
  exact fun i hi => h ⟨i, hi⟩
theorem dc_lfs (D cap : Nat) (c : UInt8) (s : Dn.St) (w : World) (h : DD w D cap s) (hw : s.why = 0) (he : s.ended.length ≤ 100000) :
    Calls Tryd.prog 34 #[.pointer (some ⟨D, 0, none⟩), .int .u8 (c.toNat : Int)] w fun e w' => stepEnd w' D cap e (Dn.lfs c s) ∧ Below D w w' := by
  obtain ⟨i0, hi, hz0, hz1, hz2⟩ := info_parts (show (Tryd.prog.info? 22).map (fun i => (i.zero, i.size, i.bytes)) = some (some (.slice none 0 0), 1, 24) by kernel_rfl)
  have K := Lib.hid (fun b W => dc_musts b 270 W)
  have HDD := Lib.hid h
  obtain ⟨b, hb⟩ : ∃ z, decide (c = 10) = z := ⟨_, rfl⟩
  have HB := Lib.hid (show ((c.toNat : Int) == 10) = b by rw [← hb]; exact u8_beq c 10 (by decide))
  have HBC := Lib.hid hb
  have HW := Lib.hid hw
  obtain ⟨wr, hwr⟩ : ∃ z, w = z := ⟨_, rfl⟩
  rw [hwr] at HDD h ⊢
  clear hw hb hwr
  obtain ⟨vt, vo, VE, vu, hd⟩ := h
  obtain ⟨_, _, _, ⟨pu, cu, rfl⟩⟩ := hd.slices
  obtain ⟨nu, hnu⟩ : ∃ z, s.under.length = z := ⟨_, rfl⟩
  obtain ⟨ne, hne⟩ : ∃ z, s.ended.length = z := ⟨_, rfl⟩
  obtain ⟨xs, hxs, hgu⟩ := hd.re
  have hgp := hgu.push hd.ru hd.tu hd.ou
  rw [hnu] at hgp
  have HGP := Lib.hid hgp
  obtain ⟨BB, hBB⟩ : ∃ z, wr.heap.size = z := ⟨_, rfl⟩
  have HBB := Lib.hid hBB
  have HTO := Lib.hid hd.to
  have HXS := Lib.hid hxs
  clear hgu hgp
  rw [hne] at hxs he
  have HNE := Lib.hid hne
  have HST := Lib.hid (show lfT wr D cap s vt vo VE pu nu cu ne xs (fun _ => false) wr.drew from
    ⟨(Below.refl _ _).drew, Nat.le_refl _, ⟨.int .i64 s.pt, VE, .slice pu nu cu, by have := hd.cells; rw [hnu] at this; exact this, fun e => (by cases e), fun _ => rfl, fun _ => rfl, fun e => (by cases e)⟩, own_bel hd.rt (Below.refl _ _).drew, own_bel hd.ro (Below.refl _ _).drew, fun _ => own_bel hxs (Below.refl _ _).drew, fun _ => rfl, fun _ => rfl, fun _ => rfl, fun _ => rfl, fun _ => rfl, fun _ => rfl, fun _ _ _ _ => rfl⟩)
  clear hd hxs hnu hne hBB
  go_enter Tryd.func34, Tryd.ntmps34
  go_wp2_with fail
  rw [HB.out]
  refine (K.out b wr).mono ?_
  rintro e w' ⟨rfl, hw'⟩
  rw [hw']
  clear hw' w'
  cases b with
  | false =>
    simp only [musts, Bool.false_eq_true, if_false]
    go_wp2_with fail
    try simp [bodyPost]
    have h1 := of_decide_eq_false HBC.out
    have e1 : Dn.lfs c s = { s with why := 270 } := by unfold Dn.lfs; rw [if_neg h1]
    rw [e1]
    exact ⟨stepEnd.bad HW.out (by decide) HDD.out, Below.refl _ _⟩
  | true =>
    simp only [musts, if_true]
    go_wp2_with fail
    refine region_slots4 lfSlot (lfF D BB VE pu nu cu ne xs) (lfT wr D cap s vt vo VE pu nu cu ne xs) (by kernel_rfl) (by kernel_rfl) (fun i => Nat.lt_of_lt_of_le (lfSlot_lt i) (by show 26 ≤ _; simp)) (fun i j hi hj h => lfSlot_inj i j hi hj h) ?start ?dst ?step ?done
    case start => exact HST.out
    case dst =>
      intro i o ho
      match i, ho with
      | 0, ho => cases ho; exact .inl rfl
      | 1, ho => cases ho; exact .inl rfl
      | 2, ho => cases ho; exact .inl rfl
      | 3, ho => cases ho; exact .inl rfl
      | 4, ho => cases ho; exact .inl rfl
      | 5, ho => cases ho; exact .inl rfl
      | 6, ho => cases ho; exact .inl rfl
      | 7, ho => cases ho; exact .inl rfl
      | 8, ho => cases ho; exact .inl rfl
      | 9, ho => cases ho; exact .inl rfl
      | 10, ho => cases ho; exact .inl rfl
      | 11, ho => cases ho; exact .inl rfl
      | 12, ho => cases ho; exact .inl rfl
      | 13, ho => cases ho; exact .inl rfl
      | 14, ho => cases ho; exact .inl rfl
      | 15, ho => cases ho; exact .inr rfl
      | 16, ho => cases ho; exact .inl rfl
      | 17, ho => cases ho; exact .inl rfl
      | 18, ho => cases ho; exact .inr rfl
      | 19, ho => cases ho; exact .inl rfl
      | 20, ho => cases ho; exact .inl rfl
      | 21, ho => cases ho; exact .inr rfl
      | n + 22, ho => exact absurd ho (by simp)
    case step =>
      intro f a' W i o ho hfi hpre hT hrest
      have hDW : D < W.heap.size := by obtain ⟨_, _, _, h, _⟩ := hT.dc; exact (Array.getElem?_eq_some_iff.1 h).1
      match i, ho with
      | 0, ho =>
        cases ho
        have q0 : a'.tmps.getD 0 undef = .pointer (some ⟨D, 0, none⟩) := (hrest 0 lfNot0)
        have e0 := rg_ev q0
        exact rg_same4 (.pointer (some ⟨D, 0, none⟩)) (by unfold Oper.wp execOp; go_simp; all_goals ((try simp only [e0]); (try go_simp); (try rw [if_pos (by omega)]); (try rw [if_neg (by omega)]); first | done | rfl | exact ⟨rfl, rfl⟩ | trivial)) (by simp) rfl (hT.step 0 (by decide) (by decide) (by decide) (by decide) (by decide) (Below.refl _ _)) (fun j v' h => lfF_step 0 (by decide) (Below.refl _ _) hDW h)
      | 1, ho =>
        cases ho
        have q0 : a'.tmps.getD 0 undef = .pointer (some ⟨D, 0, none⟩) := (hrest 0 lfNot0)
        have e0 := rg_ev q0
        exact rg_same4 (.pointer (some ⟨D, 0, none⟩)) (by unfold Oper.wp execOp; go_simp; all_goals ((try simp only [e0]); (try go_simp); (try rw [if_pos (by omega)]); (try rw [if_neg (by omega)]); first | done | rfl | exact ⟨rfl, rfl⟩ | trivial)) (by simp) rfl (hT.step 1 (by decide) (by decide) (by decide) (by decide) (by decide) (Below.refl _ _)) (fun j v' h => lfF_step 1 (by decide) (Below.refl _ _) hDW h)
      | 2, ho =>
        cases ho
        have q0 : a'.tmps.getD 0 undef = .pointer (some ⟨D, 0, none⟩) := (hrest 0 lfNot0)
        have e0 := rg_ev q0
        exact rg_same4 (.pointer (some ⟨D, 0, none⟩)) (by unfold Oper.wp execOp; go_simp; all_goals ((try simp only [e0]); (try go_simp); (try rw [if_pos (by omega)]); (try rw [if_neg (by omega)]); first | done | rfl | exact ⟨rfl, rfl⟩ | trivial)) (by simp) rfl (hT.step 2 (by decide) (by decide) (by decide) (by decide) (by decide) (Below.refl _ _)) (fun j v' h => lfF_step 2 (by decide) (Below.refl _ _) hDW h)
      | 3, ho =>
        cases ho
        have q0 : a'.tmps.getD 0 undef = .pointer (some ⟨D, 0, none⟩) := (hrest 0 lfNot0)
        have e0 := rg_ev q0
        exact rg_same4 (.pointer (some ⟨D, 0, none⟩)) (by unfold Oper.wp execOp; go_simp; all_goals ((try simp only [e0]); (try go_simp); (try rw [if_pos (by omega)]); (try rw [if_neg (by omega)]); first | done | rfl | exact ⟨rfl, rfl⟩ | trivial)) (by simp) rfl (hT.step 3 (by decide) (by decide) (by decide) (by decide) (by decide) (Below.refl _ _)) (fun j v' h => lfF_step 3 (by decide) (Below.refl _ _) hDW h)
      | 4, ho =>
        cases ho
        have f10 := (hpre { on := 3, ground := .data } (by simp) rfl).1
        have q10 : a'.tmps.getD 10 undef = .pointer (some ⟨D, 0, none⟩) := (hpre { on := 3, ground := .data } (by simp) rfl).2
        have e10 := rg_ev q10
        exact rg_same4 (.pointer (some ⟨D, 0, none⟩)) (by unfold Oper.wp execOp; go_simp; all_goals ((try simp only [e10]); (try go_simp); (try rw [if_pos (by omega)]); (try rw [if_neg (by omega)]); first | done | rfl | exact ⟨rfl, rfl⟩ | trivial)) (by simp) rfl (hT.step 4 (by decide) (by decide) (by decide) (by decide) (by decide) (Below.refl _ _)) (fun j v' h => lfF_step 4 (by decide) (Below.refl _ _) hDW h)
      | 5, ho =>
        cases ho
        have f11 := (hpre { on := 4, ground := .data } (by simp) rfl).1
        have q11 : a'.tmps.getD 11 undef = .pointer (some ⟨D, 0, none⟩) := (hpre { on := 4, ground := .data } (by simp) rfl).2
        have e11 := rg_ev q11
        exact rg_same4 (.pointer (some ⟨D, 7, none⟩)) (by unfold Oper.wp execOp; go_simp; all_goals ((try simp only [e11]); (try go_simp); (try rw [if_pos (by omega)]); (try rw [if_neg (by omega)]); first | done | rfl | exact ⟨rfl, rfl⟩ | trivial)) (by simp) rfl (hT.step 5 (by decide) (by decide) (by decide) (by decide) (by decide) (Below.refl _ _)) (fun j v' h => lfF_step 5 (by decide) (Below.refl _ _) hDW h)
      | 6, ho =>
        cases ho
        have f12 := (hpre { on := 5, ground := .data } (by simp) rfl).1
        have q12 : a'.tmps.getD 12 undef = .pointer (some ⟨D, 7, none⟩) := (hpre { on := 5, ground := .data } (by simp) rfl).2
        have hc7 : W.cell? ⟨D, 7, none⟩ = some VE := by
          obtain ⟨x3, x7, x8, h, _, h1, _⟩ := hT.dc
          rw [h1 (hT.n15 (hT.n12 (hT.n6 hfi)))] at h
          unfold dcX at h
          simp [World.cell?, h]
        have e12 := rg_ev q12
        exact rg_same4 (VE) (by unfold Oper.wp execOp; go_simp; all_goals ((try simp only [e12]); (try go_simp); (try rw [if_pos (by omega)]); (try rw [if_neg (by omega)]); first | done | rfl | exact ⟨rfl, rfl⟩ | trivial)) (by simp) rfl (hT.step 6 (by decide) (by decide) (by decide) (by decide) (by decide) (Below.refl _ _)) (fun j v' h => lfF_step 6 (by decide) (Below.refl _ _) hDW h)
      | 7, ho =>
        cases ho
        have q0 : a'.tmps.getD 0 undef = .pointer (some ⟨D, 0, none⟩) := (hrest 0 lfNot0)
        have e0 := rg_ev q0
        exact rg_same4 (.pointer (some ⟨D, 0, none⟩)) (by unfold Oper.wp execOp; go_simp; all_goals ((try simp only [e0]); (try go_simp); (try rw [if_pos (by omega)]); (try rw [if_neg (by omega)]); first | done | rfl | exact ⟨rfl, rfl⟩ | trivial)) (by simp) rfl (hT.step 7 (by decide) (by decide) (by decide) (by decide) (by decide) (Below.refl _ _)) (fun j v' h => lfF_step 7 (by decide) (Below.refl _ _) hDW h)
      | 8, ho =>
        cases ho
        have f14 := (hpre { on := 7, ground := .data } (by simp) rfl).1
        have q14 : a'.tmps.getD 14 undef = .pointer (some ⟨D, 0, none⟩) := (hpre { on := 7, ground := .data } (by simp) rfl).2
        have e14 := rg_ev q14
        exact rg_same4 (.pointer (some ⟨D, 0, none⟩)) (by unfold Oper.wp execOp; go_simp; all_goals ((try simp only [e14]); (try go_simp); (try rw [if_pos (by omega)]); (try rw [if_neg (by omega)]); first | done | rfl | exact ⟨rfl, rfl⟩ | trivial)) (by simp) rfl (hT.step 8 (by decide) (by decide) (by decide) (by decide) (by decide) (Below.refl _ _)) (fun j v' h => lfF_step 8 (by decide) (Below.refl _ _) hDW h)
      | 9, ho =>
        cases ho
        have f15 := (hpre { on := 8, ground := .data } (by simp) rfl).1
        have q15 : a'.tmps.getD 15 undef = .pointer (some ⟨D, 0, none⟩) := (hpre { on := 8, ground := .data } (by simp) rfl).2
        have e15 := rg_ev q15
        exact rg_same4 (.pointer (some ⟨D, 8, none⟩)) (by unfold Oper.wp execOp; go_simp; all_goals ((try simp only [e15]); (try go_simp); (try rw [if_pos (by omega)]); (try rw [if_neg (by omega)]); first | done | rfl | exact ⟨rfl, rfl⟩ | trivial)) (by simp) rfl (hT.step 9 (by decide) (by decide) (by decide) (by decide) (by decide) (Below.refl _ _)) (fun j v' h => lfF_step 9 (by decide) (Below.refl _ _) hDW h)
      | 10, ho =>
        cases ho
        have f16 := (hpre { on := 9, ground := .data } (by simp) rfl).1
        have q16 : a'.tmps.getD 16 undef = .pointer (some ⟨D, 8, none⟩) := (hpre { on := 9, ground := .data } (by simp) rfl).2
        have hc8 : W.cell? ⟨D, 8, none⟩ = some (.slice pu nu cu) := by
          obtain ⟨x3, x7, x8, h, _, _, h1, _⟩ := hT.dc
          rw [h1 (hT.n18 (hT.n15 (hT.n12 (hT.n11 (hT.n10 hfi)))))] at h
          unfold dcX at h
          simp [World.cell?, h]
        have e16 := rg_ev q16
        exact rg_same4 (.slice pu nu cu) (by unfold Oper.wp execOp; go_simp; all_goals ((try simp only [e16]); (try go_simp); (try rw [if_pos (by omega)]); (try rw [if_neg (by omega)]); first | done | rfl | exact ⟨rfl, rfl⟩ | trivial)) (by simp) rfl (hT.step 10 (by decide) (by decide) (by decide) (by decide) (by decide) (Below.refl _ _)) (fun j v' h => lfF_step 10 (by decide) (Below.refl _ _) hDW h)
      | 11, ho =>
        cases ho
        have f17 := (hpre { on := 10, ground := .data } (by simp) rfl).1
        have q17 : a'.tmps.getD 17 undef = .slice pu nu cu := (hpre { on := 10, ground := .data } (by simp) rfl).2
        have e17 := rg_ev q17
        unfold Oper.wp execOp
        go_simp
        have h12f := hT.n11 hfi
        refine ⟨_, rfl, fun _ => ⟨W.heap.size, rfl, World.alloc_heap_new _ _, HBB.out ▸ hT.size⟩, ?_, fun j _ hF => ?_⟩
        · obtain ⟨x3, x7, x8, hd, d1, d2, d3, d4⟩ := hT.dc
          have hb : Below W.heap.size W (W.alloc (.cells #[.slice pu nu cu] 22)) := (Below.refl _ _).alloc (Nat.le_refl _) _
          have h5 : lfT wr D cap s vt vo VE pu nu cu ne xs (fun j => if j = 11 then true else f j) (W.alloc (.cells #[.slice pu nu cu] 22)) :=
            ⟨hT.bel.trans (hb.mono (Nat.le_of_lt hDW)), Nat.le_trans hT.size hb.size, ⟨x3, x7, x8, (hb.block D hDW).trans hd, fun e => d1 (up_true (by decide) e), fun e => d2 (up_false e), fun e => d3 (up_false e), fun e => d4 (up_true (by decide) e)⟩, own_bel hT.rt hb, own_bel hT.ro hb,
            fun e => own_bel (hT.rv (up_false e)) hb, fun e => up_un (by decide) (hT.n6 (up_false e)), fun e => absurd (f17.symm.trans (up_false e)) (by decide), fun e => by simp at e, fun e => up_un (by decide) (hT.n12 (up_false e)), fun e => up_un (by decide) (hT.n15 (up_false e)), fun e => up_un (by decide) (hT.n18 (up_false e)), fun k a b c => (hb.block k (Nat.lt_of_lt_of_le a hT.size)).trans (hT.oth k a b c)⟩
          simpa using h5
        · have h5 := lfF_step 11 (by decide) (w' := W.alloc (.cells #[.slice pu nu cu] 22)) ((Below.refl _ _).alloc (Nat.le_refl _) _) hDW hF
          simpa using h5
      | 12, ho =>
        cases ho
        have f13 := (hpre { on := 6, ground := .data } (by simp) rfl).1
        have q13 : a'.tmps.getD 13 undef = VE := (hpre { on := 6, ground := .data } (by simp) rfl).2
        have f18 := (hpre { on := 11, ground := .data } (by simp) rfl).1
        have h18 : lfF D BB VE pu nu cu ne xs f 11 W (a'.tmps.getD 18 undef) := (hpre { on := 11, ground := .data } (by simp) rfl).2
        obtain ⟨g, e1, e2, e3⟩ := h18 hfi
        have q13b : a'.eval (.tmp 13) = VE := q13
        have q18b : a'.eval (.tmp 18) = .slice (some ⟨g, 0, none⟩) 1 1 := e1
        have hO := hT.rv hfi
        have h15f := hT.n12 hfi
        refine wp_append_blk _ _ 37 rfl (D + 1) 22 i0 (.slice none 0 0) 1 24 Tryd.underlying37 hi hz0 hz1 hz2 rfl (by decide) VE ne xs q13b hO ⟨g, 0, none⟩ 1 1 [.slice pu nu cu] q18b rfl (by intro j u hj; match j, hj with | 0, hj => (simp at hj; subst hj; simp [Addr.add, World.cell?, e2])) (by intro u hu; simp at hu; subst hu; rfl) (by unfold maxLen; omega) (by omega) hDW ?_
        intro v' w' hown' hgrow hblk
        have hDn : some D ≠ VE.ownBlock := fun e => by have := (hO.lt D e.symm).1; omega
        obtain ⟨x3, x7, x8, hd, d1, d2, d3, d4⟩ := hT.dc
        refine ⟨v', rfl, fun e => absurd e (by simp), ⟨hown', hblk.imp id (fun h => ⟨_, h, HBB.out ▸ hT.size⟩), fun e => absurd ((hT.n15 h15f).symm.trans (up_true (by decide) e)) (by decide)⟩,
          ⟨Below.grown hT.bel hgrow (Nat.le_of_lt hDW) (fun k hk => by have := (hO.lt k hk).1; omega), Nat.le_trans hT.size hgrow.size, ⟨x3, x7, x8, (hgrow.block D hDW hDn).trans hd, fun e => d1 (up_true (by decide) e), fun e => d2 (up_false e), fun e => d3 (up_false e), fun e => d4 (up_true (by decide) e)⟩, hT.rt.kept hgrow (own_types hO hT.rt (by decide)), hT.ro.kept hgrow (own_types hO hT.ro (by decide)), fun e => by simp at e,
            fun e => absurd (f13.symm.trans (up_false e)) (by decide), fun e => up_un (by decide) (hT.n10 (up_false e)), fun e => absurd (f18.symm.trans (up_false e)) (by decide), fun e => by simp at e, fun e => up_un (by decide) (hT.n15 (up_false e)), fun e => up_un (by decide) (hT.n18 (up_false e)), fun k a b c => (hgrow.block k (Nat.lt_of_lt_of_le a hT.size) (fun e => c e.symm)).trans (hT.oth k a b c)⟩, fun j hj hF => ?_⟩
        match j, hF with
        | 0, h | 1, h | 2, h | 3, h | 4, h | 5, h | 6, h | 7, h | 8, h | 9, h | 10, h | 13, h | 14, h | 16, h | 17, h | 19, h | 20, h => exact h
        | 11, h => exact fun e => by simp at e
        | 12, h => rw [hfi] at hj; cases hj
        | 15, h | 18, h | 21, h => trivial
        | n + 22, h => exact h.elim
      | 13, ho =>
        cases ho
        have f7 := (hpre { on := 0, ground := .data } (by simp) rfl).1
        have q7 : a'.tmps.getD 7 undef = .pointer (some ⟨D, 0, none⟩) := (hpre { on := 0, ground := .data } (by simp) rfl).2
        have e7 := rg_ev q7
        exact rg_same4 (.pointer (some ⟨D, 0, none⟩)) (by unfold Oper.wp execOp; go_simp; all_goals ((try simp only [e7]); (try go_simp); (try rw [if_pos (by omega)]); (try rw [if_neg (by omega)]); first | done | rfl | exact ⟨rfl, rfl⟩ | trivial)) (by simp) rfl (hT.step 13 (by decide) (by decide) (by decide) (by decide) (by decide) (Below.refl _ _)) (fun j v' h => lfF_step 13 (by decide) (Below.refl _ _) hDW h)
      | 14, ho =>
        cases ho
        have f20 := (hpre { on := 13, ground := .data } (by simp) rfl).1
        have q20 : a'.tmps.getD 20 undef = .pointer (some ⟨D, 0, none⟩) := (hpre { on := 13, ground := .data } (by simp) rfl).2
        have e20 := rg_ev q20
        exact rg_same4 (.pointer (some ⟨D, 3, none⟩)) (by unfold Oper.wp execOp; go_simp; all_goals ((try simp only [e20]); (try go_simp); (try rw [if_pos (by omega)]); (try rw [if_neg (by omega)]); first | done | rfl | exact ⟨rfl, rfl⟩ | trivial)) (by simp) rfl (hT.step 14 (by decide) (by decide) (by decide) (by decide) (by decide) (Below.refl _ _)) (fun j v' h => lfF_step 14 (by decide) (Below.refl _ _) hDW h)
      | 15, ho =>
        cases ho
        have f21 := (hpre { on := 14, ground := .data } (by simp) rfl).1
        have q21 : a'.tmps.getD 21 undef = .pointer (some ⟨D, 3, none⟩) := (hpre { on := 14, ground := .data } (by simp) rfl).2
        have f12t : f 12 = true := by
          cases h : f 12 with
          | true => rfl
          | false => exact absurd (((hpre { on := 12, ground := .chain } (by simp) rfl).1).symm.trans h) (by decide)
        obtain ⟨x3, x7, x8, hd, d1, d2, d3, d4⟩ := hT.dc
        have e21 := rg_ev q21
        have hzC : W.frozen? ⟨D, 3, none⟩ = false := frozen_of_row _ _ _ _ _ hd
        have hcC : W.cell? ⟨D, 3, none⟩ = some x3 := by unfold dcX at hd; simp [World.cell?, hd]
        have hc7 : W.cell? ⟨D, 7, none⟩ = some x7 := by unfold dcX at hd; simp [World.cell?, hd]
        have hs := heap_setCell_same _ _ 3 _ _ (.int .i64 0) hd
        have hsb : (W.setCell ⟨D, 3, none⟩ (.int .i64 0)).heap[D]? = some (.cells (dcX cap s vt (.int .i64 0) vo x7 x8) 50 (0, 0)) := by
          rw [hs]; unfold dcX; simp
        have hc7b : (W.setCell ⟨D, 3, none⟩ (.int .i64 0)).cell? ⟨D, 7, none⟩ = some (x7) := by
          unfold dcX at hsb; simp [World.cell?, hsb]
        have TN : lfT wr D cap s vt vo VE pu nu cu ne xs (fun j => if j = 15 then true else f j) (W.setCell ⟨D, 3, none⟩ (.int .i64 0)) :=
          ⟨hT.bel.setCell (p := ⟨D, 3, none⟩) (Nat.le_refl D) _, by have := hT.size; simpa using this, ⟨_, x7, x8, hsb, fun _ => rfl, fun e => d2 (up_false e), fun e => d3 (up_false e), fun e => d4 (up_true (by decide) e)⟩, ownsRow_setCell_below (a := ⟨D, 3, none⟩) hT.rt (Nat.lt_succ_self D) _, ownsRow_setCell_below (a := ⟨D, 3, none⟩) hT.ro (Nat.lt_succ_self D) _,
           fun e => absurd (f12t.symm.trans (up_false e)) (by decide), fun e => up_un (by decide) (hT.n6 (up_false e)), fun e => up_un (by decide) (hT.n10 (up_false e)), fun e => up_un (by decide) (hT.n11 (up_false e)), fun e => absurd (f12t.symm.trans (up_false e)) (by decide), fun e => by simp at e, fun e => up_un (by decide) (hT.n18 (up_false e)), fun k a b c => (Below.heap_setCell _ _ _ _ b).trans (hT.oth k a b c)⟩
        have FN : ∀ j, f j = true → lfF D BB VE pu nu cu ne xs f j W (a'.tmps.getD (lfSlot j) undef) → lfF D BB VE pu nu cu ne xs (fun j => if j = 15 then true else f j) j (W.setCell ⟨D, 3, none⟩ (.int .i64 0)) (a'.tmps.getD (lfSlot j) undef) := fun j hj hF => by
          match j, hF with
          | 0, h | 1, h | 2, h | 3, h | 4, h | 5, h | 6, h | 7, h | 8, h | 9, h | 10, h | 13, h | 14, h | 16, h | 17, h | 19, h | 20, h => exact h
          | 11, h => exact fun e => absurd (f12t.symm.trans (up_false e)) (by decide)
          | 12, h => exact ⟨ownsRow_setCell_below (a := ⟨D, 3, none⟩) h.1 (Nat.lt_succ_self D) _, h.2.1, fun e => hc7b.trans (hc7.symm.trans (h.2.2 (up_true (by decide) e)))⟩
          | 15, h | 18, h | 21, h => trivial
          | n + 22, h => exact h.elim
        have HTN := Lib.hid TN
        have HFN := Lib.hid FN
        clear TN FN hs hsb hc7b hd 
        unfold Oper.wp execOp
        go_simp
        refine ⟨trivial, ?_, ?_⟩
        · have h := HTN.out; simpa using h
        · intro j hj hF
          have h := HFN.out j hj (by simpa using hF)
          simpa using h
      | 16, ho =>
        cases ho
        have f8 := (hpre { on := 1, ground := .data } (by simp) rfl).1
        have q8 : a'.tmps.getD 8 undef = .pointer (some ⟨D, 0, none⟩) := (hpre { on := 1, ground := .data } (by simp) rfl).2
        have e8 := rg_ev q8
        exact rg_same4 (.pointer (some ⟨D, 0, none⟩)) (by unfold Oper.wp execOp; go_simp; all_goals ((try simp only [e8]); (try go_simp); (try rw [if_pos (by omega)]); (try rw [if_neg (by omega)]); first | done | rfl | exact ⟨rfl, rfl⟩ | trivial)) (by simp) rfl (hT.step 16 (by decide) (by decide) (by decide) (by decide) (by decide) (Below.refl _ _)) (fun j v' h => lfF_step 16 (by decide) (Below.refl _ _) hDW h)
      | 17, ho =>
        cases ho
        have f22 := (hpre { on := 16, ground := .data } (by simp) rfl).1
        have q22 : a'.tmps.getD 22 undef = .pointer (some ⟨D, 0, none⟩) := (hpre { on := 16, ground := .data } (by simp) rfl).2
        have e22 := rg_ev q22
        exact rg_same4 (.pointer (some ⟨D, 7, none⟩)) (by unfold Oper.wp execOp; go_simp; all_goals ((try simp only [e22]); (try go_simp); (try rw [if_pos (by omega)]); (try rw [if_neg (by omega)]); first | done | rfl | exact ⟨rfl, rfl⟩ | trivial)) (by simp) rfl (hT.step 17 (by decide) (by decide) (by decide) (by decide) (by decide) (Below.refl _ _)) (fun j v' h => lfF_step 17 (by decide) (Below.refl _ _) hDW h)
      | 18, ho =>
        cases ho
        have f23 := (hpre { on := 17, ground := .data } (by simp) rfl).1
        have q23 : a'.tmps.getD 23 undef = .pointer (some ⟨D, 7, none⟩) := (hpre { on := 17, ground := .data } (by simp) rfl).2
        have f19 := (hpre { on := 12, ground := .data } (by simp) rfl).1
        have h19 : lfF D BB VE pu nu cu ne xs f 12 W (a'.tmps.getD 19 undef) := (hpre { on := 12, ground := .data } (by simp) rfl).2
        have f12t : f 12 = true := by
          cases h : f 12 with
          | true => rfl
          | false => exact absurd (f19.symm.trans h) (by decide)
        obtain ⟨x3, x7, x8, hd, d1, d2, d3, d4⟩ := hT.dc
        have f15t : f 15 = true := (hpre { on := 15, ground := .chain } (by simp) rfl).1
        obtain ⟨y19, hy19⟩ : ∃ z, a'.tmps.getD 19 undef = z := ⟨_, rfl⟩
        rw [hy19] at h19
        obtain ⟨hr, _⟩ := h19
        obtain ⟨g, c19, rfl⟩ := Go.Joins.ownsRow_form hr (by omega)
        have e23 := rg_ev q23
        have e19 := rg_ev hy19
        have hzC : W.frozen? ⟨D, 7, none⟩ = false := frozen_of_row _ _ _ _ _ hd
        have hcC : W.cell? ⟨D, 7, none⟩ = some x7 := by unfold dcX at hd; simp [World.cell?, hd]
        have hc7 : W.cell? ⟨D, 7, none⟩ = some x7 := by unfold dcX at hd; simp [World.cell?, hd]
        have hs := heap_setCell_same _ _ 7 _ _ (.slice (some ⟨g, 0, none⟩) (ne + 1) c19) hd
        have hsb : (W.setCell ⟨D, 7, none⟩ (.slice (some ⟨g, 0, none⟩) (ne + 1) c19)).heap[D]? = some (.cells (dcX cap s vt x3 vo (.slice (some ⟨g, 0, none⟩) (ne + 1) c19) x8) 50 (0, 0)) := by
          rw [hs]; unfold dcX; simp
        have hc7b : (W.setCell ⟨D, 7, none⟩ (.slice (some ⟨g, 0, none⟩) (ne + 1) c19)).cell? ⟨D, 7, none⟩ = some (.slice (some ⟨g, 0, none⟩) (ne + 1) c19) := by
          unfold dcX at hsb; simp [World.cell?, hsb]
        have TN : lfT wr D cap s vt vo VE pu nu cu ne xs (fun j => if j = 18 then true else f j) (W.setCell ⟨D, 7, none⟩ (.slice (some ⟨g, 0, none⟩) (ne + 1) c19)) :=
          ⟨hT.bel.setCell (p := ⟨D, 7, none⟩) (Nat.le_refl D) _, by have := hT.size; simpa using this, ⟨x3, _, x8, hsb, fun e => d1 (up_true (by decide) e), fun e => by simp at e, fun e => d3 (up_false e), fun e => d4 (up_true (by decide) e)⟩, ownsRow_setCell_below (a := ⟨D, 7, none⟩) hT.rt (Nat.lt_succ_self D) _, ownsRow_setCell_below (a := ⟨D, 7, none⟩) hT.ro (Nat.lt_succ_self D) _,
           fun e => absurd (f12t.symm.trans (up_false e)) (by decide), fun e => up_un (by decide) (hT.n6 (up_false e)), fun e => up_un (by decide) (hT.n10 (up_false e)), fun e => up_un (by decide) (hT.n11 (up_false e)), fun e => up_un (by decide) (hT.n12 (up_false e)), fun e => absurd (f15t.symm.trans (up_false e)) (by decide), fun e => by simp at e, fun k a b c => (Below.heap_setCell _ _ _ _ b).trans (hT.oth k a b c)⟩
        have FN : ∀ j, f j = true → lfF D BB VE pu nu cu ne xs f j W (a'.tmps.getD (lfSlot j) undef) → lfF D BB VE pu nu cu ne xs (fun j => if j = 18 then true else f j) j (W.setCell ⟨D, 7, none⟩ (.slice (some ⟨g, 0, none⟩) (ne + 1) c19)) (a'.tmps.getD (lfSlot j) undef) := fun j hj hF => by
          match j, hF with
          | 0, h | 1, h | 2, h | 3, h | 4, h | 5, h | 6, h | 7, h | 8, h | 9, h | 10, h | 13, h | 14, h | 16, h | 17, h | 19, h | 20, h => exact h
          | 11, h => exact fun e => absurd (f12t.symm.trans (up_false e)) (by decide)
          | 12, h => 
            rw [show a'.tmps.getD (lfSlot 12) undef = .slice (some ⟨g, 0, none⟩) (ne + 1) c19 from hy19] at h ⊢
            exact ⟨ownsRow_setCell_below (a := ⟨D, 7, none⟩) h.1 (Nat.lt_succ_self D) _, h.2.1, fun _ => hc7b⟩
          | 15, h | 18, h | 21, h => trivial
          | n + 22, h => exact h.elim
        have HTN := Lib.hid TN
        have HFN := Lib.hid FN
        clear TN FN hs hsb hc7b hd hr
        unfold Oper.wp execOp
        go_simp
        refine ⟨trivial, ?_, ?_⟩
        · have h := HTN.out; simpa using h
        · intro j hj hF
          have h := HFN.out j hj (by simpa using hF)
          simpa using h
      | 19, ho =>
        cases ho
        have f9 := (hpre { on := 2, ground := .data } (by simp) rfl).1
        have q9 : a'.tmps.getD 9 undef = .pointer (some ⟨D, 0, none⟩) := (hpre { on := 2, ground := .data } (by simp) rfl).2
        have e9 := rg_ev q9
        exact rg_same4 (.pointer (some ⟨D, 0, none⟩)) (by unfold Oper.wp execOp; go_simp; all_goals ((try simp only [e9]); (try go_simp); (try rw [if_pos (by omega)]); (try rw [if_neg (by omega)]); first | done | rfl | exact ⟨rfl, rfl⟩ | trivial)) (by simp) rfl (hT.step 19 (by decide) (by decide) (by decide) (by decide) (by decide) (Below.refl _ _)) (fun j v' h => lfF_step 19 (by decide) (Below.refl _ _) hDW h)
      | 20, ho =>
        cases ho
        have f24 := (hpre { on := 19, ground := .data } (by simp) rfl).1
        have q24 : a'.tmps.getD 24 undef = .pointer (some ⟨D, 0, none⟩) := (hpre { on := 19, ground := .data } (by simp) rfl).2
        have e24 := rg_ev q24
        exact rg_same4 (.pointer (some ⟨D, 8, none⟩)) (by unfold Oper.wp execOp; go_simp; all_goals ((try simp only [e24]); (try go_simp); (try rw [if_pos (by omega)]); (try rw [if_neg (by omega)]); first | done | rfl | exact ⟨rfl, rfl⟩ | trivial)) (by simp) rfl (hT.step 20 (by decide) (by decide) (by decide) (by decide) (by decide) (Below.refl _ _)) (fun j v' h => lfF_step 20 (by decide) (Below.refl _ _) hDW h)
      | 21, ho =>
        cases ho
        have f25 := (hpre { on := 20, ground := .data } (by simp) rfl).1
        have q25 : a'.tmps.getD 25 undef = .pointer (some ⟨D, 8, none⟩) := (hpre { on := 20, ground := .data } (by simp) rfl).2
        have f18t : f 18 = true := (hpre { on := 18, ground := .chain } (by simp) rfl).1
        have f12t : f 12 = true := by
          cases h : f 12 with
          | true => rfl
          | false => exact absurd (((hT.n15 (hT.n12 h)).symm.trans f18t).symm) (by decide)
        obtain ⟨x3, x7, x8, hd, d1, d2, d3, d4⟩ := hT.dc
        have e25 := rg_ev q25
        have hzC : W.frozen? ⟨D, 8, none⟩ = false := frozen_of_row _ _ _ _ _ hd
        have hcC : W.cell? ⟨D, 8, none⟩ = some x8 := by unfold dcX at hd; simp [World.cell?, hd]
        have hc7 : W.cell? ⟨D, 7, none⟩ = some x7 := by unfold dcX at hd; simp [World.cell?, hd]
        have hs := heap_setCell_same _ _ 8 _ _ (.slice none 0 0) hd
        have hsb : (W.setCell ⟨D, 8, none⟩ (.slice none 0 0)).heap[D]? = some (.cells (dcX cap s vt x3 vo x7 (.slice none 0 0)) 50 (0, 0)) := by
          rw [hs]; unfold dcX; simp
        have hc7b : (W.setCell ⟨D, 8, none⟩ (.slice none 0 0)).cell? ⟨D, 7, none⟩ = some (x7) := by
          unfold dcX at hsb; simp [World.cell?, hsb]
        have TN : lfT wr D cap s vt vo VE pu nu cu ne xs (fun j => if j = 21 then true else f j) (W.setCell ⟨D, 8, none⟩ (.slice none 0 0)) :=
          ⟨hT.bel.setCell (p := ⟨D, 8, none⟩) (Nat.le_refl D) _, by have := hT.size; simpa using this, ⟨x3, x7, _, hsb, fun e => d1 (up_true (by decide) e), fun e => d2 (up_false e), fun e => by simp at e, fun _ => rfl⟩, ownsRow_setCell_below (a := ⟨D, 8, none⟩) hT.rt (Nat.lt_succ_self D) _, ownsRow_setCell_below (a := ⟨D, 8, none⟩) hT.ro (Nat.lt_succ_self D) _,
           fun e => absurd (f12t.symm.trans (up_false e)) (by decide), fun e => up_un (by decide) (hT.n6 (up_false e)), fun e => up_un (by decide) (hT.n10 (up_false e)), fun e => up_un (by decide) (hT.n11 (up_false e)), fun e => up_un (by decide) (hT.n12 (up_false e)), fun e => up_un (by decide) (hT.n15 (up_false e)), fun e => absurd (f18t.symm.trans (up_false e)) (by decide), fun k a b c => (Below.heap_setCell _ _ _ _ b).trans (hT.oth k a b c)⟩
        have FN : ∀ j, f j = true → lfF D BB VE pu nu cu ne xs f j W (a'.tmps.getD (lfSlot j) undef) → lfF D BB VE pu nu cu ne xs (fun j => if j = 21 then true else f j) j (W.setCell ⟨D, 8, none⟩ (.slice none 0 0)) (a'.tmps.getD (lfSlot j) undef) := fun j hj hF => by
          match j, hF with
          | 0, h | 1, h | 2, h | 3, h | 4, h | 5, h | 6, h | 7, h | 8, h | 9, h | 10, h | 13, h | 14, h | 16, h | 17, h | 19, h | 20, h => exact h
          | 11, h => exact fun e => absurd (f12t.symm.trans (up_false e)) (by decide)
          | 12, h => exact ⟨ownsRow_setCell_below (a := ⟨D, 8, none⟩) h.1 (Nat.lt_succ_self D) _, h.2.1, fun e => hc7b.trans (hc7.symm.trans (h.2.2 (up_true (by decide) e)))⟩
          | 15, h | 18, h | 21, h => trivial
          | n + 22, h => exact h.elim
        have HTN := Lib.hid TN
        have HFN := Lib.hid FN
        clear TN FN hs hsb hc7b hd 
        unfold Oper.wp execOp
        go_simp
        refine ⟨trivial, ?_, ?_⟩
        · have h := HTN.out; simpa using h
        · intro j hj hF
          have h := HFN.out j hj (by simpa using hF)
          simpa using h
      | n + 22, ho => exact absurd ho (by simp)
    case done =>
      intro f vs W hall hT hvs
      have v0 : vs 0 = .pointer (some ⟨D, 0, none⟩) := hvs 0 (by decide)
      have v1 : vs 1 = .pointer (some ⟨D, 0, none⟩) := hvs 1 (by decide)
      have v2 : vs 2 = .pointer (some ⟨D, 0, none⟩) := hvs 2 (by decide)
      have v3 : vs 3 = .pointer (some ⟨D, 0, none⟩) := hvs 3 (by decide)
      have v4 : vs 4 = .pointer (some ⟨D, 0, none⟩) := hvs 4 (by decide)
      have v5 : vs 5 = .pointer (some ⟨D, 7, none⟩) := hvs 5 (by decide)
      have v6 : vs 6 = VE := hvs 6 (by decide)
      have v7 : vs 7 = .pointer (some ⟨D, 0, none⟩) := hvs 7 (by decide)
      have v8 : vs 8 = .pointer (some ⟨D, 0, none⟩) := hvs 8 (by decide)
      have v9 : vs 9 = .pointer (some ⟨D, 8, none⟩) := hvs 9 (by decide)
      have v10 : vs 10 = .slice pu nu cu := hvs 10 (by decide)
      obtain ⟨z11, v11, w11⟩ : ∃ z, vs 11 = z ∧ lfF D BB VE pu nu cu ne xs f 11 W z := ⟨_, rfl, hvs 11 (by decide)⟩
      obtain ⟨z12, v12, w12⟩ : ∃ z, vs 12 = z ∧ lfF D BB VE pu nu cu ne xs f 12 W z := ⟨_, rfl, hvs 12 (by decide)⟩
      have v13 : vs 13 = .pointer (some ⟨D, 0, none⟩) := hvs 13 (by decide)
      have v14 : vs 14 = .pointer (some ⟨D, 3, none⟩) := hvs 14 (by decide)
      obtain ⟨z15, v15, w15⟩ : ∃ z, vs 15 = z ∧ lfF D BB VE pu nu cu ne xs f 15 W z := ⟨_, rfl, hvs 15 (by decide)⟩
      have v16 : vs 16 = .pointer (some ⟨D, 0, none⟩) := hvs 16 (by decide)
      have v17 : vs 17 = .pointer (some ⟨D, 7, none⟩) := hvs 17 (by decide)
      obtain ⟨z18, v18, w18⟩ : ∃ z, vs 18 = z ∧ lfF D BB VE pu nu cu ne xs f 18 W z := ⟨_, rfl, hvs 18 (by decide)⟩
      have v19 : vs 19 = .pointer (some ⟨D, 0, none⟩) := hvs 19 (by decide)
      have v20 : vs 20 = .pointer (some ⟨D, 8, none⟩) := hvs 20 (by decide)
      obtain ⟨z21, v21, w21⟩ : ∃ z, vs 21 = z ∧ lfF D BB VE pu nu cu ne xs f 21 W z := ⟨_, rfl, hvs 21 (by decide)⟩
      simp only [fillN, List.size_toArray, List.length_cons, List.length_nil, Nat.reduceAdd, show List.range 22 = [0, 1, 2, 3, 4, 5, 6, 7, 8, 9, 10, 11, 12, 13, 14, 15, 16, 17, 18, 19, 20, 21] from rfl, List.foldl_cons, List.foldl_nil, show lfSlot 0 = 7 from rfl, show lfSlot 1 = 8 from rfl, show lfSlot 2 = 9 from rfl, show lfSlot 3 = 10 from rfl, show lfSlot 4 = 11 from rfl, show lfSlot 5 = 12 from rfl, show lfSlot 6 = 13 from rfl, show lfSlot 7 = 14 from rfl, show lfSlot 8 = 15 from rfl, show lfSlot 9 = 16 from rfl, show lfSlot 10 = 17 from rfl, show lfSlot 11 = 18 from rfl, show lfSlot 12 = 19 from rfl, show lfSlot 13 = 20 from rfl, show lfSlot 14 = 21 from rfl, show lfSlot 15 = 4 from rfl, show lfSlot 16 = 22 from rfl, show lfSlot 17 = 23 from rfl, show lfSlot 18 = 5 from rfl, show lfSlot 19 = 24 from rfl, show lfSlot 20 = 25 from rfl, show lfSlot 21 = 6 from rfl, v0, v1, v2, v3, v4, v5, v6, v7, v8, v9, v10, v11, v12, v13, v14, v15, v16, v17, v18, v19, v20, v21]
      clear v0 v1 v2 v3 v4 v5 v6 v7 v8 v9 v10 v11 v12 v13 v14 v15 v16 v17 v18 v19 v20 v21 hvs
      obtain ⟨r12, b12, c12⟩ := w12
      obtain ⟨x3, x7, x8, hdc, d1, _, _, d4⟩ := hT.dc
      have e3 := d1 (hall 15 (by decide))
      have e8 := d4 (hall 21 (by decide))
      have e7 : x7 = z12 := by
        have h1 := c12 (hall 18 (by decide))
        have hdc2 := hdc
        unfold dcX at hdc2
        have h2 : W.cell? ⟨D, 7, none⟩ = some x7 := by simp [World.cell?, hdc2]
        rw [h2] at h1; cases h1; rfl
      subst e3 e8 e7
      have hda : DAt W D cap { s with pt := 0, ended := s.ended ++ [s.under], under := [] } vt vo x7 (.slice none 0 0) := by
        refine ⟨hdc, hT.rt, hT.ro, World.ownsRow_nil _ _ _ _, ⟨xs ++ [.slice pu nu cu], ?_, HGP.out.oth HXS.out (fun k a b _ _ c _ => hT.oth k a b c) (nw.refl _ _) (nw.refl _ _) (nw.ex (by rw [HBB.out]; exact b12)) (nw.refl _ _)⟩, HTO.out, fun k _ h => (by cases h), fun k _ h => (by cases h)⟩
        · have e : ({ s with pt := 0, ended := s.ended ++ [s.under], under := [] } : Dn.St).ended.length = ne + 1 := by simp [HNE.out]
          rw [e]
          exact r12
      have HDA := Lib.hid hda
      have HBE := Lib.hid hT.bel
      clear r12 b12 c12 hdc d1 d4 hda hT hall
      go_simp
      go_wp2_with fail
      simp [bodyPost, results, Tryd.results34, go_sem]
      have h1 := of_decide_eq_true HBC.out
      refine ⟨.inl ⟨?_, rfl, ?_⟩, HBE.out⟩
      · unfold Dn.lfs; rw [if_pos h1]; exact HW.out
      · rw [show Dn.lfs c s = { s with pt := 0, ended := s.ended ++ [s.under], under := [] } by unfold Dn.lfs; rw [if_pos h1]]
        exact ⟨_, _, _, _, HDA.out⟩
end Go.Proofs.YtaekcmoogobbjaaDoor

/- dechunk: does, comes. Printed by genN9.py. -/
namespace Go.Proofs.YtaekcmoogobbjaaDoor
set_option linter.unusedVariables false
set_option linter.unusedSimpArgs false
set_option linter.unusedSectionVars false
open Go.RowKit Go.Shelf
set_option maxHeartbeats 8000000
set_option maxRecDepth 100000
variable [Gst]
def dcFs : Array Value := #[.func (.func 31) #[] #[], .func (.func 32) #[] #[], .func (.func 33) #[] #[], .func (.func 34) #[] #[], .func (.func 35) #[] #[]]
theorem dc_does (w : World) :
    Calls Tryd.prog 26 #[] w fun e w' => e = .returned (.agg dcFs) ∧ Below w.heap.size w w' := by
  go_enter Tryd.func26, Tryd.ntmps26
  go_wp2_with fail
  simp [bodyPost, results, Tryd.results26, go_sem]
  exact ⟨rfl, (Below.refl _ _).alloc (Nat.le_refl _) _⟩
theorem DAt.why {w : World} {D cap : Nat} {s : Dn.St} (h : DD w D cap { s with why := 0 }) : DD (w.setCell ⟨D, 9, none⟩ (.int .i64 s.why)) D cap s := by
  obtain ⟨vt, vo, ve, vu, hd⟩ := h
  exact ⟨vt, vo, ve, vu, hd.set (s' := s) 9 (.int .i64 s.why) (by unfold dcC; simp) rfl rfl rfl rfl⟩
def cmT (w0 : World) (_ : Nat → Bool) (w : World) : Prop := Below w0.heap.size w0 w

def cmF (D pt fk : Nat) (x : Int) : Nat → World → Value → Prop
  | 0, _, v => v = .agg dcFs
  | 1, _, v => v = .pointer (some ⟨D, 0, none⟩)
  | 2, _, v => v = .pointer (some ⟨D, 0, none⟩)
  | 3, _, v => v = .pointer (some ⟨D, 3, none⟩)
  | 4, _, v => v = .int .i64 pt
  | 5, _, v => v = .func (.func fk) #[] #[]
  | 6, _, v => v = .pointer (some ⟨D, 0, none⟩)
  | 7, _, v => v = .int .u8 x
  | _, _, _ => False

theorem cmF_any {D pt fk : Nat} {x : Int} {j : Nat} {w w' : World} {v : Value} (h : cmF D pt fk x j w v) : cmF D pt fk x j w' v := by
  match j, h with
  | 0, h | 1, h | 2, h | 3, h | 4, h | 5, h | 6, h | 7, h => exact h
  | n + 8, h => exact h.elim
theorem rg_call00 {P : Program} {o : Oper} {a : Act} {w : World} {K : Act → World → Prop} {Q : Exit → Act → World → Prop} (k : Nat) (ty : Array TypeId) (R : Ending → World → Prop) (ho : o.op = Op.call { callee := .value (.func k), args := #[], argTypes := ty })
    (eg : ∀ args w, (callFunc k args).run P w = .ok (.enter k args) w) (hc : Calls P k #[] w R) (hR : ∀ e w', R e w' → ∃ r, e = .returned r ∧ K (a.put o.dst r) w') : o.wp P a w K Q := by
  have e2 : a.eval (.func k) = .func (.func k) #[] #[] := rfl
  unfold Oper.wp execOp
  simp [ho, resolve, invoke, e2, eg, go_sem]
  refine hc.mono ?_
  intro z w' hz
  obtain ⟨r, rfl, hk⟩ := hR z w' hz
  exact hk

theorem dc_comes_0 (D cap : Nat) (x : Int) (s s' : Dn.St) (w : World) (h : DD w D cap s) (hp : s.pt = 0)
    (KS0 : ∀ W, DD W D cap s → Calls Tryd.prog 31 #[.pointer (some ⟨D, 0, none⟩), .int .u8 x] W fun e w' => stepEnd w' D cap e s' ∧ Below D W w') :
    Calls Tryd.prog 15 #[.pointer (some ⟨D, 0, none⟩), .int .u8 x] w fun e w' => e = .returned (.tuple #[]) ∧ DD w' D cap s' ∧ Below D w w' := by
  have KS := Lib.hid KS0
  have HDD := Lib.hid h
  obtain ⟨_, _, _, _, hd⟩ := h
  have hg := hd.cells
  have HDL := Lib.hid (show D < w.heap.size from (Array.getElem?_eq_some_iff.1 hg).1)
  have HDB := Lib.hid (show D ≤ w.heap.size from Nat.le_of_lt HDL.out)
  unfold dcC at hg
  rw [hp] at hg
  have HA3 := Lib.hid (show w.cell? ⟨D, 3, none⟩ = some (.int .i64 0) by simp [World.cell?, hg])
  have HDR := Lib.hid (show Below w.heap.size w w.drew from (Below.refl _ _).drew)
  clear hd hg KS0 hp
  go_enter_defers Tryd.func15, Tryd.ntmps15
  go_wp2_with fail
  refine region_last2 8 (fun i => 7 + min i 7) (cmF D 0 31 x) (cmT w) (by kernel_rfl) (by kernel_rfl) rfl (by kernel_rfl) (fun i => by show 7 + min i 7 < _; simp; omega) (fun i j hi hj h => by have h : 7 + min i 7 = 7 + min j 7 := h; omega) ?start ?dst ?step ?last
  case dst =>
    intro i o hi ho
    match i, hi, ho with
    | 0, _, ho => cases ho; rfl
    | 1, _, ho => cases ho; rfl
    | 2, _, ho => cases ho; rfl
    | 3, _, ho => cases ho; rfl
    | 4, _, ho => cases ho; rfl
    | 5, _, ho => cases ho; rfl
    | 6, _, ho => cases ho; rfl
    | 7, _, ho => cases ho; rfl
    | n + 8, hi, _ => exact absurd hi (by omega)
  case step =>
    intro f a' W i o hib ho hfi hpre hT hrest
    match i, hib, ho with
    | 0, _, ho =>
      cases ho
      have hK := dc_does W
      exact rg_call00 26 _ _ rfl (enters_of Tryd.func26 (by kernel_rfl) rfl) hK (fun e w' h => ⟨_, h.1, _, rfl, rfl, hT.trans (h.2.mono hT.size), fun j u _ hF => cmF_any hF⟩)
    | 1, _, ho =>
      cases ho
      have q0 : a'.tmps.getD 0 undef = .pointer (some ⟨D, 0, none⟩) := (hrest 0 (by intro i hi; show 7 + min i 7 ≠ _; omega))
      have e0 := rg_ev q0
      exact rg_same2 (.pointer (some ⟨D, 0, none⟩)) (by unfold Oper.wp execOp; go_simp; all_goals ((try simp only [e0]); (try go_simp); (try rw [if_pos (by omega)]); (try rw [if_neg (by omega)]); first | done | rfl | exact ⟨rfl, rfl⟩ | trivial)) rfl (hT)
    | 2, _, ho =>
      cases ho
      have f8 := (hpre { on := 1, ground := .data } (by simp) rfl).1
      have q8 : a'.tmps.getD 8 undef = .pointer (some ⟨D, 0, none⟩) := (hpre { on := 1, ground := .data } (by simp) rfl).2
      have e8 := rg_ev q8
      exact rg_same2 (.pointer (some ⟨D, 0, none⟩)) (by unfold Oper.wp execOp; go_simp; all_goals ((try simp only [e8]); (try go_simp); (try rw [if_pos (by omega)]); (try rw [if_neg (by omega)]); first | done | rfl | exact ⟨rfl, rfl⟩ | trivial)) rfl (hT)
    | 3, _, ho =>
      cases ho
      have f9 := (hpre { on := 2, ground := .data } (by simp) rfl).1
      have q9 : a'.tmps.getD 9 undef = .pointer (some ⟨D, 0, none⟩) := (hpre { on := 2, ground := .data } (by simp) rfl).2
      have e9 := rg_ev q9
      exact rg_same2 (.pointer (some ⟨D, 3, none⟩)) (by unfold Oper.wp execOp; go_simp; all_goals ((try simp only [e9]); (try go_simp); (try rw [if_pos (by omega)]); (try rw [if_neg (by omega)]); first | done | rfl | exact ⟨rfl, rfl⟩ | trivial)) rfl (hT)
    | 4, _, ho =>
      cases ho
      have f10 := (hpre { on := 3, ground := .data } (by simp) rfl).1
      have q10 : a'.tmps.getD 10 undef = .pointer (some ⟨D, 3, none⟩) := (hpre { on := 3, ground := .data } (by simp) rfl).2
      have a3 : W.cell? ⟨D, 3, none⟩ = some (.int .i64 0) := (hT.cell HDL.out).trans HA3.out
      have e10 := rg_ev q10
      exact rg_same2 (.int .i64 0) (by unfold Oper.wp execOp; go_simp; all_goals ((try simp only [e10]); (try go_simp); (try rw [if_pos (by omega)]); (try rw [if_neg (by omega)]); first | done | rfl | exact ⟨rfl, rfl⟩ | trivial)) rfl (hT)
    | 5, _, ho =>
      cases ho
      have f7 := (hpre { on := 0, ground := .data } (by simp) rfl).1
      have q7 : a'.tmps.getD 7 undef = .agg dcFs := (hpre { on := 0, ground := .data } (by simp) rfl).2
      have f11 := (hpre { on := 4, ground := .data } (by simp) rfl).1
      have q11 : a'.tmps.getD 11 undef = .int .i64 0 := (hpre { on := 4, ground := .data } (by simp) rfl).2
      have hfs : dcFs = #[.func (.func 31) #[] #[], .func (.func 32) #[] #[], .func (.func 33) #[] #[], .func (.func 34) #[] #[], .func (.func 35) #[] #[]] := rfl
      rw [hfs] at q7
      have e7 := rg_ev q7
      have e11 := rg_ev q11
      exact rg_same2 (.func (.func 31) #[] #[]) (by unfold Oper.wp execOp; go_simp; all_goals ((try simp only [e7, e11]); (try go_simp); (try rw [if_pos (by omega)]); (try rw [if_neg (by omega)]); first | done | rfl | exact ⟨rfl, rfl⟩ | trivial)) rfl (hT)
    | 6, _, ho =>
      cases ho
      have q0 : a'.tmps.getD 0 undef = .pointer (some ⟨D, 0, none⟩) := (hrest 0 (by intro i hi; show 7 + min i 7 ≠ _; omega))
      have e0 := rg_ev q0
      exact rg_same2 (.pointer (some ⟨D, 0, none⟩)) (by unfold Oper.wp execOp; go_simp; all_goals ((try simp only [e0]); (try go_simp); (try rw [if_pos (by omega)]); (try rw [if_neg (by omega)]); first | done | rfl | exact ⟨rfl, rfl⟩ | trivial)) rfl (hT)
    | 7, _, ho =>
      cases ho
      have q1 : a'.tmps.getD 1 undef = .int .u8 x := (hrest 1 (by intro i hi; show 7 + min i 7 ≠ _; omega))
      have e1 := rg_ev q1
      exact rg_same2 (.int .u8 x) (by unfold Oper.wp execOp; go_simp; all_goals ((try simp only [e1]); (try go_simp); (try rw [if_pos (by omega)]); (try rw [if_neg (by omega)]); first | done | rfl | exact ⟨rfl, rfl⟩ | trivial)) rfl (hT)
    | n + 8, hib, _ => exact absurd hib (by omega)
  case last =>
    intro f vs W oL ho hall hT hvs
    have hopL : oL.op = Op.call { callee := .value (.tmp 12), args := #[.tmp 13, .tmp 14], argTypes := #[24, 5] } := by cases ho; rfl
    have hdsL : oL.dst = some 15 := by cases ho; rfl
    clear ho hall
    have v0 : vs 0 = .agg dcFs := hvs 0 (by decide)
    have v1 : vs 1 = .pointer (some ⟨D, 0, none⟩) := hvs 1 (by decide)
    have v2 : vs 2 = .pointer (some ⟨D, 0, none⟩) := hvs 2 (by decide)
    have v3 : vs 3 = .pointer (some ⟨D, 3, none⟩) := hvs 3 (by decide)
    have v4 : vs 4 = .int .i64 0 := hvs 4 (by decide)
    have v5 : vs 5 = .func (.func 31) #[] #[] := hvs 5 (by decide)
    have v6 : vs 6 = .pointer (some ⟨D, 0, none⟩) := hvs 6 (by decide)
    have v7 : vs 7 = .int .u8 x := hvs 7 (by decide)
    simp only [fillN, List.size_toArray, List.length_cons, List.length_nil, Nat.reduceAdd, show List.range 8 = [0, 1, 2, 3, 4, 5, 6, 7] from rfl, List.foldl_cons, List.foldl_nil, show 7 + min 0 7 = 7 from rfl, show 7 + min 1 7 = 8 from rfl, show 7 + min 2 7 = 9 from rfl, show 7 + min 3 7 = 10 from rfl, show 7 + min 4 7 = 11 from rfl, show 7 + min 5 7 = 12 from rfl, show 7 + min 6 7 = 13 from rfl, show 7 + min 7 7 = 14 from rfl, v0, v1, v2, v3, v4, v5, v6, v7]
    clear v0 v1 v2 v3 v4 v5 v6 v7 hvs
    have eg := enters_of Tryd.func31 (by kernel_rfl) rfl
    have HTW := Lib.hid (show Below w.heap.size w W from hT)
    unfold Oper.wp execOp
    simp [hopL, hdsL, resolve, invoke, eg, go_sem]
    refine (KS.out W (HDD.out.below HTW.out)).mono ?_
    rintro e w7 ⟨hst, hb7⟩
    have HB7 := Lib.hid ((HTW.out.mono HDB.out).trans hb7)
    clear hT hopL hdsL hb7
    rcases hst with ⟨hy, rfl, hdd⟩ | ⟨hy, rfl, hdd⟩
    · have HDN := Lib.hid hdd
      clear hdd
      go_wp2_with fail
      refine leaves_cons (f := 25) (args := #[.pointer (some ⟨D, 9, none⟩)]) (by simp) (by simp [go_sem]) ?_
      refine (dc_caught_idle _ _).mono ?_
      rintro e u' w'' ⟨rfl, rfl, rfl⟩
      simp [Leaves, settle, results, Tryd.results15, go_sem]
      exact ⟨HDN.out, HB7.out⟩
    · have HDN := Lib.hid hdd
      obtain ⟨_, _, _, _, hd7⟩ := hdd
      have hg7 := hd7.cells
      have y9 : w7.frozen? ⟨D, 9, none⟩ = false := frozen_of_row _ _ _ _ _ hg7
      have a9 : w7.cell? ⟨D, 9, none⟩ = some (.int .i64 (0 : Nat)) := by unfold dcC at hg7; simp [World.cell?, hg7]
      clear hd7 hg7
      refine leaves_cons (f := 25) (args := #[.pointer (some ⟨D, 9, none⟩)]) (by simp) (by simp [go_sem]) ?_
      refine (dc_caught ⟨D, 9, none⟩ s'.why [] w7 _ a9 y9).mono ?_
      rintro e u' w'' ⟨rfl, rfl, rfl⟩
      simp [Leaves, settle, results, Tryd.results15, go_sem]
      exact ⟨DAt.why HDN.out, HB7.out.setCell (p := ⟨D, 9, none⟩) (Nat.le_refl D) _⟩
  case start => exact HDR.out

theorem dc_comes_1 (D cap : Nat) (x : Int) (s s' : Dn.St) (w : World) (h : DD w D cap s) (hp : s.pt = 1)
    (KS0 : ∀ W, DD W D cap s → Calls Tryd.prog 32 #[.pointer (some ⟨D, 0, none⟩), .int .u8 x] W fun e w' => stepEnd w' D cap e s' ∧ Below D W w') :
    Calls Tryd.prog 15 #[.pointer (some ⟨D, 0, none⟩), .int .u8 x] w fun e w' => e = .returned (.tuple #[]) ∧ DD w' D cap s' ∧ Below D w w' := by
  have KS := Lib.hid KS0
  have HDD := Lib.hid h
  obtain ⟨_, _, _, _, hd⟩ := h
  have hg := hd.cells
  have HDL := Lib.hid (show D < w.heap.size from (Array.getElem?_eq_some_iff.1 hg).1)
  have HDB := Lib.hid (show D ≤ w.heap.size from Nat.le_of_lt HDL.out)
  unfold dcC at hg
  rw [hp] at hg
  have HA3 := Lib.hid (show w.cell? ⟨D, 3, none⟩ = some (.int .i64 1) by simp [World.cell?, hg])
  have HDR := Lib.hid (show Below w.heap.size w w.drew from (Below.refl _ _).drew)
  clear hd hg KS0 hp
  go_enter_defers Tryd.func15, Tryd.ntmps15
  go_wp2_with fail
  refine region_last2 8 (fun i => 7 + min i 7) (cmF D 1 32 x) (cmT w) (by kernel_rfl) (by kernel_rfl) rfl (by kernel_rfl) (fun i => by show 7 + min i 7 < _; simp; omega) (fun i j hi hj h => by have h : 7 + min i 7 = 7 + min j 7 := h; omega) ?start ?dst ?step ?last
  case dst =>
    intro i o hi ho
    match i, hi, ho with
    | 0, _, ho => cases ho; rfl
    | 1, _, ho => cases ho; rfl
    | 2, _, ho => cases ho; rfl
    | 3, _, ho => cases ho; rfl
    | 4, _, ho => cases ho; rfl
    | 5, _, ho => cases ho; rfl
    | 6, _, ho => cases ho; rfl
    | 7, _, ho => cases ho; rfl
    | n + 8, hi, _ => exact absurd hi (by omega)
  case step =>
    intro f a' W i o hib ho hfi hpre hT hrest
    match i, hib, ho with
    | 0, _, ho =>
      cases ho
      have hK := dc_does W
      exact rg_call00 26 _ _ rfl (enters_of Tryd.func26 (by kernel_rfl) rfl) hK (fun e w' h => ⟨_, h.1, _, rfl, rfl, hT.trans (h.2.mono hT.size), fun j u _ hF => cmF_any hF⟩)
    | 1, _, ho =>
      cases ho
      have q0 : a'.tmps.getD 0 undef = .pointer (some ⟨D, 0, none⟩) := (hrest 0 (by intro i hi; show 7 + min i 7 ≠ _; omega))
      have e0 := rg_ev q0
      exact rg_same2 (.pointer (some ⟨D, 0, none⟩)) (by unfold Oper.wp execOp; go_simp; all_goals ((try simp only [e0]); (try go_simp); (try rw [if_pos (by omega)]); (try rw [if_neg (by omega)]); first | done | rfl | exact ⟨rfl, rfl⟩ | trivial)) rfl (hT)
    | 2, _, ho =>
      cases ho
      have f8 := (hpre { on := 1, ground := .data } (by simp) rfl).1
      have q8 : a'.tmps.getD 8 undef = .pointer (some ⟨D, 0, none⟩) := (hpre { on := 1, ground := .data } (by simp) rfl).2
      have e8 := rg_ev q8
      exact rg_same2 (.pointer (some ⟨D, 0, none⟩)) (by unfold Oper.wp execOp; go_simp; all_goals ((try simp only [e8]); (try go_simp); (try rw [if_pos (by omega)]); (try rw [if_neg (by omega)]); first | done | rfl | exact ⟨rfl, rfl⟩ | trivial)) rfl (hT)
    | 3, _, ho =>
      cases ho
      have f9 := (hpre { on := 2, ground := .data } (by simp) rfl).1
      have q9 : a'.tmps.getD 9 undef = .pointer (some ⟨D, 0, none⟩) := (hpre { on := 2, ground := .data } (by simp) rfl).2
      have e9 := rg_ev q9
      exact rg_same2 (.pointer (some ⟨D, 3, none⟩)) (by unfold Oper.wp execOp; go_simp; all_goals ((try simp only [e9]); (try go_simp); (try rw [if_pos (by omega)]); (try rw [if_neg (by omega)]); first | done | rfl | exact ⟨rfl, rfl⟩ | trivial)) rfl (hT)
    | 4, _, ho =>
      cases ho
      have f10 := (hpre { on := 3, ground := .data } (by simp) rfl).1
      have q10 : a'.tmps.getD 10 undef = .pointer (some ⟨D, 3, none⟩) := (hpre { on := 3, ground := .data } (by simp) rfl).2
      have a3 : W.cell? ⟨D, 3, none⟩ = some (.int .i64 1) := (hT.cell HDL.out).trans HA3.out
      have e10 := rg_ev q10
      exact rg_same2 (.int .i64 1) (by unfold Oper.wp execOp; go_simp; all_goals ((try simp only [e10]); (try go_simp); (try rw [if_pos (by omega)]); (try rw [if_neg (by omega)]); first | done | rfl | exact ⟨rfl, rfl⟩ | trivial)) rfl (hT)
    | 5, _, ho =>
      cases ho
      have f7 := (hpre { on := 0, ground := .data } (by simp) rfl).1
      have q7 : a'.tmps.getD 7 undef = .agg dcFs := (hpre { on := 0, ground := .data } (by simp) rfl).2
      have f11 := (hpre { on := 4, ground := .data } (by simp) rfl).1
      have q11 : a'.tmps.getD 11 undef = .int .i64 1 := (hpre { on := 4, ground := .data } (by simp) rfl).2
      have hfs : dcFs = #[.func (.func 31) #[] #[], .func (.func 32) #[] #[], .func (.func 33) #[] #[], .func (.func 34) #[] #[], .func (.func 35) #[] #[]] := rfl
      rw [hfs] at q7
      have e7 := rg_ev q7
      have e11 := rg_ev q11
      exact rg_same2 (.func (.func 32) #[] #[]) (by unfold Oper.wp execOp; go_simp; all_goals ((try simp only [e7, e11]); (try go_simp); (try rw [if_pos (by omega)]); (try rw [if_neg (by omega)]); first | done | rfl | exact ⟨rfl, rfl⟩ | trivial)) rfl (hT)
    | 6, _, ho =>
      cases ho
      have q0 : a'.tmps.getD 0 undef = .pointer (some ⟨D, 0, none⟩) := (hrest 0 (by intro i hi; show 7 + min i 7 ≠ _; omega))
      have e0 := rg_ev q0
      exact rg_same2 (.pointer (some ⟨D, 0, none⟩)) (by unfold Oper.wp execOp; go_simp; all_goals ((try simp only [e0]); (try go_simp); (try rw [if_pos (by omega)]); (try rw [if_neg (by omega)]); first | done | rfl | exact ⟨rfl, rfl⟩ | trivial)) rfl (hT)
    | 7, _, ho =>
      cases ho
      have q1 : a'.tmps.getD 1 undef = .int .u8 x := (hrest 1 (by intro i hi; show 7 + min i 7 ≠ _; omega))
      have e1 := rg_ev q1
      exact rg_same2 (.int .u8 x) (by unfold Oper.wp execOp; go_simp; all_goals ((try simp only [e1]); (try go_simp); (try rw [if_pos (by omega)]); (try rw [if_neg (by omega)]); first | done | rfl | exact ⟨rfl, rfl⟩ | trivial)) rfl (hT)
    | n + 8, hib, _ => exact absurd hib (by omega)
  case last =>
    intro f vs W oL ho hall hT hvs
    have hopL : oL.op = Op.call { callee := .value (.tmp 12), args := #[.tmp 13, .tmp 14], argTypes := #[24, 5] } := by cases ho; rfl
    have hdsL : oL.dst = some 15 := by cases ho; rfl
    clear ho hall
    have v0 : vs 0 = .agg dcFs := hvs 0 (by decide)
    have v1 : vs 1 = .pointer (some ⟨D, 0, none⟩) := hvs 1 (by decide)
    have v2 : vs 2 = .pointer (some ⟨D, 0, none⟩) := hvs 2 (by decide)
    have v3 : vs 3 = .pointer (some ⟨D, 3, none⟩) := hvs 3 (by decide)
    have v4 : vs 4 = .int .i64 1 := hvs 4 (by decide)
    have v5 : vs 5 = .func (.func 32) #[] #[] := hvs 5 (by decide)
    have v6 : vs 6 = .pointer (some ⟨D, 0, none⟩) := hvs 6 (by decide)
    have v7 : vs 7 = .int .u8 x := hvs 7 (by decide)
    simp only [fillN, List.size_toArray, List.length_cons, List.length_nil, Nat.reduceAdd, show List.range 8 = [0, 1, 2, 3, 4, 5, 6, 7] from rfl, List.foldl_cons, List.foldl_nil, show 7 + min 0 7 = 7 from rfl, show 7 + min 1 7 = 8 from rfl, show 7 + min 2 7 = 9 from rfl, show 7 + min 3 7 = 10 from rfl, show 7 + min 4 7 = 11 from rfl, show 7 + min 5 7 = 12 from rfl, show 7 + min 6 7 = 13 from rfl, show 7 + min 7 7 = 14 from rfl, v0, v1, v2, v3, v4, v5, v6, v7]
    clear v0 v1 v2 v3 v4 v5 v6 v7 hvs
    have eg := enters_of Tryd.func32 (by kernel_rfl) rfl
    have HTW := Lib.hid (show Below w.heap.size w W from hT)
    unfold Oper.wp execOp
    simp [hopL, hdsL, resolve, invoke, eg, go_sem]
    refine (KS.out W (HDD.out.below HTW.out)).mono ?_
    rintro e w7 ⟨hst, hb7⟩
    have HB7 := Lib.hid ((HTW.out.mono HDB.out).trans hb7)
    clear hT hopL hdsL hb7
    rcases hst with ⟨hy, rfl, hdd⟩ | ⟨hy, rfl, hdd⟩
    · have HDN := Lib.hid hdd
      clear hdd
      go_wp2_with fail
      refine leaves_cons (f := 25) (args := #[.pointer (some ⟨D, 9, none⟩)]) (by simp) (by simp [go_sem]) ?_
      refine (dc_caught_idle _ _).mono ?_
      rintro e u' w'' ⟨rfl, rfl, rfl⟩
      simp [Leaves, settle, results, Tryd.results15, go_sem]
      exact ⟨HDN.out, HB7.out⟩
    · have HDN := Lib.hid hdd
      obtain ⟨_, _, _, _, hd7⟩ := hdd
      have hg7 := hd7.cells
      have y9 : w7.frozen? ⟨D, 9, none⟩ = false := frozen_of_row _ _ _ _ _ hg7
      have a9 : w7.cell? ⟨D, 9, none⟩ = some (.int .i64 (0 : Nat)) := by unfold dcC at hg7; simp [World.cell?, hg7]
      clear hd7 hg7
      refine leaves_cons (f := 25) (args := #[.pointer (some ⟨D, 9, none⟩)]) (by simp) (by simp [go_sem]) ?_
      refine (dc_caught ⟨D, 9, none⟩ s'.why [] w7 _ a9 y9).mono ?_
      rintro e u' w'' ⟨rfl, rfl, rfl⟩
      simp [Leaves, settle, results, Tryd.results15, go_sem]
      exact ⟨DAt.why HDN.out, HB7.out.setCell (p := ⟨D, 9, none⟩) (Nat.le_refl D) _⟩
  case start => exact HDR.out

theorem dc_comes_2 (D cap : Nat) (x : Int) (s s' : Dn.St) (w : World) (h : DD w D cap s) (hp : s.pt = 2)
    (KS0 : ∀ W, DD W D cap s → Calls Tryd.prog 33 #[.pointer (some ⟨D, 0, none⟩), .int .u8 x] W fun e w' => stepEnd w' D cap e s' ∧ Below D W w') :
    Calls Tryd.prog 15 #[.pointer (some ⟨D, 0, none⟩), .int .u8 x] w fun e w' => e = .returned (.tuple #[]) ∧ DD w' D cap s' ∧ Below D w w' := by
  have KS := Lib.hid KS0
  have HDD := Lib.hid h
  obtain ⟨_, _, _, _, hd⟩ := h
  have hg := hd.cells
  have HDL := Lib.hid (show D < w.heap.size from (Array.getElem?_eq_some_iff.1 hg).1)
  have HDB := Lib.hid (show D ≤ w.heap.size from Nat.le_of_lt HDL.out)
  unfold dcC at hg
  rw [hp] at hg
  have HA3 := Lib.hid (show w.cell? ⟨D, 3, none⟩ = some (.int .i64 2) by simp [World.cell?, hg])
  have HDR := Lib.hid (show Below w.heap.size w w.drew from (Below.refl _ _).drew)
  clear hd hg KS0 hp
  go_enter_defers Tryd.func15, Tryd.ntmps15
  go_wp2_with fail
  refine region_last2 8 (fun i => 7 + min i 7) (cmF D 2 33 x) (cmT w) (by kernel_rfl) (by kernel_rfl) rfl (by kernel_rfl) (fun i => by show 7 + min i 7 < _; simp; omega) (fun i j hi hj h => by have h : 7 + min i 7 = 7 + min j 7 := h; omega) ?start ?dst ?step ?last
  case dst =>
    intro i o hi ho
    match i, hi, ho with
    | 0, _, ho => cases ho; rfl
    | 1, _, ho => cases ho; rfl
    | 2, _, ho => cases ho; rfl
    | 3, _, ho => cases ho; rfl
    | 4, _, ho => cases ho; rfl
    | 5, _, ho => cases ho; rfl
    | 6, _, ho => cases ho; rfl
    | 7, _, ho => cases ho; rfl
    | n + 8, hi, _ => exact absurd hi (by omega)
  case step =>
    intro f a' W i o hib ho hfi hpre hT hrest
    match i, hib, ho with
    | 0, _, ho =>
      cases ho
      have hK := dc_does W
      exact rg_call00 26 _ _ rfl (enters_of Tryd.func26 (by kernel_rfl) rfl) hK (fun e w' h => ⟨_, h.1, _, rfl, rfl, hT.trans (h.2.mono hT.size), fun j u _ hF => cmF_any hF⟩)
    | 1, _, ho =>
      cases ho
      have q0 : a'.tmps.getD 0 undef = .pointer (some ⟨D, 0, none⟩) := (hrest 0 (by intro i hi; show 7 + min i 7 ≠ _; omega))
      have e0 := rg_ev q0
      exact rg_same2 (.pointer (some ⟨D, 0, none⟩)) (by unfold Oper.wp execOp; go_simp; all_goals ((try simp only [e0]); (try go_simp); (try rw [if_pos (by omega)]); (try rw [if_neg (by omega)]); first | done | rfl | exact ⟨rfl, rfl⟩ | trivial)) rfl (hT)
    | 2, _, ho =>
      cases ho
      have f8 := (hpre { on := 1, ground := .data } (by simp) rfl).1
      have q8 : a'.tmps.getD 8 undef = .pointer (some ⟨D, 0, none⟩) := (hpre { on := 1, ground := .data } (by simp) rfl).2
      have e8 := rg_ev q8
      exact rg_same2 (.pointer (some ⟨D, 0, none⟩)) (by unfold Oper.wp execOp; go_simp; all_goals ((try simp only [e8]); (try go_simp); (try rw [if_pos (by omega)]); (try rw [if_neg (by omega)]); first | done | rfl | exact ⟨rfl, rfl⟩ | trivial)) rfl (hT)
    | 3, _, ho =>
      cases ho
      have f9 := (hpre { on := 2, ground := .data } (by simp) rfl).1
      have q9 : a'.tmps.getD 9 undef = .pointer (some ⟨D, 0, none⟩) := (hpre { on := 2, ground := .data } (by simp) rfl).2
      have e9 := rg_ev q9
      exact rg_same2 (.pointer (some ⟨D, 3, none⟩)) (by unfold Oper.wp execOp; go_simp; all_goals ((try simp only [e9]); (try go_simp); (try rw [if_pos (by omega)]); (try rw [if_neg (by omega)]); first | done | rfl | exact ⟨rfl, rfl⟩ | trivial)) rfl (hT)
    | 4, _, ho =>
      cases ho
      have f10 := (hpre { on := 3, ground := .data } (by simp) rfl).1
      have q10 : a'.tmps.getD 10 undef = .pointer (some ⟨D, 3, none⟩) := (hpre { on := 3, ground := .data } (by simp) rfl).2
      have a3 : W.cell? ⟨D, 3, none⟩ = some (.int .i64 2) := (hT.cell HDL.out).trans HA3.out
      have e10 := rg_ev q10
      exact rg_same2 (.int .i64 2) (by unfold Oper.wp execOp; go_simp; all_goals ((try simp only [e10]); (try go_simp); (try rw [if_pos (by omega)]); (try rw [if_neg (by omega)]); first | done | rfl | exact ⟨rfl, rfl⟩ | trivial)) rfl (hT)
    | 5, _, ho =>
      cases ho
      have f7 := (hpre { on := 0, ground := .data } (by simp) rfl).1
      have q7 : a'.tmps.getD 7 undef = .agg dcFs := (hpre { on := 0, ground := .data } (by simp) rfl).2
      have f11 := (hpre { on := 4, ground := .data } (by simp) rfl).1
      have q11 : a'.tmps.getD 11 undef = .int .i64 2 := (hpre { on := 4, ground := .data } (by simp) rfl).2
      have hfs : dcFs = #[.func (.func 31) #[] #[], .func (.func 32) #[] #[], .func (.func 33) #[] #[], .func (.func 34) #[] #[], .func (.func 35) #[] #[]] := rfl
      rw [hfs] at q7
      have e7 := rg_ev q7
      have e11 := rg_ev q11
      exact rg_same2 (.func (.func 33) #[] #[]) (by unfold Oper.wp execOp; go_simp; all_goals ((try simp only [e7, e11]); (try go_simp); (try rw [if_pos (by omega)]); (try rw [if_neg (by omega)]); first | done | rfl | exact ⟨rfl, rfl⟩ | trivial)) rfl (hT)
    | 6, _, ho =>
      cases ho
      have q0 : a'.tmps.getD 0 undef = .pointer (some ⟨D, 0, none⟩) := (hrest 0 (by intro i hi; show 7 + min i 7 ≠ _; omega))
      have e0 := rg_ev q0
      exact rg_same2 (.pointer (some ⟨D, 0, none⟩)) (by unfold Oper.wp execOp; go_simp; all_goals ((try simp only [e0]); (try go_simp); (try rw [if_pos (by omega)]); (try rw [if_neg (by omega)]); first | done | rfl | exact ⟨rfl, rfl⟩ | trivial)) rfl (hT)
    | 7, _, ho =>
      cases ho
      have q1 : a'.tmps.getD 1 undef = .int .u8 x := (hrest 1 (by intro i hi; show 7 + min i 7 ≠ _; omega))
      have e1 := rg_ev q1
      exact rg_same2 (.int .u8 x) (by unfold Oper.wp execOp; go_simp; all_goals ((try simp only [e1]); (try go_simp); (try rw [if_pos (by omega)]); (try rw [if_neg (by omega)]); first | done | rfl | exact ⟨rfl, rfl⟩ | trivial)) rfl (hT)
    | n + 8, hib, _ => exact absurd hib (by omega)
  case last =>
    intro f vs W oL ho hall hT hvs
    have hopL : oL.op = Op.call { callee := .value (.tmp 12), args := #[.tmp 13, .tmp 14], argTypes := #[24, 5] } := by cases ho; rfl
    have hdsL : oL.dst = some 15 := by cases ho; rfl
    clear ho hall
    have v0 : vs 0 = .agg dcFs := hvs 0 (by decide)
    have v1 : vs 1 = .pointer (some ⟨D, 0, none⟩) := hvs 1 (by decide)
    have v2 : vs 2 = .pointer (some ⟨D, 0, none⟩) := hvs 2 (by decide)
    have v3 : vs 3 = .pointer (some ⟨D, 3, none⟩) := hvs 3 (by decide)
    have v4 : vs 4 = .int .i64 2 := hvs 4 (by decide)
    have v5 : vs 5 = .func (.func 33) #[] #[] := hvs 5 (by decide)
    have v6 : vs 6 = .pointer (some ⟨D, 0, none⟩) := hvs 6 (by decide)
    have v7 : vs 7 = .int .u8 x := hvs 7 (by decide)
    simp only [fillN, List.size_toArray, List.length_cons, List.length_nil, Nat.reduceAdd, show List.range 8 = [0, 1, 2, 3, 4, 5, 6, 7] from rfl, List.foldl_cons, List.foldl_nil, show 7 + min 0 7 = 7 from rfl, show 7 + min 1 7 = 8 from rfl, show 7 + min 2 7 = 9 from rfl, show 7 + min 3 7 = 10 from rfl, show 7 + min 4 7 = 11 from rfl, show 7 + min 5 7 = 12 from rfl, show 7 + min 6 7 = 13 from rfl, show 7 + min 7 7 = 14 from rfl, v0, v1, v2, v3, v4, v5, v6, v7]
    clear v0 v1 v2 v3 v4 v5 v6 v7 hvs
    have eg := enters_of Tryd.func33 (by kernel_rfl) rfl
    have HTW := Lib.hid (show Below w.heap.size w W from hT)
    unfold Oper.wp execOp
    simp [hopL, hdsL, resolve, invoke, eg, go_sem]
    refine (KS.out W (HDD.out.below HTW.out)).mono ?_
    rintro e w7 ⟨hst, hb7⟩
    have HB7 := Lib.hid ((HTW.out.mono HDB.out).trans hb7)
    clear hT hopL hdsL hb7
    rcases hst with ⟨hy, rfl, hdd⟩ | ⟨hy, rfl, hdd⟩
    · have HDN := Lib.hid hdd
      clear hdd
      go_wp2_with fail
      refine leaves_cons (f := 25) (args := #[.pointer (some ⟨D, 9, none⟩)]) (by simp) (by simp [go_sem]) ?_
      refine (dc_caught_idle _ _).mono ?_
      rintro e u' w'' ⟨rfl, rfl, rfl⟩
      simp [Leaves, settle, results, Tryd.results15, go_sem]
      exact ⟨HDN.out, HB7.out⟩
    · have HDN := Lib.hid hdd
      obtain ⟨_, _, _, _, hd7⟩ := hdd
      have hg7 := hd7.cells
      have y9 : w7.frozen? ⟨D, 9, none⟩ = false := frozen_of_row _ _ _ _ _ hg7
      have a9 : w7.cell? ⟨D, 9, none⟩ = some (.int .i64 (0 : Nat)) := by unfold dcC at hg7; simp [World.cell?, hg7]
      clear hd7 hg7
      refine leaves_cons (f := 25) (args := #[.pointer (some ⟨D, 9, none⟩)]) (by simp) (by simp [go_sem]) ?_
      refine (dc_caught ⟨D, 9, none⟩ s'.why [] w7 _ a9 y9).mono ?_
      rintro e u' w'' ⟨rfl, rfl, rfl⟩
      simp [Leaves, settle, results, Tryd.results15, go_sem]
      exact ⟨DAt.why HDN.out, HB7.out.setCell (p := ⟨D, 9, none⟩) (Nat.le_refl D) _⟩
  case start => exact HDR.out

theorem dc_comes_3 (D cap : Nat) (x : Int) (s s' : Dn.St) (w : World) (h : DD w D cap s) (hp : s.pt = 3)
    (KS0 : ∀ W, DD W D cap s → Calls Tryd.prog 34 #[.pointer (some ⟨D, 0, none⟩), .int .u8 x] W fun e w' => stepEnd w' D cap e s' ∧ Below D W w') :
    Calls Tryd.prog 15 #[.pointer (some ⟨D, 0, none⟩), .int .u8 x] w fun e w' => e = .returned (.tuple #[]) ∧ DD w' D cap s' ∧ Below D w w' := by
  have KS := Lib.hid KS0
  have HDD := Lib.hid h
  obtain ⟨_, _, _, _, hd⟩ := h
  have hg := hd.cells
  have HDL := Lib.hid (show D < w.heap.size from (Array.getElem?_eq_some_iff.1 hg).1)
  have HDB := Lib.hid (show D ≤ w.heap.size from Nat.le_of_lt HDL.out)
  unfold dcC at hg
  rw [hp] at hg
  have HA3 := Lib.hid (show w.cell? ⟨D, 3, none⟩ = some (.int .i64 3) by simp [World.cell?, hg])
  have HDR := Lib.hid (show Below w.heap.size w w.drew from (Below.refl _ _).drew)
  clear hd hg KS0 hp
  go_enter_defers Tryd.func15, Tryd.ntmps15
  go_wp2_with fail
  refine region_last2 8 (fun i => 7 + min i 7) (cmF D 3 34 x) (cmT w) (by kernel_rfl) (by kernel_rfl) rfl (by kernel_rfl) (fun i => by show 7 + min i 7 < _; simp; omega) (fun i j hi hj h => by have h : 7 + min i 7 = 7 + min j 7 := h; omega) ?start ?dst ?step ?last
  case dst =>
    intro i o hi ho
    match i, hi, ho with
    | 0, _, ho => cases ho; rfl
    | 1, _, ho => cases ho; rfl
    | 2, _, ho => cases ho; rfl
    | 3, _, ho => cases ho; rfl
    | 4, _, ho => cases ho; rfl
    | 5, _, ho => cases ho; rfl
    | 6, _, ho => cases ho; rfl
    | 7, _, ho => cases ho; rfl
    | n + 8, hi, _ => exact absurd hi (by omega)
  case step =>
    intro f a' W i o hib ho hfi hpre hT hrest
    match i, hib, ho with
    | 0, _, ho =>
      cases ho
      have hK := dc_does W
      exact rg_call00 26 _ _ rfl (enters_of Tryd.func26 (by kernel_rfl) rfl) hK (fun e w' h => ⟨_, h.1, _, rfl, rfl, hT.trans (h.2.mono hT.size), fun j u _ hF => cmF_any hF⟩)
    | 1, _, ho =>
      cases ho
      have q0 : a'.tmps.getD 0 undef = .pointer (some ⟨D, 0, none⟩) := (hrest 0 (by intro i hi; show 7 + min i 7 ≠ _; omega))
      have e0 := rg_ev q0
      exact rg_same2 (.pointer (some ⟨D, 0, none⟩)) (by unfold Oper.wp execOp; go_simp; all_goals ((try simp only [e0]); (try go_simp); (try rw [if_pos (by omega)]); (try rw [if_neg (by omega)]); first | done | rfl | exact ⟨rfl, rfl⟩ | trivial)) rfl (hT)
    | 2, _, ho =>
      cases ho
      have f8 := (hpre { on := 1, ground := .data } (by simp) rfl).1
      have q8 : a'.tmps.getD 8 undef = .pointer (some ⟨D, 0, none⟩) := (hpre { on := 1, ground := .data } (by simp) rfl).2
      have e8 := rg_ev q8
      exact rg_same2 (.pointer (some ⟨D, 0, none⟩)) (by unfold Oper.wp execOp; go_simp; all_goals ((try simp only [e8]); (try go_simp); (try rw [if_pos (by omega)]); (try rw [if_neg (by omega)]); first | done | rfl | exact ⟨rfl, rfl⟩ | trivial)) rfl (hT)
    | 3, _, ho =>
      cases ho
      have f9 := (hpre { on := 2, ground := .data } (by simp) rfl).1
      have q9 : a'.tmps.getD 9 undef = .pointer (some ⟨D, 0, none⟩) := (hpre { on := 2, ground := .data } (by simp) rfl).2
      have e9 := rg_ev q9
      exact rg_same2 (.pointer (some ⟨D, 3, none⟩)) (by unfold Oper.wp execOp; go_simp; all_goals ((try simp only [e9]); (try go_simp); (try rw [if_pos (by omega)]); (try rw [if_neg (by omega)]); first | done | rfl | exact ⟨rfl, rfl⟩ | trivial)) rfl (hT)
    | 4, _, ho =>
      cases ho
      have f10 := (hpre { on := 3, ground := .data } (by simp) rfl).1
      have q10 : a'.tmps.getD 10 undef = .pointer (some ⟨D, 3, none⟩) := (hpre { on := 3, ground := .data } (by simp) rfl).2
      have a3 : W.cell? ⟨D, 3, none⟩ = some (.int .i64 3) := (hT.cell HDL.out).trans HA3.out
      have e10 := rg_ev q10
      exact rg_same2 (.int .i64 3) (by unfold Oper.wp execOp; go_simp; all_goals ((try simp only [e10]); (try go_simp); (try rw [if_pos (by omega)]); (try rw [if_neg (by omega)]); first | done | rfl | exact ⟨rfl, rfl⟩ | trivial)) rfl (hT)
    | 5, _, ho =>
      cases ho
      have f7 := (hpre { on := 0, ground := .data } (by simp) rfl).1
      have q7 : a'.tmps.getD 7 undef = .agg dcFs := (hpre { on := 0, ground := .data } (by simp) rfl).2
      have f11 := (hpre { on := 4, ground := .data } (by simp) rfl).1
      have q11 : a'.tmps.getD 11 undef = .int .i64 3 := (hpre { on := 4, ground := .data } (by simp) rfl).2
      have hfs : dcFs = #[.func (.func 31) #[] #[], .func (.func 32) #[] #[], .func (.func 33) #[] #[], .func (.func 34) #[] #[], .func (.func 35) #[] #[]] := rfl
      rw [hfs] at q7
      have e7 := rg_ev q7
      have e11 := rg_ev q11
      exact rg_same2 (.func (.func 34) #[] #[]) (by unfold Oper.wp execOp; go_simp; all_goals ((try simp only [e7, e11]); (try go_simp); (try rw [if_pos (by omega)]); (try rw [if_neg (by omega)]); first | done | rfl | exact ⟨rfl, rfl⟩ | trivial)) rfl (hT)
    | 6, _, ho =>
      cases ho
      have q0 : a'.tmps.getD 0 undef = .pointer (some ⟨D, 0, none⟩) := (hrest 0 (by intro i hi; show 7 + min i 7 ≠ _; omega))
      have e0 := rg_ev q0
      exact rg_same2 (.pointer (some ⟨D, 0, none⟩)) (by unfold Oper.wp execOp; go_simp; all_goals ((try simp only [e0]); (try go_simp); (try rw [if_pos (by omega)]); (try rw [if_neg (by omega)]); first | done | rfl | exact ⟨rfl, rfl⟩ | trivial)) rfl (hT)
    | 7, _, ho =>
      cases ho
      have q1 : a'.tmps.getD 1 undef = .int .u8 x := (hrest 1 (by intro i hi; show 7 + min i 7 ≠ _; omega))
      have e1 := rg_ev q1
      exact rg_same2 (.int .u8 x) (by unfold Oper.wp execOp; go_simp; all_goals ((try simp only [e1]); (try go_simp); (try rw [if_pos (by omega)]); (try rw [if_neg (by omega)]); first | done | rfl | exact ⟨rfl, rfl⟩ | trivial)) rfl (hT)
    | n + 8, hib, _ => exact absurd hib (by omega)
  case last =>
    intro f vs W oL ho hall hT hvs
    have hopL : oL.op = Op.call { callee := .value (.tmp 12), args := #[.tmp 13, .tmp 14], argTypes := #[24, 5] } := by cases ho; rfl
    have hdsL : oL.dst = some 15 := by cases ho; rfl
    clear ho hall
    have v0 : vs 0 = .agg dcFs := hvs 0 (by decide)
    have v1 : vs 1 = .pointer (some ⟨D, 0, none⟩) := hvs 1 (by decide)
    have v2 : vs 2 = .pointer (some ⟨D, 0, none⟩) := hvs 2 (by decide)
    have v3 : vs 3 = .pointer (some ⟨D, 3, none⟩) := hvs 3 (by decide)
    have v4 : vs 4 = .int .i64 3 := hvs 4 (by decide)
    have v5 : vs 5 = .func (.func 34) #[] #[] := hvs 5 (by decide)
    have v6 : vs 6 = .pointer (some ⟨D, 0, none⟩) := hvs 6 (by decide)
    have v7 : vs 7 = .int .u8 x := hvs 7 (by decide)
    simp only [fillN, List.size_toArray, List.length_cons, List.length_nil, Nat.reduceAdd, show List.range 8 = [0, 1, 2, 3, 4, 5, 6, 7] from rfl, List.foldl_cons, List.foldl_nil, show 7 + min 0 7 = 7 from rfl, show 7 + min 1 7 = 8 from rfl, show 7 + min 2 7 = 9 from rfl, show 7 + min 3 7 = 10 from rfl, show 7 + min 4 7 = 11 from rfl, show 7 + min 5 7 = 12 from rfl, show 7 + min 6 7 = 13 from rfl, show 7 + min 7 7 = 14 from rfl, v0, v1, v2, v3, v4, v5, v6, v7]
    clear v0 v1 v2 v3 v4 v5 v6 v7 hvs
    have eg := enters_of Tryd.func34 (by kernel_rfl) rfl
    have HTW := Lib.hid (show Below w.heap.size w W from hT)
    unfold Oper.wp execOp
    simp [hopL, hdsL, resolve, invoke, eg, go_sem]
    refine (KS.out W (HDD.out.below HTW.out)).mono ?_
    rintro e w7 ⟨hst, hb7⟩
    have HB7 := Lib.hid ((HTW.out.mono HDB.out).trans hb7)
    clear hT hopL hdsL hb7
    rcases hst with ⟨hy, rfl, hdd⟩ | ⟨hy, rfl, hdd⟩
    · have HDN := Lib.hid hdd
      clear hdd
      go_wp2_with fail
      refine leaves_cons (f := 25) (args := #[.pointer (some ⟨D, 9, none⟩)]) (by simp) (by simp [go_sem]) ?_
      refine (dc_caught_idle _ _).mono ?_
      rintro e u' w'' ⟨rfl, rfl, rfl⟩
      simp [Leaves, settle, results, Tryd.results15, go_sem]
      exact ⟨HDN.out, HB7.out⟩
    · have HDN := Lib.hid hdd
      obtain ⟨_, _, _, _, hd7⟩ := hdd
      have hg7 := hd7.cells
      have y9 : w7.frozen? ⟨D, 9, none⟩ = false := frozen_of_row _ _ _ _ _ hg7
      have a9 : w7.cell? ⟨D, 9, none⟩ = some (.int .i64 (0 : Nat)) := by unfold dcC at hg7; simp [World.cell?, hg7]
      clear hd7 hg7
      refine leaves_cons (f := 25) (args := #[.pointer (some ⟨D, 9, none⟩)]) (by simp) (by simp [go_sem]) ?_
      refine (dc_caught ⟨D, 9, none⟩ s'.why [] w7 _ a9 y9).mono ?_
      rintro e u' w'' ⟨rfl, rfl, rfl⟩
      simp [Leaves, settle, results, Tryd.results15, go_sem]
      exact ⟨DAt.why HDN.out, HB7.out.setCell (p := ⟨D, 9, none⟩) (Nat.le_refl D) _⟩
  case start => exact HDR.out

theorem dc_comes_4 (D cap : Nat) (x : Int) (s s' : Dn.St) (w : World) (h : DD w D cap s) (hp : s.pt = 4)
    (KS0 : ∀ W, DD W D cap s → Calls Tryd.prog 35 #[.pointer (some ⟨D, 0, none⟩), .int .u8 x] W fun e w' => stepEnd w' D cap e s' ∧ Below D W w') :
    Calls Tryd.prog 15 #[.pointer (some ⟨D, 0, none⟩), .int .u8 x] w fun e w' => e = .returned (.tuple #[]) ∧ DD w' D cap s' ∧ Below D w w' := by
  have KS := Lib.hid KS0
  have HDD := Lib.hid h
  obtain ⟨_, _, _, _, hd⟩ := h
  have hg := hd.cells
  have HDL := Lib.hid (show D < w.heap.size from (Array.getElem?_eq_some_iff.1 hg).1)
  have HDB := Lib.hid (show D ≤ w.heap.size from Nat.le_of_lt HDL.out)
  unfold dcC at hg
  rw [hp] at hg
  have HA3 := Lib.hid (show w.cell? ⟨D, 3, none⟩ = some (.int .i64 4) by simp [World.cell?, hg])
  have HDR := Lib.hid (show Below w.heap.size w w.drew from (Below.refl _ _).drew)
  clear hd hg KS0 hp
  go_enter_defers Tryd.func15, Tryd.ntmps15
  go_wp2_with fail
  refine region_last2 8 (fun i => 7 + min i 7) (cmF D 4 35 x) (cmT w) (by kernel_rfl) (by kernel_rfl) rfl (by kernel_rfl) (fun i => by show 7 + min i 7 < _; simp; omega) (fun i j hi hj h => by have h : 7 + min i 7 = 7 + min j 7 := h; omega) ?start ?dst ?step ?last
  case dst =>
    intro i o hi ho
    match i, hi, ho with
    | 0, _, ho => cases ho; rfl
    | 1, _, ho => cases ho; rfl
    | 2, _, ho => cases ho; rfl
    | 3, _, ho => cases ho; rfl
    | 4, _, ho => cases ho; rfl
    | 5, _, ho => cases ho; rfl
    | 6, _, ho => cases ho; rfl
    | 7, _, ho => cases ho; rfl
    | n + 8, hi, _ => exact absurd hi (by omega)
  case step =>
    intro f a' W i o hib ho hfi hpre hT hrest
    match i, hib, ho with
    | 0, _, ho =>
      cases ho
      have hK := dc_does W
      exact rg_call00 26 _ _ rfl (enters_of Tryd.func26 (by kernel_rfl) rfl) hK (fun e w' h => ⟨_, h.1, _, rfl, rfl, hT.trans (h.2.mono hT.size), fun j u _ hF => cmF_any hF⟩)
    | 1, _, ho =>
      cases ho
      have q0 : a'.tmps.getD 0 undef = .pointer (some ⟨D, 0, none⟩) := (hrest 0 (by intro i hi; show 7 + min i 7 ≠ _; omega))
      have e0 := rg_ev q0
      exact rg_same2 (.pointer (some ⟨D, 0, none⟩)) (by unfold Oper.wp execOp; go_simp; all_goals ((try simp only [e0]); (try go_simp); (try rw [if_pos (by omega)]); (try rw [if_neg (by omega)]); first | done | rfl | exact ⟨rfl, rfl⟩ | trivial)) rfl (hT)
    | 2, _, ho =>
      cases ho
      have f8 := (hpre { on := 1, ground := .data } (by simp) rfl).1
      have q8 : a'.tmps.getD 8 undef = .pointer (some ⟨D, 0, none⟩) := (hpre { on := 1, ground := .data } (by simp) rfl).2
      have e8 := rg_ev q8
      exact rg_same2 (.pointer (some ⟨D, 0, none⟩)) (by unfold Oper.wp execOp; go_simp; all_goals ((try simp only [e8]); (try go_simp); (try rw [if_pos (by omega)]); (try rw [if_neg (by omega)]); first | done | rfl | exact ⟨rfl, rfl⟩ | trivial)) rfl (hT)
    | 3, _, ho =>
      cases ho
      have f9 := (hpre { on := 2, ground := .data } (by simp) rfl).1
      have q9 : a'.tmps.getD 9 undef = .pointer (some ⟨D, 0, none⟩) := (hpre { on := 2, ground := .data } (by simp) rfl).2
      have e9 := rg_ev q9
      exact rg_same2 (.pointer (some ⟨D, 3, none⟩)) (by unfold Oper.wp execOp; go_simp; all_goals ((try simp only [e9]); (try go_simp); (try rw [if_pos (by omega)]); (try rw [if_neg (by omega)]); first | done | rfl | exact ⟨rfl, rfl⟩ | trivial)) rfl (hT)
    | 4, _, ho =>
      cases ho
      have f10 := (hpre { on := 3, ground := .data } (by simp) rfl).1
      have q10 : a'.tmps.getD 10 undef = .pointer (some ⟨D, 3, none⟩) := (hpre { on := 3, ground := .data } (by simp) rfl).2
      have a3 : W.cell? ⟨D, 3, none⟩ = some (.int .i64 4) := (hT.cell HDL.out).trans HA3.out
      have e10 := rg_ev q10
      exact rg_same2 (.int .i64 4) (by unfold Oper.wp execOp; go_simp; all_goals ((try simp only [e10]); (try go_simp); (try rw [if_pos (by omega)]); (try rw [if_neg (by omega)]); first | done | rfl | exact ⟨rfl, rfl⟩ | trivial)) rfl (hT)
    | 5, _, ho =>
      cases ho
      have f7 := (hpre { on := 0, ground := .data } (by simp) rfl).1
      have q7 : a'.tmps.getD 7 undef = .agg dcFs := (hpre { on := 0, ground := .data } (by simp) rfl).2
      have f11 := (hpre { on := 4, ground := .data } (by simp) rfl).1
      have q11 : a'.tmps.getD 11 undef = .int .i64 4 := (hpre { on := 4, ground := .data } (by simp) rfl).2
      have hfs : dcFs = #[.func (.func 31) #[] #[], .func (.func 32) #[] #[], .func (.func 33) #[] #[], .func (.func 34) #[] #[], .func (.func 35) #[] #[]] := rfl
      rw [hfs] at q7
      have e7 := rg_ev q7
      have e11 := rg_ev q11
      exact rg_same2 (.func (.func 35) #[] #[]) (by unfold Oper.wp execOp; go_simp; all_goals ((try simp only [e7, e11]); (try go_simp); (try rw [if_pos (by omega)]); (try rw [if_neg (by omega)]); first | done | rfl | exact ⟨rfl, rfl⟩ | trivial)) rfl (hT)
    | 6, _, ho =>
      cases ho
      have q0 : a'.tmps.getD 0 undef = .pointer (some ⟨D, 0, none⟩) := (hrest 0 (by intro i hi; show 7 + min i 7 ≠ _; omega))
      have e0 := rg_ev q0
      exact rg_same2 (.pointer (some ⟨D, 0, none⟩)) (by unfold Oper.wp execOp; go_simp; all_goals ((try simp only [e0]); (try go_simp); (try rw [if_pos (by omega)]); (try rw [if_neg (by omega)]); first | done | rfl | exact ⟨rfl, rfl⟩ | trivial)) rfl (hT)
    | 7, _, ho =>
      cases ho
      have q1 : a'.tmps.getD 1 undef = .int .u8 x := (hrest 1 (by intro i hi; show 7 + min i 7 ≠ _; omega))
      have e1 := rg_ev q1
      exact rg_same2 (.int .u8 x) (by unfold Oper.wp execOp; go_simp; all_goals ((try simp only [e1]); (try go_simp); (try rw [if_pos (by omega)]); (try rw [if_neg (by omega)]); first | done | rfl | exact ⟨rfl, rfl⟩ | trivial)) rfl (hT)
    | n + 8, hib, _ => exact absurd hib (by omega)
  case last =>
    intro f vs W oL ho hall hT hvs
    have hopL : oL.op = Op.call { callee := .value (.tmp 12), args := #[.tmp 13, .tmp 14], argTypes := #[24, 5] } := by cases ho; rfl
    have hdsL : oL.dst = some 15 := by cases ho; rfl
    clear ho hall
    have v0 : vs 0 = .agg dcFs := hvs 0 (by decide)
    have v1 : vs 1 = .pointer (some ⟨D, 0, none⟩) := hvs 1 (by decide)
    have v2 : vs 2 = .pointer (some ⟨D, 0, none⟩) := hvs 2 (by decide)
    have v3 : vs 3 = .pointer (some ⟨D, 3, none⟩) := hvs 3 (by decide)
    have v4 : vs 4 = .int .i64 4 := hvs 4 (by decide)
    have v5 : vs 5 = .func (.func 35) #[] #[] := hvs 5 (by decide)
    have v6 : vs 6 = .pointer (some ⟨D, 0, none⟩) := hvs 6 (by decide)
    have v7 : vs 7 = .int .u8 x := hvs 7 (by decide)
    simp only [fillN, List.size_toArray, List.length_cons, List.length_nil, Nat.reduceAdd, show List.range 8 = [0, 1, 2, 3, 4, 5, 6, 7] from rfl, List.foldl_cons, List.foldl_nil, show 7 + min 0 7 = 7 from rfl, show 7 + min 1 7 = 8 from rfl, show 7 + min 2 7 = 9 from rfl, show 7 + min 3 7 = 10 from rfl, show 7 + min 4 7 = 11 from rfl, show 7 + min 5 7 = 12 from rfl, show 7 + min 6 7 = 13 from rfl, show 7 + min 7 7 = 14 from rfl, v0, v1, v2, v3, v4, v5, v6, v7]
    clear v0 v1 v2 v3 v4 v5 v6 v7 hvs
    have eg := enters_of Tryd.func35 (by kernel_rfl) rfl
    have HTW := Lib.hid (show Below w.heap.size w W from hT)
    unfold Oper.wp execOp
    simp [hopL, hdsL, resolve, invoke, eg, go_sem]
    refine (KS.out W (HDD.out.below HTW.out)).mono ?_
    rintro e w7 ⟨hst, hb7⟩
    have HB7 := Lib.hid ((HTW.out.mono HDB.out).trans hb7)
    clear hT hopL hdsL hb7
    rcases hst with ⟨hy, rfl, hdd⟩ | ⟨hy, rfl, hdd⟩
    · have HDN := Lib.hid hdd
      clear hdd
      go_wp2_with fail
      refine leaves_cons (f := 25) (args := #[.pointer (some ⟨D, 9, none⟩)]) (by simp) (by simp [go_sem]) ?_
      refine (dc_caught_idle _ _).mono ?_
      rintro e u' w'' ⟨rfl, rfl, rfl⟩
      simp [Leaves, settle, results, Tryd.results15, go_sem]
      exact ⟨HDN.out, HB7.out⟩
    · have HDN := Lib.hid hdd
      obtain ⟨_, _, _, _, hd7⟩ := hdd
      have hg7 := hd7.cells
      have y9 : w7.frozen? ⟨D, 9, none⟩ = false := frozen_of_row _ _ _ _ _ hg7
      have a9 : w7.cell? ⟨D, 9, none⟩ = some (.int .i64 (0 : Nat)) := by unfold dcC at hg7; simp [World.cell?, hg7]
      clear hd7 hg7
      refine leaves_cons (f := 25) (args := #[.pointer (some ⟨D, 9, none⟩)]) (by simp) (by simp [go_sem]) ?_
      refine (dc_caught ⟨D, 9, none⟩ s'.why [] w7 _ a9 y9).mono ?_
      rintro e u' w'' ⟨rfl, rfl, rfl⟩
      simp [Leaves, settle, results, Tryd.results15, go_sem]
      exact ⟨DAt.why HDN.out, HB7.out.setCell (p := ⟨D, 9, none⟩) (Nat.le_refl D) _⟩
  case start => exact HDR.out

/-- a byte comes -/
theorem dc_comes (D cap m : Nat) (c : UInt8) (s : Dn.St) (w : World) (h : DD w D cap s) (hok : Dn.Ok cap m s) (hcp : cap ≤ 8192) (hm : m ≤ 100000) (h5 : s.pt ≠ 5) (hw : s.why = 0) :
    Calls Tryd.prog 15 #[.pointer (some ⟨D, 0, none⟩), .int .u8 (c.toNat : Int)] w fun e w' => e = .returned (.tuple #[]) ∧ DD w' D cap (Dn.step cap c s) ∧ Below D w w' := by
  have hln : s.line.length ≤ 8192 := Nat.le_trans hok.line hcp
  have h1 := hok.pt
  rcases (show s.pt = 0 ∨ s.pt = 1 ∨ s.pt = 2 ∨ s.pt = 3 ∨ s.pt = 4 by omega) with hp | hp | hp | hp | hp
  · rw [show Dn.step cap c s = Dn.sizes cap c s by unfold Dn.step; rw [hp]; rfl]
    exact dc_comes_0 D cap _ s _ w h hp (fun W hW => dc_sizes D cap c s W hW hw hln hcp)
  · rw [show Dn.step cap c s = Dn.takes c s by unfold Dn.step; rw [hp]; rfl]
    exact dc_comes_1 D cap _ s _ w h hp (fun W hW => dc_takes D cap c s W hW hw (Nat.le_trans hok.out hm) (Nat.le_trans hok.under hm) (Nat.le_trans hok.many hm) (hok.lft hp) hok.left)
  · rw [show Dn.step cap c s = Dn.crs c s by unfold Dn.step; rw [hp]; rfl]
    exact dc_comes_2 D cap _ s _ w h hp (fun W hW => dc_crs D cap c s W hW hw)
  · rw [show Dn.step cap c s = Dn.lfs c s by unfold Dn.step; rw [hp]; rfl]
    exact dc_comes_3 D cap _ s _ w h hp (fun W hW => dc_lfs D cap c s W hW hw (Nat.le_trans hok.ended hm))
  · rw [show Dn.step cap c s = Dn.lasts cap c s by unfold Dn.step; rw [hp]; rfl]
    exact dc_comes_4 D cap _ s _ w h hp (fun W hW => dc_lasts D cap c s W hW hw hln hcp)

end Go.Proofs.YtaekcmoogobbjaaDoor

/- The library's slices.Grow, Clone and Concat at bytes, and the program's ends of lines. -/
namespace Go.Proofs.YtaekcmoogobbjaaDoor
set_option linter.unusedVariables false
set_option linter.unusedSimpArgs false
open Go.RowKit Go.Shelf
set_option maxHeartbeats 1000000
def grow_ren : Go.Shelf.Ren := ⟨fun | 4 => 49 | n => n, fun | 22 => 22 | 25 => 5 | 0 => 0 | 3 => 3 | 4 => 4 | 9 => 9 | 20 => 20 | n => n, fun | n => n⟩
theorem grow_lays : Go.Proofs.Lays8.n4 Tryd.prog grow_ren := {
  mixed := by kernel_rfl
  f4 := ⟨Tryd.f49.name, by kernel_rfl, Tryd.func49.trans (congrArg some (by kernel_rfl))⟩
  t0 := Tryd.underlying0
  a0 := Tryd.isAgg0
  z0 := Tryd.sizeOf0
  v0 := Tryd.zeroValue0
  t3 := Tryd.underlying3
  a3 := Tryd.isAgg3
  z3 := Tryd.sizeOf3
  v3 := Tryd.zeroValue3
  t4 := Tryd.underlying4
  a4 := Tryd.isAgg4
  z4 := Tryd.sizeOf4
  v4 := Tryd.zeroValue4
  t9 := Tryd.underlying9
  a9 := Tryd.isAgg9
  z9 := Tryd.sizeOf9
  v9 := Tryd.zeroValue9
  t20 := Tryd.underlying20
  a20 := Tryd.isAgg20
  z20 := Tryd.sizeOf20
  v20 := Tryd.zeroValue20
  t22 := Tryd.underlying22
  a22 := Tryd.isAgg22
  z22 := Tryd.sizeOf22
  v22 := Tryd.zeroValue22 }
theorem info8 : (Tryd.prog.info? 5).map (fun i => (i.zero, i.size, i.bytes)) = some (some (.int .u8 0), 1, 1) := by kernel_rfl
theorem zc (k : Nat) : (Builtin.zeroCells (Value.int .u8 0).cells k).size = k := by simp [Builtin.zeroCells, Value.cells]
/-- slices.Grow of nil -/
theorem grow_nil (n : Nat) (w : World) (hn : n ≤ 1000000) :
    Calls Tryd.prog 49 #[.slice none 0 0, .int .i64 (n : Int)] w fun e w' => ∃ r, e = .returned r ∧ w'.ownsRow w.heap.size 5 1 r 0 [] ∧ Below w.heap.size w w' := by
  obtain ⟨i0, hi, hz0, hz1, hz2⟩ := info_parts info8
  by_cases h0 : n = 0
  · subst h0
    exact (Any8.slices_Grow_room grow_lays none 0 0 0 w (by omega) (by omega) (by omega) (by omega)).mono fun e w' ⟨he, hw⟩ => ⟨_, he, by subst hw; exact World.ownsRow_nil _ _ _ _, by subst hw; exact Below.refl _ _⟩
  · refine (Any8.slices_Grow_grow grow_lays i0 (.int .u8 0) hi hz0 (by omega) none 0 0 n [] w (by omega) (by omega) (by rw [hz2]; omega) (by omega) (by simp) (fun _ => rfl) (fun a h => by cases h)).mono ?_
    rintro e w' ⟨rfl, rfl⟩
    have key : ∀ C : Array Value, C.size = grownCap w (0 + n) 0 5 → (w.drew.alloc (.cells C 5)).ownsRow w.heap.size 5 1 (.slice (some ⟨w.heap.size, 0, none⟩) 0 (grownCap w (0 + n) 0 5)) 0 [] := fun C hC =>
      ⟨rfl, .inr ⟨w.heap.size, grownCap w (0 + n) 0 5, C, rfl, Nat.le_refl _, World.alloc_heap_new w.drew _, Nat.zero_le _, grownCap_le_maxLen _ _ _ _ (by unfold maxLen; omega), by rw [hC, Nat.mul_one], by rw [Nat.zero_mul]; rfl⟩⟩
    have h1 := grownCap_ge w (0 + n) 0 5
    exact ⟨_, rfl, key _ (by rw [Array.size_append, Array.size_append, zc, zc]; show 0 + (0 + n - 0) + (grownCap w (0 + n) 0 5 - (0 + n)) = grownCap w (0 + n) 0 5; omega), ((Below.refl _ w).drew).alloc (Nat.le_refl _) _⟩
theorem ck_ends (w : World) : Calls Tryd.prog 39 #[] w fun e w' => e = .returned (.agg #[.int .u8 13, .int .u8 10]) ∧ Below w.heap.size w w' := by
  go_enter Tryd.func39, Tryd.ntmps39
  go_wp2
  refine bodyPost_ret (v := .agg #[.int .u8 13, .int .u8 10]) (by simp [results, Tryd.results39, go_sem]) rfl ⟨rfl, ?_⟩
  exact (Below.refl _ _).alloc (Nat.le_refl _) _
set_option maxRecDepth 100000 in
theorem ck_clone (v : Value) (l : List UInt8) (w : World) (h : BRow w v l) (hl : l.length ≤ 1000000) :
    Calls Tryd.prog 16 #[v] w fun e w' => ∃ r, e = .returned r ∧ BRow w' r l ∧ Below w.heap.size w w' := by
  obtain ⟨i0, hi, hz0, hz1, hz2⟩ := info_parts info8
  obtain ⟨ao, cap, rfl, hc, h⟩ := h
  rcases h with ⟨rfl, rfl, rfl⟩ | ⟨g, o, rfl, h⟩
  · have hq : ∀ W, (binOp BinOp.eql 22 (.slice none 0 0) (.slice none 0 0)).run Tryd.prog W = .ok (.bool true) W := fun W => by kernel_rfl
    go_enter Tryd.func16, Tryd.ntmps16
    go_wp2
    go_ret
    exact ⟨_, rfl, BRow.nil w, Below.refl _ _⟩
  · have hq : ∀ W, (binOp BinOp.eql 22 (.slice (some ⟨g, o, none⟩) l.length cap) (.slice none 0 0)).run Tryd.prog W = .ok (.bool false) W := fun W => by kernel_rfl
    obtain ⟨n, hn⟩ : ∃ n, l.length = n := ⟨_, rfl⟩
    have HN := Lib.hid hn
    rw [hn] at hq ⊢
    have H := Lib.hid h
    have HC := Lib.hid hc
    have hnl : n ≤ 1000000 := by omega
    clear h hc hl hn
    go_enter Tryd.func16, Tryd.ntmps16
    have HO : Hid ((w.alloc (.cells #[] 5)).ownsRow w.heap.size 5 1 (.slice (some ⟨w.heap.size, 0, none⟩) 0 0) 0 []) :=
      ⟨rfl, .inr ⟨w.heap.size, 0, #[], rfl, Nat.le_refl _, World.alloc_heap_new w _, Nat.le_refl _, Nat.zero_le _, rfl, rfl⟩⟩
    go_wp2_with (at_builtin; refine wpList_append_own _ rfl _ _ 22 rfl w.heap.size 5 i0 (.int .u8 0) 1 1 Tryd.underlying22 hi hz0 hz1 hz2 rfl (by decide) _ _ _ rfl HO.out ⟨g, o, none⟩ n cap (l.map by8) rfl ?c1 ?c2 ?c3 ?c4 ?c5 ?c6 ?_)
    case c1 => rw [List.length_map, HN.out, Nat.mul_one]
    case c2 =>
      intro j u hj
      have h := BRow.news H.out j u hj
      rw [Lib.add_plain] at h ⊢
      exact cell_below ((Below.refl _ w).alloc (Nat.le_refl _) _) h
    case c3 => exact fun u hu => by8_one u l hu
    case c4 => unfold maxLen; omega
    case c5 => omega
    case c6 => simp
    intro v' w1 hown hgrow _
    have hB : Below w.heap.size w w1 := ((Below.refl _ w).alloc (Nat.le_refl _) _).grown hgrow (by simp) (fun k hk => by simp [Value.ownBlock] at hk; omega)
    have HR := Lib.hid (BRow.of_own (l := l) hown)
    have HB := Lib.hid hB
    clear hown hgrow hB
    go_wp2
    go_ret
    exact ⟨_, rfl, HR.out, HB.out⟩
/-- the bytes behind one another -/
def cat (L : List (List UInt8)) : List UInt8 := L.flatten
theorem cat_take (L : List (List UInt8)) (k : Nat) (h : k < L.length) : cat (L.take (k + 1)) = cat (L.take k) ++ L.getD k [] := by
  unfold cat
  rw [List.take_succ_eq_append_getElem h, List.flatten_append, List.getD_eq_getElem?_getD, List.getElem?_eq_getElem h]
  simp
theorem cat_len (L : List (List UInt8)) (k : Nat) : (cat (L.take k)).length ≤ (cat L).length := by
  unfold cat
  conv => rhs; rw [← List.take_append_drop k L, List.flatten_append, List.length_append]
  omega
theorem own8_ge {w : World} {B n : Nat} {e : TypeId} {v : Value} {xs : List Value} (h : w.ownsRow B e 1 v n xs) : ∀ k, v.ownBlock = some k → B ≤ k := by
  intro k hk
  rcases h.2 with ⟨rfl, _⟩ | ⟨g, cap, cur, rfl, hg, _⟩
  · simp [Value.ownBlock] at hk
  · have : g = k := by simpa [Value.ownBlock] using hk
    omega
set_option maxRecDepth 100000 in
theorem ck_concat (v : Value) (L : List (List UInt8)) (w : World) (h : BRows w v L) (hl : (cat L).length ≤ 1000000) (hL : L.length ≤ 1000) :
    Calls Tryd.prog 37 #[v] w fun e w' => ∃ r, e = .returned r ∧ BRow w' r (cat L) ∧ Below w.heap.size w w' := by
  obtain ⟨i0, hi, hz0, hz1, hz2⟩ := info_parts info8
  obtain ⟨p, c, rfl, hc, h⟩ := h
  obtain ⟨n, hn⟩ : ∃ n, L.length = n := ⟨_, rfl⟩
  rw [hn] at h hL ⊢
  have H := Lib.hid h
  have HN := Lib.hid hn
  have HC := Lib.hid hc
  have HL := Lib.hid hl
  clear h hn hc hl
  go_enter Tryd.func37, Tryd.ntmps37
  go_wp2_with fail
  go_loop [3, 11] (fun s i => ∃ k : Nat, k ≤ n ∧ i = .int .i64 k ∧ s = .int .i64 ((cat (L.take k)).length : Nat)) (fun _ i => n - (intOf i).toNat)
  case atStart => exact ⟨0, Nat.zero_le _, rfl, rfl⟩
  case round =>
    obtain ⟨k, hk, rfl, rfl⟩ := hrel
    obtain ⟨m, hm⟩ : ∃ m, (cat (L.take k)).length = m := ⟨_, rfl⟩
    have hml : m ≤ 1000000 := by have := cat_len L k; have := HL.out; omega
    rw [hm]
    have HM := Lib.hid hm
    clear hm
    by_cases hlt : k < n
    · obtain ⟨g, o, rfl, hcell⟩ := H.out.resolve_left (by rintro ⟨_, e, _⟩; have := HN.out; rw [e] at this; simp at this; omega)
      obtain ⟨x, hx, hb⟩ := hcell k hlt
      have HX := Lib.hid hb
      obtain ⟨ao, cp, rfl, _, _⟩ := hb
      obtain ⟨q, hq⟩ : ∃ q, (L.getD k []).length = q := ⟨_, rfl⟩
      have HM1 : Hid ((cat (L.take (k + 1))).length = m + q) := Lib.hid (by
        rw [cat_take L k (by rw [HN.out]; exact hlt), List.length_append, HM.out, hq])
      have hq1 : m + q ≤ 1000000 := by have := cat_len L (k + 1); have := HL.out; have := HM1.out; omega
      rw [hq] at hx
      clear hq hcell
      go_wp2_with fail
      go_round
      case rel => exact ⟨k + 1, by omega, by go_num, by rw [HM1.out]; go_num⟩
      case measure => simp [intOf]; omega
    · obtain rfl : k = n := by omega
      have K := Lib.hid (grow_nil m w hml)
      have HT : Hid (L.take k = L) := List.take_of_length_le (by rw [HN.out]; exact Nat.le_refl _)
      go_wp2_with fail
      refine K.out.mono ?_
      rintro e w1 ⟨r, rfl, hr, hb1⟩
      have HR := Lib.hid hr
      have HB1 := Lib.hid hb1
      clear hr hb1
      go_wp2_with fail
      go_loopw [6, 27] (fun v i wr => ∃ j : Nat, j ≤ k ∧ i = .int .i64 j ∧ wr.ownsRow w.heap.size 5 1 v (cat (L.take j)).length ((cat (L.take j)).map by8) ∧ Below w.heap.size w wr) (fun _ i _ => k - (intOf i).toNat)
      case atStart => exact ⟨0, Nat.zero_le _, rfl, HR.out, HB1.out⟩
      case round =>
        obtain ⟨j, hj, rfl, hown, hbj⟩ := hrel
        have HO := Lib.hid hown
        have HBJ := Lib.hid hbj
        clear hown hbj
        by_cases hlt2 : j < k
        · obtain ⟨g, o, rfl, hcell⟩ := H.out.resolve_left (by rintro ⟨_, e, _⟩; have := HN.out; rw [e] at this; simp at this; omega)
          obtain ⟨x, hx, hb⟩ := hcell j hlt2
          have hx := cell_below HBJ.out hx
          have hb := hb.below HBJ.out
          obtain ⟨l, hl⟩ : ∃ l, L.getD j [] = l := ⟨_, rfl⟩
          have HT1 := Lib.hid (cat_take L j (by rw [HN.out]; exact hlt2))
          rw [hl] at hb HT1
          have hlen : (cat (L.take j)).length + l.length ≤ 1000000 := by
            have h1 := cat_len L (j + 1)
            have h2 := HL.out
            rw [HT1.out, List.length_append] at h1
            omega
          have HLN := Lib.hid hlen
          clear hcell hl hlen
          have NX : ∀ (v' : Value) (w1 : World), w1.ownsRow w.heap.size 5 1 v' ((cat (L.take j)).length + l.length) ((cat (L.take j)).map by8 ++ l.map by8) → w1.ownsRow w.heap.size 5 1 v' (cat (L.take (j + 1))).length ((cat (L.take (j + 1))).map by8) := fun v' w1 h => by
            rw [HT1.out, List.length_append, List.map_append]; exact h
          have HNX := Lib.hid NX
          clear NX
          obtain ⟨ao, cp, rfl, _, hd⟩ := hb
          rcases hd with ⟨rfl, rfl, rfl⟩ | ⟨g2, o2, rfl, hd⟩
          · rw [show ([] : List UInt8).length = 0 from rfl] at hx
            go_wp2_with (at_builtin; refine wpList_append_own_none rfl _ _ 22 rfl w.heap.size 5 i0 1 Tryd.underlying22 hi _ _ _ rfl HO.out rfl ?_)
            go_wp2
            go_roundw
            case rel => exact ⟨j + 1, by omega, by go_num, HNX.out _ _ (by simpa using HO.out), HBJ.out⟩
            case measure => simp [intOf]; omega
          · have HD := Lib.hid hd
            obtain ⟨q, hq⟩ : ∃ q, l.length = q := ⟨_, rfl⟩
            have HQ := Lib.hid hq
            rw [hq] at hx HNX
            clear hd hq
            go_wp2_with (at_builtin; refine wpList_append_own _ rfl _ _ 22 rfl w.heap.size 5 i0 (.int .u8 0) 1 1 Tryd.underlying22 hi hz0 hz1 hz2 rfl (by decide) _ _ _ rfl HO.out ⟨g2, o2, none⟩ q cp (l.map by8) rfl ?c1 ?c2 ?c3 ?c4 ?c5 ?c6 ?_)
            case c1 => rw [List.length_map, HQ.out, Nat.mul_one]
            case c2 => exact fun i u hi => BRow.news HD.out i u hi
            case c3 => exact fun u hu => by8_one u l hu
            case c4 => have := HLN.out; have := HQ.out; unfold maxLen; omega
            case c5 => have := HLN.out; have := HQ.out; omega
            case c6 => exact HBJ.out.size
            intro v' w2 hown2 hgrow2 _
            have hB2 : Below w.heap.size w w2 := HBJ.out.grown hgrow2 HBJ.out.size (own8_ge HO.out)
            have HO2 := Lib.hid (HNX.out _ _ hown2)
            have HB2 := Lib.hid hB2
            clear hown2 hgrow2 hB2
            go_wp2
            go_roundw
            case rel => exact ⟨j + 1, by omega, by go_num, HO2.out, HB2.out⟩
            case measure => simp [intOf]; omega
        · have hjk : L.take j = L := List.take_of_length_le (by rw [HN.out]; omega)
          have HF := HO.out
          rw [hjk] at HF
          have HF := Lib.hid (BRow.of_own HF)
          clear hjk
          go_wp2_with fail
          go_ret
          exact ⟨_, rfl, HF.out, HBJ.out⟩
end Go.Proofs.YtaekcmoogobbjaaDoor

/- dechunk: none, Write. Printed by genNA.py. -/
namespace Go.Proofs.YtaekcmoogobbjaaDoor
set_option linter.unusedVariables false
set_option linter.unusedSimpArgs false
set_option linter.unusedSectionVars false
open Go.RowKit Go.Shelf
set_option maxHeartbeats 8000000
set_option maxRecDepth 100000
variable [Gst]
theorem dc_none (D cap : Nat) (s : Dn.St) (w : World) (h : DD w D cap s) (hc : 1 ≤ cap) :
    Calls Tryd.prog 14 #[.pointer (some ⟨D, 0, none⟩)] w fun e w' => e = .returned (.bool false) ∧ w' = w := by
  obtain ⟨_, _, _, _, hd⟩ := h
  have hg := hd.cells
  unfold dcC at hg
  have a0 : w.cell? ⟨D, 0, none⟩ = some (.int .i64 cap) := by simp [World.cell?, hg]
  have hcb : ((cap : Int) == 0) = false := beq_eq_false_iff_ne.2 (by omega)
  clear hg hd
  go_enter Tryd.func14, Tryd.ntmps14
  go_wp2_with fail
  go_ret
  exact ⟨rfl, rfl⟩
def wtF (D k pt wy : Nat) (VO : Value) (b5 : Bool) (ol : List UInt8) : Nat → World → Value → Prop
  | 0, _, v => v = .pointer (some ⟨D, 0, none⟩)
  | 1, _, v => v = .pointer (some ⟨D, 0, none⟩)
  | 2, _, v => v = .pointer (some ⟨D, 6, none⟩)
  | 3, _, v => v = VO
  | 4, w, v => BRow w v ol
  | 5, _, v => v = .int .i64 k
  | 6, _, v => v = .pointer (some ⟨D, 0, none⟩)
  | 7, _, v => v = .pointer (some ⟨D, 0, none⟩)
  | 8, _, v => v = .pointer (some ⟨D, 3, none⟩)
  | 9, _, v => v = .int .i64 pt
  | 10, _, v => v = .bool b5
  | 11, _, v => v = .pointer (some ⟨D, 0, none⟩)
  | 12, _, v => v = .pointer (some ⟨D, 0, none⟩)
  | 13, _, v => v = .pointer (some ⟨D, 9, none⟩)
  | 14, _, v => v = .int .i64 wy
  | 15, w, v => BRow w v ol
  | 16, _, v => v = .int .i64 k
  | 17, _, v => v = .bool b5
  | 18, _, v => v = .int .i64 wy
  | _, _, _ => False
structure wtT (w0 : World) (f : Nat → Bool) (w : World) : Prop where
  bel : Below w0.heap.size w0 w
  n5 : f 5 = false → f 16 = false
theorem wtT.step {w0 w w' : World} {f : Nat → Bool} (i : Nat) (h : wtT w0 f w) (hi : i ≠ 16) (hb : Below w.heap.size w w') : wtT w0 (fun j => if j = i then true else f j) w' :=
  ⟨h.bel.trans (hb.mono h.bel.size), fun e => up_un hi (h.n5 (up_false e))⟩
theorem wtF_below {D k pt wy : Nat} {VO : Value} {b5 : Bool} {ol : List UInt8} {w w' : World} {j : Nat} {v : Value} (hb : Below w.heap.size w w') (h : wtF D k pt wy VO b5 ol j w v) : wtF D k pt wy VO b5 ol j w' v := by
  match j, h with
  | 0, h | 1, h | 2, h | 3, h | 5, h | 6, h | 7, h | 8, h | 9, h | 10, h | 11, h | 12, h | 13, h | 14, h | 16, h | 17, h | 18, h => exact h
  | 4, h | 15, h => exact BRow.below h hb
  | n + 19, h => exact h.elim
def wtSlot (i : Nat) : Nat := ([39, 40, 41, 42, 43, 44, 45, 46, 47, 48, 49, 50, 51, 52, 53, 4, 5, 6, 7] : List Nat).getD i 7
theorem wtSlot_lt (i : Nat) : wtSlot i < 54 := by
  match i with
  | 0 | 1 | 2 | 3 | 4 | 5 | 6 | 7 | 8 | 9 | 10 | 11 | 12 | 13 | 14 | 15 | 16 | 17 | 18 => decide
  | n + 19 => show 7 < 54; decide
theorem wtSlot_inj : ∀ i j, i < 19 → j < 19 → wtSlot i = wtSlot j → i = j := by
  have h : ∀ i j : Fin 19, wtSlot i.val = wtSlot j.val → i = j := by decide
  intro i j hi hj e
  have := h ⟨i, hi⟩ ⟨j, hj⟩ e
  simpa using this
theorem wtNot0 : ∀ i, i < 19 → wtSlot i ≠ 0 := by
  have h : ∀ i : Fin 19, wtSlot i.val ≠ 0 := by decide
  exact fun i hi => h ⟨i, hi⟩
/-- what Write tells -/
def wrOut (s : Dn.St) (n : Nat) (w' : World) (e : Ending) : Prop := ∃ r, e = .returned (.tuple #[r, .int .i64 n, .bool (decide (s.pt = 5)), .int .i64 s.why]) ∧ BRow w' r s.out
theorem dc_Write (D cap m : Nat) (l : List UInt8) (vb : Value) (s : Dn.St) (w : World) (h : DD w D cap s) (hb : ∀ W, Below D w W → BRow W vb l) (hok : Dn.Ok cap m { s with out := [] }) (hc : 1 ≤ cap) (hcp : cap ≤ 8192) (hm : m + l.length ≤ 100000) :
    Calls Tryd.prog 9 #[.pointer (some ⟨D, 0, none⟩), vb] w fun e w' => wrOut (Dn.write cap l { s with out := [] } 0).1 (Dn.write cap l { s with out := [] } 0).2 w' e ∧ DD w' D cap (Dn.write cap l { s with out := [] } 0).1 ∧ Below D w w' := by
  have KN := Lib.hid (dc_none D cap s w h hc)
  obtain ⟨vt, vo, ve, vu, hd⟩ := h
  have hg := hd.cells
  unfold dcC at hg
  have a6 : w.cell? ⟨D, 6, none⟩ = some vo := by simp [World.cell?, hg]
  have y6 : w.frozen? ⟨D, 6, none⟩ = false := frozen_of_row _ _ _ _ _ hg
  obtain ⟨xs, hxs, hgu⟩ := hd.re
  obtain ⟨s0, hs0⟩ : ∃ z : Dn.St, ({ s with out := [] } : Dn.St) = z := ⟨_, rfl⟩
  have HD0 := Lib.hid (show DD (w.setCell ⟨D, 6, none⟩ (.slice none 0 0)) D cap s0 by
    rw [← hs0]
    refine ⟨vt, .slice none 0 0, ve, vu, ?_, ownsRow_setCell_below (a := ⟨D, 6, none⟩) hd.rt (Nat.lt_succ_self D) _, World.ownsRow_nil _ _ _ _, ownsRow_setCell_below (a := ⟨D, 6, none⟩) hd.ru (Nat.lt_succ_self D) _, ⟨xs, ownsRow_setCell_below (a := ⟨D, 6, none⟩) hxs (Nat.lt_succ_self D) _, hgu.oth hxs (fun k _ hk _ _ _ _ => Below.heap_setCell _ _ _ _ hk) (nw.refl _ _) (nw.nil _ _) (nw.refl _ _) (nw.refl _ _)⟩, fun k _ h => (by cases h), hd.tu, apart_nil _⟩
    rw [heap_setCell_same _ _ 6 _ _ _ hd.cells]
    unfold dcC; simp)
  have HL0 := Lib.hid (Below.setCell (Below.refl D w) (p := ⟨D, 6, none⟩) (Nat.le_refl D) (.slice none 0 0))
  rw [hs0] at hok ⊢
  have HOK := Lib.hid hok
  have HBW := Lib.hid hb
  obtain ⟨M, hM⟩ : ∃ M, l.length = M := ⟨_, rfl⟩
  have HLM := Lib.hid hM
  rw [hM] at hm
  obtain ⟨ao, cb, hvb, _⟩ := hb w (Below.refl _ _)
  rw [hM] at hvb
  subst hvb
  clear hgu
  clear hg hd hxs hs0 hok hb hM
  go_enter Tryd.func9, Tryd.ntmps9
  go_wp2_with fail
  refine KN.out.mono ?_
  rintro e w' ⟨rfl, hw'⟩
  rw [hw']
  clear hw' w'
  go_wp2_with fail
  go_loopw [5] (fun i wr => ∃ (k : Nat) (sk : Dn.St), k ≤ M ∧ i = .int .i64 k ∧ Dn.write cap l s0 0 = Dn.write cap (l.drop k) sk k ∧ Dn.Ok cap (m + k) sk ∧ DD wr D cap sk ∧ Below D w wr) (fun i _ => M - (intOf i).toNat)
  case atStart => exact ⟨0, s0, Nat.zero_le _, rfl, rfl, HOK.out, HD0.out, HL0.out⟩
  case round =>
    obtain ⟨k, sk, hk, rfl, hwt, hok, hdd, hbl⟩ := hrel
    have HWT := Lib.hid hwt
    have HOK := Lib.hid hok
    have HDD := Lib.hid hdd
    have HBL := Lib.hid hbl
    obtain ⟨vt, VO, ve, vu, hd⟩ := hdd
    have hg := hd.cells
    have HDL := Lib.hid (show D < wr.heap.size from (Array.getElem?_eq_some_iff.1 hg).1)
    unfold dcC at hg
    have a3 : wr.cell? ⟨D, 3, none⟩ = some (.int .i64 sk.pt) := by simp [World.cell?, hg]
    have a9 : wr.cell? ⟨D, 9, none⟩ = some (.int .i64 sk.why) := by simp [World.cell?, hg]
    have a6 : wr.cell? ⟨D, 6, none⟩ = some VO := by simp [World.cell?, hg]
    have HA3 := Lib.hid a3
    have HA9 := Lib.hid a9
    have HA6 := Lib.hid a6
    have HBO := Lib.hid (BRow.of_own hd.ro)
    have HDR := Lib.hid (show Below wr.heap.size wr wr.drew from (Below.refl _ _).drew)
    clear hwt hok hbl hg hd
    obtain ⟨bl, hbl⟩ : ∃ z, decide ((k : Int) < (M : Int)) = z := ⟨_, rfl⟩
    obtain ⟨b5, hb5⟩ : ∃ z, ((sk.pt : Int) == 5) = z := ⟨_, rfl⟩
    obtain ⟨bw, hbw⟩ : ∃ z, ((sk.why : Int) == 0) = z := ⟨_, rfl⟩
    have HBLT := Lib.hid hbl
    have HB5 := Lib.hid hb5
    have HBWY := Lib.hid hbw
    have hb5n : ((sk.pt : Int) != 5) = !b5 := by rw [← hb5]; rfl
    by_cases hgo : bl = true ∧ b5 = false ∧ bw = true
    · obtain ⟨rfl, rfl, rfl⟩ := hgo
      have hlt : k < M := by have := of_decide_eq_true HBLT.out; omega
      have hp5 : sk.pt ≠ 5 := by have := HB5.out; simp at this; omega
      have hw0 : sk.why = 0 := by have := HBWY.out; simp at this; omega
      have HLK := Lib.hid (show l.drop k = l.getD k 0 :: l.drop (k + 1) by
        rw [List.drop_eq_getElem_cons (by rw [HLM.out]; exact hlt), List.getD_eq_getElem?_getD, List.getElem?_eq_getElem (by rw [HLM.out]; exact hlt)]; rfl)
      obtain ⟨g, o, hao, hcel⟩ : ∃ g o, ao = some ⟨g, o, none⟩ ∧ ∀ j, j < l.length → wr.cell? ⟨g, o + j, none⟩ = some (by8 (l.getD j 0)) := by
        obtain ⟨ao2, cap2, h1, _, h2⟩ := HBW.out wr HBL.out
        cases h1
        rcases h2 with ⟨_, h, _⟩ | ⟨g, o, h, h3⟩
        · have h3 := HLM.out; rw [h] at h3; simp at h3; omega
        · exact ⟨g, o, h, h3⟩
      subst hao
      obtain ⟨c8, hc8⟩ : ∃ z, l.getD k 0 = z := ⟨_, rfl⟩
      have hcx : wr.cell? ⟨g, o + k, none⟩ = some (.int .u8 c8.toNat) := by
        have h := hcel k (by rw [HLM.out]; exact hlt)
        rw [hc8] at h
        exact h
      rw [hc8] at HLK
      have KC := Lib.hid (dc_comes D cap (m + k) c8 sk wr HDD.out HOK.out hcp (by omega) hp5 hw0)
      have HSO := Lib.hid (Dn.step_ok c8 HOK.out hp5 hw0)
      have HST := Lib.hid (show Dn.write cap l s0 0 = Dn.write cap (l.drop (k + 1)) (Dn.step cap c8 sk) (k + 1) by
        rw [HWT.out, HLK.out, Dn.write, if_neg (by simp [hp5, hw0])])
      clear hp5 hw0 hc8 hcel
      go_wp2_with fail
      refine KC.out.mono ?_
      rintro e w5 ⟨rfl, hdd5, hb5'⟩
      have HD5 := Lib.hid hdd5
      have HL5 := Lib.hid (HBL.out.trans hb5')
      clear hdd5 hb5' hcx a3 a9 a6
      go_wp2_with fail
      go_roundw
      case rel => exact ⟨k + 1, _, hlt, by go_num, HST.out, HSO.out, HD5.out, HL5.out⟩
      case measure => simp [intOf]; omega
    · have HEND := Lib.hid (show Dn.write cap l s0 0 = (sk, k) by
        rw [HWT.out]
        by_cases hlt : k < M
        · rw [List.drop_eq_getElem_cons (by rw [HLM.out]; exact hlt), Dn.write, if_pos]
          have hbt : bl = true := by rw [← HBLT.out]; exact decide_eq_true (by omega)
          by_cases hp5 : sk.pt = 5
          · exact .inl hp5
          · right
            intro hw0
            refine hgo ⟨hbt, ?_, ?_⟩
            · rw [← HB5.out]; exact beq_eq_false_iff_ne.2 (by omega)
            · rw [← HBWY.out, hw0]; rfl
        · rw [List.drop_eq_nil_of_le (by rw [HLM.out]; omega)]; rfl)
      have HB5D := Lib.hid (show decide (sk.pt = 5) = b5 by rw [← HB5.out, Bool.eq_iff_iff]; simp only [decide_eq_true_eq, beq_iff_eq]; omega)
      have hol : sk.out.length ≤ 100000 := by have := HOK.out.out; omega
      obtain ⟨pt, hpt⟩ : ∃ z, sk.pt = z := ⟨_, rfl⟩
      obtain ⟨wy, hwy⟩ : ∃ z, sk.why = z := ⟨_, rfl⟩
      obtain ⟨ol, holl⟩ : ∃ z, sk.out = z := ⟨_, rfl⟩
      rw [hpt] at HA3 HB5 HB5D hb5 hb5n a3
      rw [hwy] at HA9 HBWY hbw a9
      rw [holl] at HBO hol
      have HPT := Lib.hid hpt
      have HWY := Lib.hid hwy
      have HOL := Lib.hid holl
      clear hpt hwy holl
      have hcs : bl = false ∨ (bl = true ∧ b5 = true) ∨ (bl = true ∧ b5 = false ∧ bw = false) := by
        cases bl <;> cases b5 <;> cases bw <;> simp at hgo ⊢
      clear hgo
      rcases hcs with rfl | ⟨rfl, rfl⟩ | ⟨rfl, rfl, rfl⟩
      · have hnk : ¬ (k < M) := by have := of_decide_eq_false HBLT.out; omega
        clear hbl
        cases b5 with
        | true =>
          have hbn2 : ((pt : Int) != 5) = false := by rw [hb5n]; rfl
          clear hb5n
          go_wp2_with fail
          refine region_slots2 wtSlot (wtF D k pt wy VO true ol) (wtT wr) (by kernel_rfl) (by kernel_rfl) (fun i => Nat.lt_of_lt_of_le (wtSlot_lt i) (by show 54 ≤ _; simp)) (fun i j hi hj h => wtSlot_inj i j hi hj h) ?start ?dst ?step ?done
          case start => exact ⟨HDR.out, fun _ => rfl⟩
          case dst =>
            intro i o ho
            match i, ho with
            | 0, ho => cases ho; rfl
            | 1, ho => cases ho; rfl
            | 2, ho => cases ho; rfl
            | 3, ho => cases ho; rfl
            | 4, ho => cases ho; rfl
            | 5, ho => cases ho; rfl
            | 6, ho => cases ho; rfl
            | 7, ho => cases ho; rfl
            | 8, ho => cases ho; rfl
            | 9, ho => cases ho; rfl
            | 10, ho => cases ho; rfl
            | 11, ho => cases ho; rfl
            | 12, ho => cases ho; rfl
            | 13, ho => cases ho; rfl
            | 14, ho => cases ho; rfl
            | 15, ho => cases ho; rfl
            | 16, ho => cases ho; rfl
            | 17, ho => cases ho; rfl
            | 18, ho => cases ho; rfl
            | n + 19, ho => exact absurd ho (by simp)
          case step =>
            intro f a' W i o ho hfi hpre hT hrest hyet
            match i, ho with
            | 0, ho =>
              cases ho
              have q0 : a'.tmps.getD 0 undef = .pointer (some ⟨D, 0, none⟩) := (hrest 0 wtNot0)
              have e0 := rg_ev q0
              exact rg_same2 (.pointer (some ⟨D, 0, none⟩)) (by unfold Oper.wp execOp; go_simp; all_goals ((try simp only [e0]); (try go_simp); (try rw [if_pos (by omega)]); (try rw [if_neg (by omega)]); first | done | rfl | exact ⟨rfl, rfl⟩ | trivial)) rfl (hT.step 0 (by decide) (Below.refl _ _))
            | 1, ho =>
              cases ho
              have f39 := (hpre { on := 0, ground := .data } (by simp) rfl).1
              have q39 : a'.tmps.getD 39 undef = .pointer (some ⟨D, 0, none⟩) := (hpre { on := 0, ground := .data } (by simp) rfl).2
              have e39 := rg_ev q39
              exact rg_same2 (.pointer (some ⟨D, 0, none⟩)) (by unfold Oper.wp execOp; go_simp; all_goals ((try simp only [e39]); (try go_simp); (try rw [if_pos (by omega)]); (try rw [if_neg (by omega)]); first | done | rfl | exact ⟨rfl, rfl⟩ | trivial)) rfl (hT.step 1 (by decide) (Below.refl _ _))
            | 2, ho =>
              cases ho
              have f40 := (hpre { on := 1, ground := .data } (by simp) rfl).1
              have q40 : a'.tmps.getD 40 undef = .pointer (some ⟨D, 0, none⟩) := (hpre { on := 1, ground := .data } (by simp) rfl).2
              have e40 := rg_ev q40
              exact rg_same2 (.pointer (some ⟨D, 6, none⟩)) (by unfold Oper.wp execOp; go_simp; all_goals ((try simp only [e40]); (try go_simp); (try rw [if_pos (by omega)]); (try rw [if_neg (by omega)]); first | done | rfl | exact ⟨rfl, rfl⟩ | trivial)) rfl (hT.step 2 (by decide) (Below.refl _ _))
            | 3, ho =>
              cases ho
              have f41 := (hpre { on := 2, ground := .data } (by simp) rfl).1
              have q41 : a'.tmps.getD 41 undef = .pointer (some ⟨D, 6, none⟩) := (hpre { on := 2, ground := .data } (by simp) rfl).2
              have hc6 : W.cell? ⟨D, 6, none⟩ = some VO := (hT.bel.cell HDL.out).trans HA6.out
              have e41 := rg_ev q41
              exact rg_same2 (VO) (by unfold Oper.wp execOp; go_simp; all_goals ((try simp only [e41]); (try go_simp); (try rw [if_pos (by omega)]); (try rw [if_neg (by omega)]); first | done | rfl | exact ⟨rfl, rfl⟩ | trivial)) rfl (hT.step 3 (by decide) (Below.refl _ _))
            | 4, ho =>
              cases ho
              have f42 := (hpre { on := 3, ground := .data } (by simp) rfl).1
              have q42 : a'.tmps.getD 42 undef = VO := (hpre { on := 3, ground := .data } (by simp) rfl).2
              exact rg_call 42 16 _ _ _ rfl q42 (enters_of Tryd.func16 (by kernel_rfl) rfl) (ck_clone VO ol W (HBO.out.below hT.bel) (by omega)) (fun e w' h => by
                obtain ⟨r, h1, h2, h3⟩ := h
                exact ⟨r, h1, r, rfl, h2, hT.step 4 (by decide) h3, fun j u _ hF => wtF_below h3 hF⟩)
            | 5, ho =>
              cases ho
              have q5 : a'.tmps.getD 5 undef = .int .i64 k := hyet 16 (by decide) (hT.n5 hfi)
              have e5 := rg_ev q5
              exact rg_same2 (.int .i64 k) (by unfold Oper.wp execOp; go_simp; all_goals ((try simp only [e5]); (try go_simp); (try rw [if_pos (by omega)]); (try rw [if_neg (by omega)]); first | done | rfl | exact ⟨rfl, rfl⟩ | trivial)) rfl (hT.step 5 (by decide) (Below.refl _ _))
            | 6, ho =>
              cases ho
              have q0 : a'.tmps.getD 0 undef = .pointer (some ⟨D, 0, none⟩) := (hrest 0 wtNot0)
              have e0 := rg_ev q0
              exact rg_same2 (.pointer (some ⟨D, 0, none⟩)) (by unfold Oper.wp execOp; go_simp; all_goals ((try simp only [e0]); (try go_simp); (try rw [if_pos (by omega)]); (try rw [if_neg (by omega)]); first | done | rfl | exact ⟨rfl, rfl⟩ | trivial)) rfl (hT.step 6 (by decide) (Below.refl _ _))
            | 7, ho =>
              cases ho
              have f45 := (hpre { on := 6, ground := .data } (by simp) rfl).1
              have q45 : a'.tmps.getD 45 undef = .pointer (some ⟨D, 0, none⟩) := (hpre { on := 6, ground := .data } (by simp) rfl).2
              have e45 := rg_ev q45
              exact rg_same2 (.pointer (some ⟨D, 0, none⟩)) (by unfold Oper.wp execOp; go_simp; all_goals ((try simp only [e45]); (try go_simp); (try rw [if_pos (by omega)]); (try rw [if_neg (by omega)]); first | done | rfl | exact ⟨rfl, rfl⟩ | trivial)) rfl (hT.step 7 (by decide) (Below.refl _ _))
            | 8, ho =>
              cases ho
              have f46 := (hpre { on := 7, ground := .data } (by simp) rfl).1
              have q46 : a'.tmps.getD 46 undef = .pointer (some ⟨D, 0, none⟩) := (hpre { on := 7, ground := .data } (by simp) rfl).2
              have e46 := rg_ev q46
              exact rg_same2 (.pointer (some ⟨D, 3, none⟩)) (by unfold Oper.wp execOp; go_simp; all_goals ((try simp only [e46]); (try go_simp); (try rw [if_pos (by omega)]); (try rw [if_neg (by omega)]); first | done | rfl | exact ⟨rfl, rfl⟩ | trivial)) rfl (hT.step 8 (by decide) (Below.refl _ _))
            | 9, ho =>
              cases ho
              have f47 := (hpre { on := 8, ground := .data } (by simp) rfl).1
              have q47 : a'.tmps.getD 47 undef = .pointer (some ⟨D, 3, none⟩) := (hpre { on := 8, ground := .data } (by simp) rfl).2
              have hc3 : W.cell? ⟨D, 3, none⟩ = some (.int .i64 pt) := (hT.bel.cell HDL.out).trans HA3.out
              have e47 := rg_ev q47
              exact rg_same2 (.int .i64 pt) (by unfold Oper.wp execOp; go_simp; all_goals ((try simp only [e47]); (try go_simp); (try rw [if_pos (by omega)]); (try rw [if_neg (by omega)]); first | done | rfl | exact ⟨rfl, rfl⟩ | trivial)) rfl (hT.step 9 (by decide) (Below.refl _ _))
            | 10, ho =>
              cases ho
              have f48 := (hpre { on := 9, ground := .data } (by simp) rfl).1
              have q48 : a'.tmps.getD 48 undef = .int .i64 pt := (hpre { on := 9, ground := .data } (by simp) rfl).2
              have hb5 := HB5.out
              have e48 := rg_ev q48
              exact rg_same2 (.bool true) (by unfold Oper.wp execOp; go_simp; all_goals ((try simp only [e48]); (try go_simp); (try rw [if_pos (by omega)]); (try rw [if_neg (by omega)]); first | done | rfl | exact ⟨rfl, rfl⟩ | trivial)) rfl (hT.step 10 (by decide) (Below.refl _ _))
            | 11, ho =>
              cases ho
              have q0 : a'.tmps.getD 0 undef = .pointer (some ⟨D, 0, none⟩) := (hrest 0 wtNot0)
              have e0 := rg_ev q0
              exact rg_same2 (.pointer (some ⟨D, 0, none⟩)) (by unfold Oper.wp execOp; go_simp; all_goals ((try simp only [e0]); (try go_simp); (try rw [if_pos (by omega)]); (try rw [if_neg (by omega)]); first | done | rfl | exact ⟨rfl, rfl⟩ | trivial)) rfl (hT.step 11 (by decide) (Below.refl _ _))
            | 12, ho =>
              cases ho
              have f50 := (hpre { on := 11, ground := .data } (by simp) rfl).1
              have q50 : a'.tmps.getD 50 undef = .pointer (some ⟨D, 0, none⟩) := (hpre { on := 11, ground := .data } (by simp) rfl).2
              have e50 := rg_ev q50
              exact rg_same2 (.pointer (some ⟨D, 0, none⟩)) (by unfold Oper.wp execOp; go_simp; all_goals ((try simp only [e50]); (try go_simp); (try rw [if_pos (by omega)]); (try rw [if_neg (by omega)]); first | done | rfl | exact ⟨rfl, rfl⟩ | trivial)) rfl (hT.step 12 (by decide) (Below.refl _ _))
            | 13, ho =>
              cases ho
              have f51 := (hpre { on := 12, ground := .data } (by simp) rfl).1
              have q51 : a'.tmps.getD 51 undef = .pointer (some ⟨D, 0, none⟩) := (hpre { on := 12, ground := .data } (by simp) rfl).2
              have e51 := rg_ev q51
              exact rg_same2 (.pointer (some ⟨D, 9, none⟩)) (by unfold Oper.wp execOp; go_simp; all_goals ((try simp only [e51]); (try go_simp); (try rw [if_pos (by omega)]); (try rw [if_neg (by omega)]); first | done | rfl | exact ⟨rfl, rfl⟩ | trivial)) rfl (hT.step 13 (by decide) (Below.refl _ _))
            | 14, ho =>
              cases ho
              have f52 := (hpre { on := 13, ground := .data } (by simp) rfl).1
              have q52 : a'.tmps.getD 52 undef = .pointer (some ⟨D, 9, none⟩) := (hpre { on := 13, ground := .data } (by simp) rfl).2
              have hc9 : W.cell? ⟨D, 9, none⟩ = some (.int .i64 wy) := (hT.bel.cell HDL.out).trans HA9.out
              have e52 := rg_ev q52
              exact rg_same2 (.int .i64 wy) (by unfold Oper.wp execOp; go_simp; all_goals ((try simp only [e52]); (try go_simp); (try rw [if_pos (by omega)]); (try rw [if_neg (by omega)]); first | done | rfl | exact ⟨rfl, rfl⟩ | trivial)) rfl (hT.step 14 (by decide) (Below.refl _ _))
            | 15, ho =>
              cases ho
              have f43 := (hpre { on := 4, ground := .data } (by simp) rfl).1
              have h43 : wtF D k pt wy VO true ol 4 W (a'.tmps.getD 43 undef) := (hpre { on := 4, ground := .data } (by simp) rfl).2
              obtain ⟨y43, hy43⟩ : ∃ z, a'.tmps.getD 43 undef = z := ⟨_, rfl⟩
              rw [hy43] at h43
              have e43 := rg_ev hy43
              exact rg_same2 y43 (by unfold Oper.wp execOp; go_simp; all_goals ((try simp only [e43]); (try go_simp); (try rw [if_pos (by omega)]); (try rw [if_neg (by omega)]); first | done | rfl | exact ⟨rfl, rfl⟩ | trivial)) h43 (hT.step 15 (by decide) (Below.refl _ _))
            | 16, ho =>
              cases ho
              have f44 := (hpre { on := 5, ground := .data } (by simp) rfl).1
              have q44 : a'.tmps.getD 44 undef = .int .i64 k := (hpre { on := 5, ground := .data } (by simp) rfl).2
              have e44 := rg_ev q44
              exact rg_same2 (.int .i64 k) (by unfold Oper.wp execOp; go_simp; all_goals ((try simp only [e44]); (try go_simp); (try rw [if_pos (by omega)]); (try rw [if_neg (by omega)]); first | done | rfl | exact ⟨rfl, rfl⟩ | trivial)) rfl ⟨hT.bel, fun e => absurd (f44.symm.trans (up_false e)) (by decide)⟩
            | 17, ho =>
              cases ho
              have f49 := (hpre { on := 10, ground := .data } (by simp) rfl).1
              have q49 : a'.tmps.getD 49 undef = .bool true := (hpre { on := 10, ground := .data } (by simp) rfl).2
              have e49 := rg_ev q49
              exact rg_same2 (.bool true) (by unfold Oper.wp execOp; go_simp; all_goals ((try simp only [e49]); (try go_simp); (try rw [if_pos (by omega)]); (try rw [if_neg (by omega)]); first | done | rfl | exact ⟨rfl, rfl⟩ | trivial)) rfl (hT.step 17 (by decide) (Below.refl _ _))
            | 18, ho =>
              cases ho
              have f53 := (hpre { on := 14, ground := .data } (by simp) rfl).1
              have q53 : a'.tmps.getD 53 undef = .int .i64 wy := (hpre { on := 14, ground := .data } (by simp) rfl).2
              have e53 := rg_ev q53
              exact rg_same2 (.int .i64 wy) (by unfold Oper.wp execOp; go_simp; all_goals ((try simp only [e53]); (try go_simp); (try rw [if_pos (by omega)]); (try rw [if_neg (by omega)]); first | done | rfl | exact ⟨rfl, rfl⟩ | trivial)) rfl (hT.step 18 (by decide) (Below.refl _ _))
            | n + 19, ho => exact absurd ho (by simp)
          case done =>
            intro f vs W hall hT hvs
            have v0 : vs 0 = .pointer (some ⟨D, 0, none⟩) := hvs 0 (by decide)
            have v1 : vs 1 = .pointer (some ⟨D, 0, none⟩) := hvs 1 (by decide)
            have v2 : vs 2 = .pointer (some ⟨D, 6, none⟩) := hvs 2 (by decide)
            have v3 : vs 3 = VO := hvs 3 (by decide)
            obtain ⟨z4, v4, w4⟩ : ∃ z, vs 4 = z ∧ wtF D k pt wy VO true ol 4 W z := ⟨_, rfl, hvs 4 (by decide)⟩
            have v5 : vs 5 = .int .i64 k := hvs 5 (by decide)
            have v6 : vs 6 = .pointer (some ⟨D, 0, none⟩) := hvs 6 (by decide)
            have v7 : vs 7 = .pointer (some ⟨D, 0, none⟩) := hvs 7 (by decide)
            have v8 : vs 8 = .pointer (some ⟨D, 3, none⟩) := hvs 8 (by decide)
            have v9 : vs 9 = .int .i64 pt := hvs 9 (by decide)
            have v10 : vs 10 = .bool true := hvs 10 (by decide)
            have v11 : vs 11 = .pointer (some ⟨D, 0, none⟩) := hvs 11 (by decide)
            have v12 : vs 12 = .pointer (some ⟨D, 0, none⟩) := hvs 12 (by decide)
            have v13 : vs 13 = .pointer (some ⟨D, 9, none⟩) := hvs 13 (by decide)
            have v14 : vs 14 = .int .i64 wy := hvs 14 (by decide)
            obtain ⟨z15, v15, w15⟩ : ∃ z, vs 15 = z ∧ wtF D k pt wy VO true ol 15 W z := ⟨_, rfl, hvs 15 (by decide)⟩
            have v16 : vs 16 = .int .i64 k := hvs 16 (by decide)
            have v17 : vs 17 = .bool true := hvs 17 (by decide)
            have v18 : vs 18 = .int .i64 wy := hvs 18 (by decide)
            simp only [fillN, List.size_toArray, List.length_cons, List.length_nil, Nat.reduceAdd, show List.range 19 = [0, 1, 2, 3, 4, 5, 6, 7, 8, 9, 10, 11, 12, 13, 14, 15, 16, 17, 18] from rfl, List.foldl_cons, List.foldl_nil, show wtSlot 0 = 39 from rfl, show wtSlot 1 = 40 from rfl, show wtSlot 2 = 41 from rfl, show wtSlot 3 = 42 from rfl, show wtSlot 4 = 43 from rfl, show wtSlot 5 = 44 from rfl, show wtSlot 6 = 45 from rfl, show wtSlot 7 = 46 from rfl, show wtSlot 8 = 47 from rfl, show wtSlot 9 = 48 from rfl, show wtSlot 10 = 49 from rfl, show wtSlot 11 = 50 from rfl, show wtSlot 12 = 51 from rfl, show wtSlot 13 = 52 from rfl, show wtSlot 14 = 53 from rfl, show wtSlot 15 = 4 from rfl, show wtSlot 16 = 5 from rfl, show wtSlot 17 = 6 from rfl, show wtSlot 18 = 7 from rfl, v0, v1, v2, v3, v4, v5, v6, v7, v8, v9, v10, v11, v12, v13, v14, v15, v16, v17, v18]
            clear v0 v1 v2 v3 v4 v5 v6 v7 v8 v9 v10 v11 v12 v13 v14 v15 v16 v17 v18 hvs
            have HTB := Lib.hid hT.bel
            have HW15 := Lib.hid w15
            clear w4 w15 hT hall
            go_simp
            go_wp2_with fail
            simp [bodyPost, results, Tryd.results9, go_sem]
            rw [HEND.out]
            refine ⟨⟨z15, ?_, ?_⟩, HDD.out.below HTB.out, HBL.out.trans (HTB.out.mono (Nat.le_of_lt HDL.out))⟩
            · rw [HPT.out, HWY.out, HB5D.out]
            · rw [HOL.out]; exact HW15.out
        | false =>
          have hbn2 : ((pt : Int) != 5) = true := by rw [hb5n]; rfl
          clear hb5n
          go_wp2_with fail
          refine region_slots2 wtSlot (wtF D k pt wy VO false ol) (wtT wr) (by kernel_rfl) (by kernel_rfl) (fun i => Nat.lt_of_lt_of_le (wtSlot_lt i) (by show 54 ≤ _; simp)) (fun i j hi hj h => wtSlot_inj i j hi hj h) ?start ?dst ?step ?done
          case start => exact ⟨HDR.out, fun _ => rfl⟩
          case dst =>
            intro i o ho
            match i, ho with
            | 0, ho => cases ho; rfl
            | 1, ho => cases ho; rfl
            | 2, ho => cases ho; rfl
            | 3, ho => cases ho; rfl
            | 4, ho => cases ho; rfl
            | 5, ho => cases ho; rfl
            | 6, ho => cases ho; rfl
            | 7, ho => cases ho; rfl
            | 8, ho => cases ho; rfl
            | 9, ho => cases ho; rfl
            | 10, ho => cases ho; rfl
            | 11, ho => cases ho; rfl
            | 12, ho => cases ho; rfl
            | 13, ho => cases ho; rfl
            | 14, ho => cases ho; rfl
            | 15, ho => cases ho; rfl
            | 16, ho => cases ho; rfl
            | 17, ho => cases ho; rfl
            | 18, ho => cases ho; rfl
            | n + 19, ho => exact absurd ho (by simp)
          case step =>
            intro f a' W i o ho hfi hpre hT hrest hyet
            match i, ho with
            | 0, ho =>
              cases ho
              have q0 : a'.tmps.getD 0 undef = .pointer (some ⟨D, 0, none⟩) := (hrest 0 wtNot0)
              have e0 := rg_ev q0
              exact rg_same2 (.pointer (some ⟨D, 0, none⟩)) (by unfold Oper.wp execOp; go_simp; all_goals ((try simp only [e0]); (try go_simp); (try rw [if_pos (by omega)]); (try rw [if_neg (by omega)]); first | done | rfl | exact ⟨rfl, rfl⟩ | trivial)) rfl (hT.step 0 (by decide) (Below.refl _ _))
            | 1, ho =>
              cases ho
              have f39 := (hpre { on := 0, ground := .data } (by simp) rfl).1
              have q39 : a'.tmps.getD 39 undef = .pointer (some ⟨D, 0, none⟩) := (hpre { on := 0, ground := .data } (by simp) rfl).2
              have e39 := rg_ev q39
              exact rg_same2 (.pointer (some ⟨D, 0, none⟩)) (by unfold Oper.wp execOp; go_simp; all_goals ((try simp only [e39]); (try go_simp); (try rw [if_pos (by omega)]); (try rw [if_neg (by omega)]); first | done | rfl | exact ⟨rfl, rfl⟩ | trivial)) rfl (hT.step 1 (by decide) (Below.refl _ _))
            | 2, ho =>
              cases ho
              have f40 := (hpre { on := 1, ground := .data } (by simp) rfl).1
              have q40 : a'.tmps.getD 40 undef = .pointer (some ⟨D, 0, none⟩) := (hpre { on := 1, ground := .data } (by simp) rfl).2
              have e40 := rg_ev q40
              exact rg_same2 (.pointer (some ⟨D, 6, none⟩)) (by unfold Oper.wp execOp; go_simp; all_goals ((try simp only [e40]); (try go_simp); (try rw [if_pos (by omega)]); (try rw [if_neg (by omega)]); first | done | rfl | exact ⟨rfl, rfl⟩ | trivial)) rfl (hT.step 2 (by decide) (Below.refl _ _))
            | 3, ho =>
              cases ho
              have f41 := (hpre { on := 2, ground := .data } (by simp) rfl).1
              have q41 : a'.tmps.getD 41 undef = .pointer (some ⟨D, 6, none⟩) := (hpre { on := 2, ground := .data } (by simp) rfl).2
              have hc6 : W.cell? ⟨D, 6, none⟩ = some VO := (hT.bel.cell HDL.out).trans HA6.out
              have e41 := rg_ev q41
              exact rg_same2 (VO) (by unfold Oper.wp execOp; go_simp; all_goals ((try simp only [e41]); (try go_simp); (try rw [if_pos (by omega)]); (try rw [if_neg (by omega)]); first | done | rfl | exact ⟨rfl, rfl⟩ | trivial)) rfl (hT.step 3 (by decide) (Below.refl _ _))
            | 4, ho =>
              cases ho
              have f42 := (hpre { on := 3, ground := .data } (by simp) rfl).1
              have q42 : a'.tmps.getD 42 undef = VO := (hpre { on := 3, ground := .data } (by simp) rfl).2
              exact rg_call 42 16 _ _ _ rfl q42 (enters_of Tryd.func16 (by kernel_rfl) rfl) (ck_clone VO ol W (HBO.out.below hT.bel) (by omega)) (fun e w' h => by
                obtain ⟨r, h1, h2, h3⟩ := h
                exact ⟨r, h1, r, rfl, h2, hT.step 4 (by decide) h3, fun j u _ hF => wtF_below h3 hF⟩)
            | 5, ho =>
              cases ho
              have q5 : a'.tmps.getD 5 undef = .int .i64 k := hyet 16 (by decide) (hT.n5 hfi)
              have e5 := rg_ev q5
              exact rg_same2 (.int .i64 k) (by unfold Oper.wp execOp; go_simp; all_goals ((try simp only [e5]); (try go_simp); (try rw [if_pos (by omega)]); (try rw [if_neg (by omega)]); first | done | rfl | exact ⟨rfl, rfl⟩ | trivial)) rfl (hT.step 5 (by decide) (Below.refl _ _))
            | 6, ho =>
              cases ho
              have q0 : a'.tmps.getD 0 undef = .pointer (some ⟨D, 0, none⟩) := (hrest 0 wtNot0)
              have e0 := rg_ev q0
              exact rg_same2 (.pointer (some ⟨D, 0, none⟩)) (by unfold Oper.wp execOp; go_simp; all_goals ((try simp only [e0]); (try go_simp); (try rw [if_pos (by omega)]); (try rw [if_neg (by omega)]); first | done | rfl | exact ⟨rfl, rfl⟩ | trivial)) rfl (hT.step 6 (by decide) (Below.refl _ _))
            | 7, ho =>
              cases ho
              have f45 := (hpre { on := 6, ground := .data } (by simp) rfl).1
              have q45 : a'.tmps.getD 45 undef = .pointer (some ⟨D, 0, none⟩) := (hpre { on := 6, ground := .data } (by simp) rfl).2
              have e45 := rg_ev q45
              exact rg_same2 (.pointer (some ⟨D, 0, none⟩)) (by unfold Oper.wp execOp; go_simp; all_goals ((try simp only [e45]); (try go_simp); (try rw [if_pos (by omega)]); (try rw [if_neg (by omega)]); first | done | rfl | exact ⟨rfl, rfl⟩ | trivial)) rfl (hT.step 7 (by decide) (Below.refl _ _))
            | 8, ho =>
              cases ho
              have f46 := (hpre { on := 7, ground := .data } (by simp) rfl).1
              have q46 : a'.tmps.getD 46 undef = .pointer (some ⟨D, 0, none⟩) := (hpre { on := 7, ground := .data } (by simp) rfl).2
              have e46 := rg_ev q46
              exact rg_same2 (.pointer (some ⟨D, 3, none⟩)) (by unfold Oper.wp execOp; go_simp; all_goals ((try simp only [e46]); (try go_simp); (try rw [if_pos (by omega)]); (try rw [if_neg (by omega)]); first | done | rfl | exact ⟨rfl, rfl⟩ | trivial)) rfl (hT.step 8 (by decide) (Below.refl _ _))
            | 9, ho =>
              cases ho
              have f47 := (hpre { on := 8, ground := .data } (by simp) rfl).1
              have q47 : a'.tmps.getD 47 undef = .pointer (some ⟨D, 3, none⟩) := (hpre { on := 8, ground := .data } (by simp) rfl).2
              have hc3 : W.cell? ⟨D, 3, none⟩ = some (.int .i64 pt) := (hT.bel.cell HDL.out).trans HA3.out
              have e47 := rg_ev q47
              exact rg_same2 (.int .i64 pt) (by unfold Oper.wp execOp; go_simp; all_goals ((try simp only [e47]); (try go_simp); (try rw [if_pos (by omega)]); (try rw [if_neg (by omega)]); first | done | rfl | exact ⟨rfl, rfl⟩ | trivial)) rfl (hT.step 9 (by decide) (Below.refl _ _))
            | 10, ho =>
              cases ho
              have f48 := (hpre { on := 9, ground := .data } (by simp) rfl).1
              have q48 : a'.tmps.getD 48 undef = .int .i64 pt := (hpre { on := 9, ground := .data } (by simp) rfl).2
              have hb5 := HB5.out
              have e48 := rg_ev q48
              exact rg_same2 (.bool false) (by unfold Oper.wp execOp; go_simp; all_goals ((try simp only [e48]); (try go_simp); (try rw [if_pos (by omega)]); (try rw [if_neg (by omega)]); first | done | rfl | exact ⟨rfl, rfl⟩ | trivial)) rfl (hT.step 10 (by decide) (Below.refl _ _))
            | 11, ho =>
              cases ho
              have q0 : a'.tmps.getD 0 undef = .pointer (some ⟨D, 0, none⟩) := (hrest 0 wtNot0)
              have e0 := rg_ev q0
              exact rg_same2 (.pointer (some ⟨D, 0, none⟩)) (by unfold Oper.wp execOp; go_simp; all_goals ((try simp only [e0]); (try go_simp); (try rw [if_pos (by omega)]); (try rw [if_neg (by omega)]); first | done | rfl | exact ⟨rfl, rfl⟩ | trivial)) rfl (hT.step 11 (by decide) (Below.refl _ _))
            | 12, ho =>
              cases ho
              have f50 := (hpre { on := 11, ground := .data } (by simp) rfl).1
              have q50 : a'.tmps.getD 50 undef = .pointer (some ⟨D, 0, none⟩) := (hpre { on := 11, ground := .data } (by simp) rfl).2
              have e50 := rg_ev q50
              exact rg_same2 (.pointer (some ⟨D, 0, none⟩)) (by unfold Oper.wp execOp; go_simp; all_goals ((try simp only [e50]); (try go_simp); (try rw [if_pos (by omega)]); (try rw [if_neg (by omega)]); first | done | rfl | exact ⟨rfl, rfl⟩ | trivial)) rfl (hT.step 12 (by decide) (Below.refl _ _))
            | 13, ho =>
              cases ho
              have f51 := (hpre { on := 12, ground := .data } (by simp) rfl).1
              have q51 : a'.tmps.getD 51 undef = .pointer (some ⟨D, 0, none⟩) := (hpre { on := 12, ground := .data } (by simp) rfl).2
              have e51 := rg_ev q51
              exact rg_same2 (.pointer (some ⟨D, 9, none⟩)) (by unfold Oper.wp execOp; go_simp; all_goals ((try simp only [e51]); (try go_simp); (try rw [if_pos (by omega)]); (try rw [if_neg (by omega)]); first | done | rfl | exact ⟨rfl, rfl⟩ | trivial)) rfl (hT.step 13 (by decide) (Below.refl _ _))
            | 14, ho =>
              cases ho
              have f52 := (hpre { on := 13, ground := .data } (by simp) rfl).1
              have q52 : a'.tmps.getD 52 undef = .pointer (some ⟨D, 9, none⟩) := (hpre { on := 13, ground := .data } (by simp) rfl).2
              have hc9 : W.cell? ⟨D, 9, none⟩ = some (.int .i64 wy) := (hT.bel.cell HDL.out).trans HA9.out
              have e52 := rg_ev q52
              exact rg_same2 (.int .i64 wy) (by unfold Oper.wp execOp; go_simp; all_goals ((try simp only [e52]); (try go_simp); (try rw [if_pos (by omega)]); (try rw [if_neg (by omega)]); first | done | rfl | exact ⟨rfl, rfl⟩ | trivial)) rfl (hT.step 14 (by decide) (Below.refl _ _))
            | 15, ho =>
              cases ho
              have f43 := (hpre { on := 4, ground := .data } (by simp) rfl).1
              have h43 : wtF D k pt wy VO false ol 4 W (a'.tmps.getD 43 undef) := (hpre { on := 4, ground := .data } (by simp) rfl).2
              obtain ⟨y43, hy43⟩ : ∃ z, a'.tmps.getD 43 undef = z := ⟨_, rfl⟩
              rw [hy43] at h43
              have e43 := rg_ev hy43
              exact rg_same2 y43 (by unfold Oper.wp execOp; go_simp; all_goals ((try simp only [e43]); (try go_simp); (try rw [if_pos (by omega)]); (try rw [if_neg (by omega)]); first | done | rfl | exact ⟨rfl, rfl⟩ | trivial)) h43 (hT.step 15 (by decide) (Below.refl _ _))
            | 16, ho =>
              cases ho
              have f44 := (hpre { on := 5, ground := .data } (by simp) rfl).1
              have q44 : a'.tmps.getD 44 undef = .int .i64 k := (hpre { on := 5, ground := .data } (by simp) rfl).2
              have e44 := rg_ev q44
              exact rg_same2 (.int .i64 k) (by unfold Oper.wp execOp; go_simp; all_goals ((try simp only [e44]); (try go_simp); (try rw [if_pos (by omega)]); (try rw [if_neg (by omega)]); first | done | rfl | exact ⟨rfl, rfl⟩ | trivial)) rfl ⟨hT.bel, fun e => absurd (f44.symm.trans (up_false e)) (by decide)⟩
            | 17, ho =>
              cases ho
              have f49 := (hpre { on := 10, ground := .data } (by simp) rfl).1
              have q49 : a'.tmps.getD 49 undef = .bool false := (hpre { on := 10, ground := .data } (by simp) rfl).2
              have e49 := rg_ev q49
              exact rg_same2 (.bool false) (by unfold Oper.wp execOp; go_simp; all_goals ((try simp only [e49]); (try go_simp); (try rw [if_pos (by omega)]); (try rw [if_neg (by omega)]); first | done | rfl | exact ⟨rfl, rfl⟩ | trivial)) rfl (hT.step 17 (by decide) (Below.refl _ _))
            | 18, ho =>
              cases ho
              have f53 := (hpre { on := 14, ground := .data } (by simp) rfl).1
              have q53 : a'.tmps.getD 53 undef = .int .i64 wy := (hpre { on := 14, ground := .data } (by simp) rfl).2
              have e53 := rg_ev q53
              exact rg_same2 (.int .i64 wy) (by unfold Oper.wp execOp; go_simp; all_goals ((try simp only [e53]); (try go_simp); (try rw [if_pos (by omega)]); (try rw [if_neg (by omega)]); first | done | rfl | exact ⟨rfl, rfl⟩ | trivial)) rfl (hT.step 18 (by decide) (Below.refl _ _))
            | n + 19, ho => exact absurd ho (by simp)
          case done =>
            intro f vs W hall hT hvs
            have v0 : vs 0 = .pointer (some ⟨D, 0, none⟩) := hvs 0 (by decide)
            have v1 : vs 1 = .pointer (some ⟨D, 0, none⟩) := hvs 1 (by decide)
            have v2 : vs 2 = .pointer (some ⟨D, 6, none⟩) := hvs 2 (by decide)
            have v3 : vs 3 = VO := hvs 3 (by decide)
            obtain ⟨z4, v4, w4⟩ : ∃ z, vs 4 = z ∧ wtF D k pt wy VO false ol 4 W z := ⟨_, rfl, hvs 4 (by decide)⟩
            have v5 : vs 5 = .int .i64 k := hvs 5 (by decide)
            have v6 : vs 6 = .pointer (some ⟨D, 0, none⟩) := hvs 6 (by decide)
            have v7 : vs 7 = .pointer (some ⟨D, 0, none⟩) := hvs 7 (by decide)
            have v8 : vs 8 = .pointer (some ⟨D, 3, none⟩) := hvs 8 (by decide)
            have v9 : vs 9 = .int .i64 pt := hvs 9 (by decide)
            have v10 : vs 10 = .bool false := hvs 10 (by decide)
            have v11 : vs 11 = .pointer (some ⟨D, 0, none⟩) := hvs 11 (by decide)
            have v12 : vs 12 = .pointer (some ⟨D, 0, none⟩) := hvs 12 (by decide)
            have v13 : vs 13 = .pointer (some ⟨D, 9, none⟩) := hvs 13 (by decide)
            have v14 : vs 14 = .int .i64 wy := hvs 14 (by decide)
            obtain ⟨z15, v15, w15⟩ : ∃ z, vs 15 = z ∧ wtF D k pt wy VO false ol 15 W z := ⟨_, rfl, hvs 15 (by decide)⟩
            have v16 : vs 16 = .int .i64 k := hvs 16 (by decide)
            have v17 : vs 17 = .bool false := hvs 17 (by decide)
            have v18 : vs 18 = .int .i64 wy := hvs 18 (by decide)
            simp only [fillN, List.size_toArray, List.length_cons, List.length_nil, Nat.reduceAdd, show List.range 19 = [0, 1, 2, 3, 4, 5, 6, 7, 8, 9, 10, 11, 12, 13, 14, 15, 16, 17, 18] from rfl, List.foldl_cons, List.foldl_nil, show wtSlot 0 = 39 from rfl, show wtSlot 1 = 40 from rfl, show wtSlot 2 = 41 from rfl, show wtSlot 3 = 42 from rfl, show wtSlot 4 = 43 from rfl, show wtSlot 5 = 44 from rfl, show wtSlot 6 = 45 from rfl, show wtSlot 7 = 46 from rfl, show wtSlot 8 = 47 from rfl, show wtSlot 9 = 48 from rfl, show wtSlot 10 = 49 from rfl, show wtSlot 11 = 50 from rfl, show wtSlot 12 = 51 from rfl, show wtSlot 13 = 52 from rfl, show wtSlot 14 = 53 from rfl, show wtSlot 15 = 4 from rfl, show wtSlot 16 = 5 from rfl, show wtSlot 17 = 6 from rfl, show wtSlot 18 = 7 from rfl, v0, v1, v2, v3, v4, v5, v6, v7, v8, v9, v10, v11, v12, v13, v14, v15, v16, v17, v18]
            clear v0 v1 v2 v3 v4 v5 v6 v7 v8 v9 v10 v11 v12 v13 v14 v15 v16 v17 v18 hvs
            have HTB := Lib.hid hT.bel
            have HW15 := Lib.hid w15
            clear w4 w15 hT hall
            go_simp
            go_wp2_with fail
            simp [bodyPost, results, Tryd.results9, go_sem]
            rw [HEND.out]
            refine ⟨⟨z15, ?_, ?_⟩, HDD.out.below HTB.out, HBL.out.trans (HTB.out.mono (Nat.le_of_lt HDL.out))⟩
            · rw [HPT.out, HWY.out, HB5D.out]
            · rw [HOL.out]; exact HW15.out
      · have hyk : k < M := by have := of_decide_eq_true HBLT.out; omega
        have hbn2 : ((pt : Int) != 5) = false := by rw [hb5n]; rfl
        clear hb5n
        go_wp2_with fail
        refine region_slots2 wtSlot (wtF D k pt wy VO true ol) (wtT wr) (by kernel_rfl) (by kernel_rfl) (fun i => Nat.lt_of_lt_of_le (wtSlot_lt i) (by show 54 ≤ _; simp)) (fun i j hi hj h => wtSlot_inj i j hi hj h) ?start ?dst ?step ?done
        case start => exact ⟨HDR.out, fun _ => rfl⟩
        case dst =>
          intro i o ho
          match i, ho with
          | 0, ho => cases ho; rfl
          | 1, ho => cases ho; rfl
          | 2, ho => cases ho; rfl
          | 3, ho => cases ho; rfl
          | 4, ho => cases ho; rfl
          | 5, ho => cases ho; rfl
          | 6, ho => cases ho; rfl
          | 7, ho => cases ho; rfl
          | 8, ho => cases ho; rfl
          | 9, ho => cases ho; rfl
          | 10, ho => cases ho; rfl
          | 11, ho => cases ho; rfl
          | 12, ho => cases ho; rfl
          | 13, ho => cases ho; rfl
          | 14, ho => cases ho; rfl
          | 15, ho => cases ho; rfl
          | 16, ho => cases ho; rfl
          | 17, ho => cases ho; rfl
          | 18, ho => cases ho; rfl
          | n + 19, ho => exact absurd ho (by simp)
        case step =>
          intro f a' W i o ho hfi hpre hT hrest hyet
          match i, ho with
          | 0, ho =>
            cases ho
            have q0 : a'.tmps.getD 0 undef = .pointer (some ⟨D, 0, none⟩) := (hrest 0 wtNot0)
            have e0 := rg_ev q0
            exact rg_same2 (.pointer (some ⟨D, 0, none⟩)) (by unfold Oper.wp execOp; go_simp; all_goals ((try simp only [e0]); (try go_simp); (try rw [if_pos (by omega)]); (try rw [if_neg (by omega)]); first | done | rfl | exact ⟨rfl, rfl⟩ | trivial)) rfl (hT.step 0 (by decide) (Below.refl _ _))
          | 1, ho =>
            cases ho
            have f39 := (hpre { on := 0, ground := .data } (by simp) rfl).1
            have q39 : a'.tmps.getD 39 undef = .pointer (some ⟨D, 0, none⟩) := (hpre { on := 0, ground := .data } (by simp) rfl).2
            have e39 := rg_ev q39
            exact rg_same2 (.pointer (some ⟨D, 0, none⟩)) (by unfold Oper.wp execOp; go_simp; all_goals ((try simp only [e39]); (try go_simp); (try rw [if_pos (by omega)]); (try rw [if_neg (by omega)]); first | done | rfl | exact ⟨rfl, rfl⟩ | trivial)) rfl (hT.step 1 (by decide) (Below.refl _ _))
          | 2, ho =>
            cases ho
            have f40 := (hpre { on := 1, ground := .data } (by simp) rfl).1
            have q40 : a'.tmps.getD 40 undef = .pointer (some ⟨D, 0, none⟩) := (hpre { on := 1, ground := .data } (by simp) rfl).2
            have e40 := rg_ev q40
            exact rg_same2 (.pointer (some ⟨D, 6, none⟩)) (by unfold Oper.wp execOp; go_simp; all_goals ((try simp only [e40]); (try go_simp); (try rw [if_pos (by omega)]); (try rw [if_neg (by omega)]); first | done | rfl | exact ⟨rfl, rfl⟩ | trivial)) rfl (hT.step 2 (by decide) (Below.refl _ _))
          | 3, ho =>
            cases ho
            have f41 := (hpre { on := 2, ground := .data } (by simp) rfl).1
            have q41 : a'.tmps.getD 41 undef = .pointer (some ⟨D, 6, none⟩) := (hpre { on := 2, ground := .data } (by simp) rfl).2
            have hc6 : W.cell? ⟨D, 6, none⟩ = some VO := (hT.bel.cell HDL.out).trans HA6.out
            have e41 := rg_ev q41
            exact rg_same2 (VO) (by unfold Oper.wp execOp; go_simp; all_goals ((try simp only [e41]); (try go_simp); (try rw [if_pos (by omega)]); (try rw [if_neg (by omega)]); first | done | rfl | exact ⟨rfl, rfl⟩ | trivial)) rfl (hT.step 3 (by decide) (Below.refl _ _))
          | 4, ho =>
            cases ho
            have f42 := (hpre { on := 3, ground := .data } (by simp) rfl).1
            have q42 : a'.tmps.getD 42 undef = VO := (hpre { on := 3, ground := .data } (by simp) rfl).2
            exact rg_call 42 16 _ _ _ rfl q42 (enters_of Tryd.func16 (by kernel_rfl) rfl) (ck_clone VO ol W (HBO.out.below hT.bel) (by omega)) (fun e w' h => by
              obtain ⟨r, h1, h2, h3⟩ := h
              exact ⟨r, h1, r, rfl, h2, hT.step 4 (by decide) h3, fun j u _ hF => wtF_below h3 hF⟩)
          | 5, ho =>
            cases ho
            have q5 : a'.tmps.getD 5 undef = .int .i64 k := hyet 16 (by decide) (hT.n5 hfi)
            have e5 := rg_ev q5
            exact rg_same2 (.int .i64 k) (by unfold Oper.wp execOp; go_simp; all_goals ((try simp only [e5]); (try go_simp); (try rw [if_pos (by omega)]); (try rw [if_neg (by omega)]); first | done | rfl | exact ⟨rfl, rfl⟩ | trivial)) rfl (hT.step 5 (by decide) (Below.refl _ _))
          | 6, ho =>
            cases ho
            have q0 : a'.tmps.getD 0 undef = .pointer (some ⟨D, 0, none⟩) := (hrest 0 wtNot0)
            have e0 := rg_ev q0
            exact rg_same2 (.pointer (some ⟨D, 0, none⟩)) (by unfold Oper.wp execOp; go_simp; all_goals ((try simp only [e0]); (try go_simp); (try rw [if_pos (by omega)]); (try rw [if_neg (by omega)]); first | done | rfl | exact ⟨rfl, rfl⟩ | trivial)) rfl (hT.step 6 (by decide) (Below.refl _ _))
          | 7, ho =>
            cases ho
            have f45 := (hpre { on := 6, ground := .data } (by simp) rfl).1
            have q45 : a'.tmps.getD 45 undef = .pointer (some ⟨D, 0, none⟩) := (hpre { on := 6, ground := .data } (by simp) rfl).2
            have e45 := rg_ev q45
            exact rg_same2 (.pointer (some ⟨D, 0, none⟩)) (by unfold Oper.wp execOp; go_simp; all_goals ((try simp only [e45]); (try go_simp); (try rw [if_pos (by omega)]); (try rw [if_neg (by omega)]); first | done | rfl | exact ⟨rfl, rfl⟩ | trivial)) rfl (hT.step 7 (by decide) (Below.refl _ _))
          | 8, ho =>
            cases ho
            have f46 := (hpre { on := 7, ground := .data } (by simp) rfl).1
            have q46 : a'.tmps.getD 46 undef = .pointer (some ⟨D, 0, none⟩) := (hpre { on := 7, ground := .data } (by simp) rfl).2
            have e46 := rg_ev q46
            exact rg_same2 (.pointer (some ⟨D, 3, none⟩)) (by unfold Oper.wp execOp; go_simp; all_goals ((try simp only [e46]); (try go_simp); (try rw [if_pos (by omega)]); (try rw [if_neg (by omega)]); first | done | rfl | exact ⟨rfl, rfl⟩ | trivial)) rfl (hT.step 8 (by decide) (Below.refl _ _))
          | 9, ho =>
            cases ho
            have f47 := (hpre { on := 8, ground := .data } (by simp) rfl).1
            have q47 : a'.tmps.getD 47 undef = .pointer (some ⟨D, 3, none⟩) := (hpre { on := 8, ground := .data } (by simp) rfl).2
            have hc3 : W.cell? ⟨D, 3, none⟩ = some (.int .i64 pt) := (hT.bel.cell HDL.out).trans HA3.out
            have e47 := rg_ev q47
            exact rg_same2 (.int .i64 pt) (by unfold Oper.wp execOp; go_simp; all_goals ((try simp only [e47]); (try go_simp); (try rw [if_pos (by omega)]); (try rw [if_neg (by omega)]); first | done | rfl | exact ⟨rfl, rfl⟩ | trivial)) rfl (hT.step 9 (by decide) (Below.refl _ _))
          | 10, ho =>
            cases ho
            have f48 := (hpre { on := 9, ground := .data } (by simp) rfl).1
            have q48 : a'.tmps.getD 48 undef = .int .i64 pt := (hpre { on := 9, ground := .data } (by simp) rfl).2
            have hb5 := HB5.out
            have e48 := rg_ev q48
            exact rg_same2 (.bool true) (by unfold Oper.wp execOp; go_simp; all_goals ((try simp only [e48]); (try go_simp); (try rw [if_pos (by omega)]); (try rw [if_neg (by omega)]); first | done | rfl | exact ⟨rfl, rfl⟩ | trivial)) rfl (hT.step 10 (by decide) (Below.refl _ _))
          | 11, ho =>
            cases ho
            have q0 : a'.tmps.getD 0 undef = .pointer (some ⟨D, 0, none⟩) := (hrest 0 wtNot0)
            have e0 := rg_ev q0
            exact rg_same2 (.pointer (some ⟨D, 0, none⟩)) (by unfold Oper.wp execOp; go_simp; all_goals ((try simp only [e0]); (try go_simp); (try rw [if_pos (by omega)]); (try rw [if_neg (by omega)]); first | done | rfl | exact ⟨rfl, rfl⟩ | trivial)) rfl (hT.step 11 (by decide) (Below.refl _ _))
          | 12, ho =>
            cases ho
            have f50 := (hpre { on := 11, ground := .data } (by simp) rfl).1
            have q50 : a'.tmps.getD 50 undef = .pointer (some ⟨D, 0, none⟩) := (hpre { on := 11, ground := .data } (by simp) rfl).2
            have e50 := rg_ev q50
            exact rg_same2 (.pointer (some ⟨D, 0, none⟩)) (by unfold Oper.wp execOp; go_simp; all_goals ((try simp only [e50]); (try go_simp); (try rw [if_pos (by omega)]); (try rw [if_neg (by omega)]); first | done | rfl | exact ⟨rfl, rfl⟩ | trivial)) rfl (hT.step 12 (by decide) (Below.refl _ _))
          | 13, ho =>
            cases ho
            have f51 := (hpre { on := 12, ground := .data } (by simp) rfl).1
            have q51 : a'.tmps.getD 51 undef = .pointer (some ⟨D, 0, none⟩) := (hpre { on := 12, ground := .data } (by simp) rfl).2
            have e51 := rg_ev q51
            exact rg_same2 (.pointer (some ⟨D, 9, none⟩)) (by unfold Oper.wp execOp; go_simp; all_goals ((try simp only [e51]); (try go_simp); (try rw [if_pos (by omega)]); (try rw [if_neg (by omega)]); first | done | rfl | exact ⟨rfl, rfl⟩ | trivial)) rfl (hT.step 13 (by decide) (Below.refl _ _))
          | 14, ho =>
            cases ho
            have f52 := (hpre { on := 13, ground := .data } (by simp) rfl).1
            have q52 : a'.tmps.getD 52 undef = .pointer (some ⟨D, 9, none⟩) := (hpre { on := 13, ground := .data } (by simp) rfl).2
            have hc9 : W.cell? ⟨D, 9, none⟩ = some (.int .i64 wy) := (hT.bel.cell HDL.out).trans HA9.out
            have e52 := rg_ev q52
            exact rg_same2 (.int .i64 wy) (by unfold Oper.wp execOp; go_simp; all_goals ((try simp only [e52]); (try go_simp); (try rw [if_pos (by omega)]); (try rw [if_neg (by omega)]); first | done | rfl | exact ⟨rfl, rfl⟩ | trivial)) rfl (hT.step 14 (by decide) (Below.refl _ _))
          | 15, ho =>
            cases ho
            have f43 := (hpre { on := 4, ground := .data } (by simp) rfl).1
            have h43 : wtF D k pt wy VO true ol 4 W (a'.tmps.getD 43 undef) := (hpre { on := 4, ground := .data } (by simp) rfl).2
            obtain ⟨y43, hy43⟩ : ∃ z, a'.tmps.getD 43 undef = z := ⟨_, rfl⟩
            rw [hy43] at h43
            have e43 := rg_ev hy43
            exact rg_same2 y43 (by unfold Oper.wp execOp; go_simp; all_goals ((try simp only [e43]); (try go_simp); (try rw [if_pos (by omega)]); (try rw [if_neg (by omega)]); first | done | rfl | exact ⟨rfl, rfl⟩ | trivial)) h43 (hT.step 15 (by decide) (Below.refl _ _))
          | 16, ho =>
            cases ho
            have f44 := (hpre { on := 5, ground := .data } (by simp) rfl).1
            have q44 : a'.tmps.getD 44 undef = .int .i64 k := (hpre { on := 5, ground := .data } (by simp) rfl).2
            have e44 := rg_ev q44
            exact rg_same2 (.int .i64 k) (by unfold Oper.wp execOp; go_simp; all_goals ((try simp only [e44]); (try go_simp); (try rw [if_pos (by omega)]); (try rw [if_neg (by omega)]); first | done | rfl | exact ⟨rfl, rfl⟩ | trivial)) rfl ⟨hT.bel, fun e => absurd (f44.symm.trans (up_false e)) (by decide)⟩
          | 17, ho =>
            cases ho
            have f49 := (hpre { on := 10, ground := .data } (by simp) rfl).1
            have q49 : a'.tmps.getD 49 undef = .bool true := (hpre { on := 10, ground := .data } (by simp) rfl).2
            have e49 := rg_ev q49
            exact rg_same2 (.bool true) (by unfold Oper.wp execOp; go_simp; all_goals ((try simp only [e49]); (try go_simp); (try rw [if_pos (by omega)]); (try rw [if_neg (by omega)]); first | done | rfl | exact ⟨rfl, rfl⟩ | trivial)) rfl (hT.step 17 (by decide) (Below.refl _ _))
          | 18, ho =>
            cases ho
            have f53 := (hpre { on := 14, ground := .data } (by simp) rfl).1
            have q53 : a'.tmps.getD 53 undef = .int .i64 wy := (hpre { on := 14, ground := .data } (by simp) rfl).2
            have e53 := rg_ev q53
            exact rg_same2 (.int .i64 wy) (by unfold Oper.wp execOp; go_simp; all_goals ((try simp only [e53]); (try go_simp); (try rw [if_pos (by omega)]); (try rw [if_neg (by omega)]); first | done | rfl | exact ⟨rfl, rfl⟩ | trivial)) rfl (hT.step 18 (by decide) (Below.refl _ _))
          | n + 19, ho => exact absurd ho (by simp)
        case done =>
          intro f vs W hall hT hvs
          have v0 : vs 0 = .pointer (some ⟨D, 0, none⟩) := hvs 0 (by decide)
          have v1 : vs 1 = .pointer (some ⟨D, 0, none⟩) := hvs 1 (by decide)
          have v2 : vs 2 = .pointer (some ⟨D, 6, none⟩) := hvs 2 (by decide)
          have v3 : vs 3 = VO := hvs 3 (by decide)
          obtain ⟨z4, v4, w4⟩ : ∃ z, vs 4 = z ∧ wtF D k pt wy VO true ol 4 W z := ⟨_, rfl, hvs 4 (by decide)⟩
          have v5 : vs 5 = .int .i64 k := hvs 5 (by decide)
          have v6 : vs 6 = .pointer (some ⟨D, 0, none⟩) := hvs 6 (by decide)
          have v7 : vs 7 = .pointer (some ⟨D, 0, none⟩) := hvs 7 (by decide)
          have v8 : vs 8 = .pointer (some ⟨D, 3, none⟩) := hvs 8 (by decide)
          have v9 : vs 9 = .int .i64 pt := hvs 9 (by decide)
          have v10 : vs 10 = .bool true := hvs 10 (by decide)
          have v11 : vs 11 = .pointer (some ⟨D, 0, none⟩) := hvs 11 (by decide)
          have v12 : vs 12 = .pointer (some ⟨D, 0, none⟩) := hvs 12 (by decide)
          have v13 : vs 13 = .pointer (some ⟨D, 9, none⟩) := hvs 13 (by decide)
          have v14 : vs 14 = .int .i64 wy := hvs 14 (by decide)
          obtain ⟨z15, v15, w15⟩ : ∃ z, vs 15 = z ∧ wtF D k pt wy VO true ol 15 W z := ⟨_, rfl, hvs 15 (by decide)⟩
          have v16 : vs 16 = .int .i64 k := hvs 16 (by decide)
          have v17 : vs 17 = .bool true := hvs 17 (by decide)
          have v18 : vs 18 = .int .i64 wy := hvs 18 (by decide)
          simp only [fillN, List.size_toArray, List.length_cons, List.length_nil, Nat.reduceAdd, show List.range 19 = [0, 1, 2, 3, 4, 5, 6, 7, 8, 9, 10, 11, 12, 13, 14, 15, 16, 17, 18] from rfl, List.foldl_cons, List.foldl_nil, show wtSlot 0 = 39 from rfl, show wtSlot 1 = 40 from rfl, show wtSlot 2 = 41 from rfl, show wtSlot 3 = 42 from rfl, show wtSlot 4 = 43 from rfl, show wtSlot 5 = 44 from rfl, show wtSlot 6 = 45 from rfl, show wtSlot 7 = 46 from rfl, show wtSlot 8 = 47 from rfl, show wtSlot 9 = 48 from rfl, show wtSlot 10 = 49 from rfl, show wtSlot 11 = 50 from rfl, show wtSlot 12 = 51 from rfl, show wtSlot 13 = 52 from rfl, show wtSlot 14 = 53 from rfl, show wtSlot 15 = 4 from rfl, show wtSlot 16 = 5 from rfl, show wtSlot 17 = 6 from rfl, show wtSlot 18 = 7 from rfl, v0, v1, v2, v3, v4, v5, v6, v7, v8, v9, v10, v11, v12, v13, v14, v15, v16, v17, v18]
          clear v0 v1 v2 v3 v4 v5 v6 v7 v8 v9 v10 v11 v12 v13 v14 v15 v16 v17 v18 hvs
          have HTB := Lib.hid hT.bel
          have HW15 := Lib.hid w15
          clear w4 w15 hT hall
          go_simp
          go_wp2_with fail
          simp [bodyPost, results, Tryd.results9, go_sem]
          rw [HEND.out]
          refine ⟨⟨z15, ?_, ?_⟩, HDD.out.below HTB.out, HBL.out.trans (HTB.out.mono (Nat.le_of_lt HDL.out))⟩
          · rw [HPT.out, HWY.out, HB5D.out]
          · rw [HOL.out]; exact HW15.out
      · have hyk : k < M := by have := of_decide_eq_true HBLT.out; omega
        have hbn2 : ((pt : Int) != 5) = true := by rw [hb5n]; rfl
        clear hb5n
        go_wp2_with fail
        refine region_slots2 wtSlot (wtF D k pt wy VO false ol) (wtT wr) (by kernel_rfl) (by kernel_rfl) (fun i => Nat.lt_of_lt_of_le (wtSlot_lt i) (by show 54 ≤ _; simp)) (fun i j hi hj h => wtSlot_inj i j hi hj h) ?start ?dst ?step ?done
        case start => exact ⟨HDR.out, fun _ => rfl⟩
        case dst =>
          intro i o ho
          match i, ho with
          | 0, ho => cases ho; rfl
          | 1, ho => cases ho; rfl
          | 2, ho => cases ho; rfl
          | 3, ho => cases ho; rfl
          | 4, ho => cases ho; rfl
          | 5, ho => cases ho; rfl
          | 6, ho => cases ho; rfl
          | 7, ho => cases ho; rfl
          | 8, ho => cases ho; rfl
          | 9, ho => cases ho; rfl
          | 10, ho => cases ho; rfl
          | 11, ho => cases ho; rfl
          | 12, ho => cases ho; rfl
          | 13, ho => cases ho; rfl
          | 14, ho => cases ho; rfl
          | 15, ho => cases ho; rfl
          | 16, ho => cases ho; rfl
          | 17, ho => cases ho; rfl
          | 18, ho => cases ho; rfl
          | n + 19, ho => exact absurd ho (by simp)
        case step =>
          intro f a' W i o ho hfi hpre hT hrest hyet
          match i, ho with
          | 0, ho =>
            cases ho
            have q0 : a'.tmps.getD 0 undef = .pointer (some ⟨D, 0, none⟩) := (hrest 0 wtNot0)
            have e0 := rg_ev q0
            exact rg_same2 (.pointer (some ⟨D, 0, none⟩)) (by unfold Oper.wp execOp; go_simp; all_goals ((try simp only [e0]); (try go_simp); (try rw [if_pos (by omega)]); (try rw [if_neg (by omega)]); first | done | rfl | exact ⟨rfl, rfl⟩ | trivial)) rfl (hT.step 0 (by decide) (Below.refl _ _))
          | 1, ho =>
            cases ho
            have f39 := (hpre { on := 0, ground := .data } (by simp) rfl).1
            have q39 : a'.tmps.getD 39 undef = .pointer (some ⟨D, 0, none⟩) := (hpre { on := 0, ground := .data } (by simp) rfl).2
            have e39 := rg_ev q39
            exact rg_same2 (.pointer (some ⟨D, 0, none⟩)) (by unfold Oper.wp execOp; go_simp; all_goals ((try simp only [e39]); (try go_simp); (try rw [if_pos (by omega)]); (try rw [if_neg (by omega)]); first | done | rfl | exact ⟨rfl, rfl⟩ | trivial)) rfl (hT.step 1 (by decide) (Below.refl _ _))
          | 2, ho =>
            cases ho
            have f40 := (hpre { on := 1, ground := .data } (by simp) rfl).1
            have q40 : a'.tmps.getD 40 undef = .pointer (some ⟨D, 0, none⟩) := (hpre { on := 1, ground := .data } (by simp) rfl).2
            have e40 := rg_ev q40
            exact rg_same2 (.pointer (some ⟨D, 6, none⟩)) (by unfold Oper.wp execOp; go_simp; all_goals ((try simp only [e40]); (try go_simp); (try rw [if_pos (by omega)]); (try rw [if_neg (by omega)]); first | done | rfl | exact ⟨rfl, rfl⟩ | trivial)) rfl (hT.step 2 (by decide) (Below.refl _ _))
          | 3, ho =>
            cases ho
            have f41 := (hpre { on := 2, ground := .data } (by simp) rfl).1
            have q41 : a'.tmps.getD 41 undef = .pointer (some ⟨D, 6, none⟩) := (hpre { on := 2, ground := .data } (by simp) rfl).2
            have hc6 : W.cell? ⟨D, 6, none⟩ = some VO := (hT.bel.cell HDL.out).trans HA6.out
            have e41 := rg_ev q41
            exact rg_same2 (VO) (by unfold Oper.wp execOp; go_simp; all_goals ((try simp only [e41]); (try go_simp); (try rw [if_pos (by omega)]); (try rw [if_neg (by omega)]); first | done | rfl | exact ⟨rfl, rfl⟩ | trivial)) rfl (hT.step 3 (by decide) (Below.refl _ _))
          | 4, ho =>
            cases ho
            have f42 := (hpre { on := 3, ground := .data } (by simp) rfl).1
            have q42 : a'.tmps.getD 42 undef = VO := (hpre { on := 3, ground := .data } (by simp) rfl).2
            exact rg_call 42 16 _ _ _ rfl q42 (enters_of Tryd.func16 (by kernel_rfl) rfl) (ck_clone VO ol W (HBO.out.below hT.bel) (by omega)) (fun e w' h => by
              obtain ⟨r, h1, h2, h3⟩ := h
              exact ⟨r, h1, r, rfl, h2, hT.step 4 (by decide) h3, fun j u _ hF => wtF_below h3 hF⟩)
          | 5, ho =>
            cases ho
            have q5 : a'.tmps.getD 5 undef = .int .i64 k := hyet 16 (by decide) (hT.n5 hfi)
            have e5 := rg_ev q5
            exact rg_same2 (.int .i64 k) (by unfold Oper.wp execOp; go_simp; all_goals ((try simp only [e5]); (try go_simp); (try rw [if_pos (by omega)]); (try rw [if_neg (by omega)]); first | done | rfl | exact ⟨rfl, rfl⟩ | trivial)) rfl (hT.step 5 (by decide) (Below.refl _ _))
          | 6, ho =>
            cases ho
            have q0 : a'.tmps.getD 0 undef = .pointer (some ⟨D, 0, none⟩) := (hrest 0 wtNot0)
            have e0 := rg_ev q0
            exact rg_same2 (.pointer (some ⟨D, 0, none⟩)) (by unfold Oper.wp execOp; go_simp; all_goals ((try simp only [e0]); (try go_simp); (try rw [if_pos (by omega)]); (try rw [if_neg (by omega)]); first | done | rfl | exact ⟨rfl, rfl⟩ | trivial)) rfl (hT.step 6 (by decide) (Below.refl _ _))
          | 7, ho =>
            cases ho
            have f45 := (hpre { on := 6, ground := .data } (by simp) rfl).1
            have q45 : a'.tmps.getD 45 undef = .pointer (some ⟨D, 0, none⟩) := (hpre { on := 6, ground := .data } (by simp) rfl).2
            have e45 := rg_ev q45
            exact rg_same2 (.pointer (some ⟨D, 0, none⟩)) (by unfold Oper.wp execOp; go_simp; all_goals ((try simp only [e45]); (try go_simp); (try rw [if_pos (by omega)]); (try rw [if_neg (by omega)]); first | done | rfl | exact ⟨rfl, rfl⟩ | trivial)) rfl (hT.step 7 (by decide) (Below.refl _ _))
          | 8, ho =>
            cases ho
            have f46 := (hpre { on := 7, ground := .data } (by simp) rfl).1
            have q46 : a'.tmps.getD 46 undef = .pointer (some ⟨D, 0, none⟩) := (hpre { on := 7, ground := .data } (by simp) rfl).2
            have e46 := rg_ev q46
            exact rg_same2 (.pointer (some ⟨D, 3, none⟩)) (by unfold Oper.wp execOp; go_simp; all_goals ((try simp only [e46]); (try go_simp); (try rw [if_pos (by omega)]); (try rw [if_neg (by omega)]); first | done | rfl | exact ⟨rfl, rfl⟩ | trivial)) rfl (hT.step 8 (by decide) (Below.refl _ _))
          | 9, ho =>
            cases ho
            have f47 := (hpre { on := 8, ground := .data } (by simp) rfl).1
            have q47 : a'.tmps.getD 47 undef = .pointer (some ⟨D, 3, none⟩) := (hpre { on := 8, ground := .data } (by simp) rfl).2
            have hc3 : W.cell? ⟨D, 3, none⟩ = some (.int .i64 pt) := (hT.bel.cell HDL.out).trans HA3.out
            have e47 := rg_ev q47
            exact rg_same2 (.int .i64 pt) (by unfold Oper.wp execOp; go_simp; all_goals ((try simp only [e47]); (try go_simp); (try rw [if_pos (by omega)]); (try rw [if_neg (by omega)]); first | done | rfl | exact ⟨rfl, rfl⟩ | trivial)) rfl (hT.step 9 (by decide) (Below.refl _ _))
          | 10, ho =>
            cases ho
            have f48 := (hpre { on := 9, ground := .data } (by simp) rfl).1
            have q48 : a'.tmps.getD 48 undef = .int .i64 pt := (hpre { on := 9, ground := .data } (by simp) rfl).2
            have hb5 := HB5.out
            have e48 := rg_ev q48
            exact rg_same2 (.bool false) (by unfold Oper.wp execOp; go_simp; all_goals ((try simp only [e48]); (try go_simp); (try rw [if_pos (by omega)]); (try rw [if_neg (by omega)]); first | done | rfl | exact ⟨rfl, rfl⟩ | trivial)) rfl (hT.step 10 (by decide) (Below.refl _ _))
          | 11, ho =>
            cases ho
            have q0 : a'.tmps.getD 0 undef = .pointer (some ⟨D, 0, none⟩) := (hrest 0 wtNot0)
            have e0 := rg_ev q0
            exact rg_same2 (.pointer (some ⟨D, 0, none⟩)) (by unfold Oper.wp execOp; go_simp; all_goals ((try simp only [e0]); (try go_simp); (try rw [if_pos (by omega)]); (try rw [if_neg (by omega)]); first | done | rfl | exact ⟨rfl, rfl⟩ | trivial)) rfl (hT.step 11 (by decide) (Below.refl _ _))
          | 12, ho =>
            cases ho
            have f50 := (hpre { on := 11, ground := .data } (by simp) rfl).1
            have q50 : a'.tmps.getD 50 undef = .pointer (some ⟨D, 0, none⟩) := (hpre { on := 11, ground := .data } (by simp) rfl).2
            have e50 := rg_ev q50
            exact rg_same2 (.pointer (some ⟨D, 0, none⟩)) (by unfold Oper.wp execOp; go_simp; all_goals ((try simp only [e50]); (try go_simp); (try rw [if_pos (by omega)]); (try rw [if_neg (by omega)]); first | done | rfl | exact ⟨rfl, rfl⟩ | trivial)) rfl (hT.step 12 (by decide) (Below.refl _ _))
          | 13, ho =>
            cases ho
            have f51 := (hpre { on := 12, ground := .data } (by simp) rfl).1
            have q51 : a'.tmps.getD 51 undef = .pointer (some ⟨D, 0, none⟩) := (hpre { on := 12, ground := .data } (by simp) rfl).2
            have e51 := rg_ev q51
            exact rg_same2 (.pointer (some ⟨D, 9, none⟩)) (by unfold Oper.wp execOp; go_simp; all_goals ((try simp only [e51]); (try go_simp); (try rw [if_pos (by omega)]); (try rw [if_neg (by omega)]); first | done | rfl | exact ⟨rfl, rfl⟩ | trivial)) rfl (hT.step 13 (by decide) (Below.refl _ _))
          | 14, ho =>
            cases ho
            have f52 := (hpre { on := 13, ground := .data } (by simp) rfl).1
            have q52 : a'.tmps.getD 52 undef = .pointer (some ⟨D, 9, none⟩) := (hpre { on := 13, ground := .data } (by simp) rfl).2
            have hc9 : W.cell? ⟨D, 9, none⟩ = some (.int .i64 wy) := (hT.bel.cell HDL.out).trans HA9.out
            have e52 := rg_ev q52
            exact rg_same2 (.int .i64 wy) (by unfold Oper.wp execOp; go_simp; all_goals ((try simp only [e52]); (try go_simp); (try rw [if_pos (by omega)]); (try rw [if_neg (by omega)]); first | done | rfl | exact ⟨rfl, rfl⟩ | trivial)) rfl (hT.step 14 (by decide) (Below.refl _ _))
          | 15, ho =>
            cases ho
            have f43 := (hpre { on := 4, ground := .data } (by simp) rfl).1
            have h43 : wtF D k pt wy VO false ol 4 W (a'.tmps.getD 43 undef) := (hpre { on := 4, ground := .data } (by simp) rfl).2
            obtain ⟨y43, hy43⟩ : ∃ z, a'.tmps.getD 43 undef = z := ⟨_, rfl⟩
            rw [hy43] at h43
            have e43 := rg_ev hy43
            exact rg_same2 y43 (by unfold Oper.wp execOp; go_simp; all_goals ((try simp only [e43]); (try go_simp); (try rw [if_pos (by omega)]); (try rw [if_neg (by omega)]); first | done | rfl | exact ⟨rfl, rfl⟩ | trivial)) h43 (hT.step 15 (by decide) (Below.refl _ _))
          | 16, ho =>
            cases ho
            have f44 := (hpre { on := 5, ground := .data } (by simp) rfl).1
            have q44 : a'.tmps.getD 44 undef = .int .i64 k := (hpre { on := 5, ground := .data } (by simp) rfl).2
            have e44 := rg_ev q44
            exact rg_same2 (.int .i64 k) (by unfold Oper.wp execOp; go_simp; all_goals ((try simp only [e44]); (try go_simp); (try rw [if_pos (by omega)]); (try rw [if_neg (by omega)]); first | done | rfl | exact ⟨rfl, rfl⟩ | trivial)) rfl ⟨hT.bel, fun e => absurd (f44.symm.trans (up_false e)) (by decide)⟩
          | 17, ho =>
            cases ho
            have f49 := (hpre { on := 10, ground := .data } (by simp) rfl).1
            have q49 : a'.tmps.getD 49 undef = .bool false := (hpre { on := 10, ground := .data } (by simp) rfl).2
            have e49 := rg_ev q49
            exact rg_same2 (.bool false) (by unfold Oper.wp execOp; go_simp; all_goals ((try simp only [e49]); (try go_simp); (try rw [if_pos (by omega)]); (try rw [if_neg (by omega)]); first | done | rfl | exact ⟨rfl, rfl⟩ | trivial)) rfl (hT.step 17 (by decide) (Below.refl _ _))
          | 18, ho =>
            cases ho
            have f53 := (hpre { on := 14, ground := .data } (by simp) rfl).1
            have q53 : a'.tmps.getD 53 undef = .int .i64 wy := (hpre { on := 14, ground := .data } (by simp) rfl).2
            have e53 := rg_ev q53
            exact rg_same2 (.int .i64 wy) (by unfold Oper.wp execOp; go_simp; all_goals ((try simp only [e53]); (try go_simp); (try rw [if_pos (by omega)]); (try rw [if_neg (by omega)]); first | done | rfl | exact ⟨rfl, rfl⟩ | trivial)) rfl (hT.step 18 (by decide) (Below.refl _ _))
          | n + 19, ho => exact absurd ho (by simp)
        case done =>
          intro f vs W hall hT hvs
          have v0 : vs 0 = .pointer (some ⟨D, 0, none⟩) := hvs 0 (by decide)
          have v1 : vs 1 = .pointer (some ⟨D, 0, none⟩) := hvs 1 (by decide)
          have v2 : vs 2 = .pointer (some ⟨D, 6, none⟩) := hvs 2 (by decide)
          have v3 : vs 3 = VO := hvs 3 (by decide)
          obtain ⟨z4, v4, w4⟩ : ∃ z, vs 4 = z ∧ wtF D k pt wy VO false ol 4 W z := ⟨_, rfl, hvs 4 (by decide)⟩
          have v5 : vs 5 = .int .i64 k := hvs 5 (by decide)
          have v6 : vs 6 = .pointer (some ⟨D, 0, none⟩) := hvs 6 (by decide)
          have v7 : vs 7 = .pointer (some ⟨D, 0, none⟩) := hvs 7 (by decide)
          have v8 : vs 8 = .pointer (some ⟨D, 3, none⟩) := hvs 8 (by decide)
          have v9 : vs 9 = .int .i64 pt := hvs 9 (by decide)
          have v10 : vs 10 = .bool false := hvs 10 (by decide)
          have v11 : vs 11 = .pointer (some ⟨D, 0, none⟩) := hvs 11 (by decide)
          have v12 : vs 12 = .pointer (some ⟨D, 0, none⟩) := hvs 12 (by decide)
          have v13 : vs 13 = .pointer (some ⟨D, 9, none⟩) := hvs 13 (by decide)
          have v14 : vs 14 = .int .i64 wy := hvs 14 (by decide)
          obtain ⟨z15, v15, w15⟩ : ∃ z, vs 15 = z ∧ wtF D k pt wy VO false ol 15 W z := ⟨_, rfl, hvs 15 (by decide)⟩
          have v16 : vs 16 = .int .i64 k := hvs 16 (by decide)
          have v17 : vs 17 = .bool false := hvs 17 (by decide)
          have v18 : vs 18 = .int .i64 wy := hvs 18 (by decide)
          simp only [fillN, List.size_toArray, List.length_cons, List.length_nil, Nat.reduceAdd, show List.range 19 = [0, 1, 2, 3, 4, 5, 6, 7, 8, 9, 10, 11, 12, 13, 14, 15, 16, 17, 18] from rfl, List.foldl_cons, List.foldl_nil, show wtSlot 0 = 39 from rfl, show wtSlot 1 = 40 from rfl, show wtSlot 2 = 41 from rfl, show wtSlot 3 = 42 from rfl, show wtSlot 4 = 43 from rfl, show wtSlot 5 = 44 from rfl, show wtSlot 6 = 45 from rfl, show wtSlot 7 = 46 from rfl, show wtSlot 8 = 47 from rfl, show wtSlot 9 = 48 from rfl, show wtSlot 10 = 49 from rfl, show wtSlot 11 = 50 from rfl, show wtSlot 12 = 51 from rfl, show wtSlot 13 = 52 from rfl, show wtSlot 14 = 53 from rfl, show wtSlot 15 = 4 from rfl, show wtSlot 16 = 5 from rfl, show wtSlot 17 = 6 from rfl, show wtSlot 18 = 7 from rfl, v0, v1, v2, v3, v4, v5, v6, v7, v8, v9, v10, v11, v12, v13, v14, v15, v16, v17, v18]
          clear v0 v1 v2 v3 v4 v5 v6 v7 v8 v9 v10 v11 v12 v13 v14 v15 v16 v17 v18 hvs
          have HTB := Lib.hid hT.bel
          have HW15 := Lib.hid w15
          clear w4 w15 hT hall
          go_simp
          go_wp2_with fail
          simp [bodyPost, results, Tryd.results9, go_sem]
          rw [HEND.out]
          refine ⟨⟨z15, ?_, ?_⟩, HDD.out.below HTB.out, HBL.out.trans (HTB.out.mono (Nat.le_of_lt HDL.out))⟩
          · rw [HPT.out, HWY.out, HB5D.out]
          · rw [HOL.out]; exact HW15.out
end Go.Proofs.YtaekcmoogobbjaaDoor

/- dechunk: New, Len, Of. -/
namespace Go.Proofs.YtaekcmoogobbjaaDoor
set_option linter.unusedVariables false
set_option linter.unusedSimpArgs false
set_option linter.unusedSectionVars false
open Go.RowKit Go.Shelf
set_option maxHeartbeats 8000000
set_option maxRecDepth 100000
theorem dc_New_no (cap : Int) (w : World) (h : cap < 1 ∨ 8192 < cap) :
    Calls Tryd.prog 6 #[.int .i64 cap] w fun e w' => e = .returned (.tuple #[.pointer none, .int .i64 2]) ∧ w' = w := by
  by_cases h1 : cap < 1
  · clear h
    go_enter Tryd.func6, Tryd.ntmps6
    go_wp2_with fail
    simp [bodyPost, results, Tryd.results6, go_sem]
  · have h2 : 8192 < cap := by omega
    clear h
    go_enter Tryd.func6, Tryd.ntmps6
    go_wp2_with fail
    simp [bodyPost, results, Tryd.results6, go_sem]
/-- a new decoder in memory -/
def DNew (w : World) (D cap : Nat) : Prop := w.heap[D]? = some (.cells (dcC cap Dn.start (.slice none 0 0) (.slice none 0 0) (.slice none 0 0) (.slice none 0 0)) 50 (0, 0))
theorem DNew.below {w w' : World} {D cap : Nat} (h : DNew w D cap) (hb : Below w.heap.size w w') : DNew w' D cap := (hb.block _ (Array.getElem?_eq_some_iff.1 h).1).trans h
theorem DNew.dd [Gst] {w : World} {D cap : Nat} (h : DNew w D cap) (hg : ∀ k o, Gst.g k = some o → w.heap[k]? = some o ∧ k ≠ D) : DD w D cap Dn.start :=
  ⟨_, _, _, _, ⟨h, World.ownsRow_nil _ _ _ _, World.ownsRow_nil _ _ _ _, World.ownsRow_nil _ _ _ _, ⟨[], World.ownsRow_nil _ _ _ _, ⟨fun k o e => ⟨(hg k o e).1, (hg k o e).2, fun h => (by cases h), fun h => (by cases h), fun h => (by cases h), fun h => (by cases h)⟩, rfl, fun i hi => absurd hi (Nat.not_lt_zero i)⟩⟩, apart_nil _, apart_nil _, apart_nil _⟩⟩
theorem dc_New (cap : Nat) (w : World) (h1 : 1 ≤ cap) (h2 : cap ≤ 8192) :
    Calls Tryd.prog 6 #[.int .i64 cap] w fun e w' => e = .returned (.tuple #[.pointer (some ⟨w.heap.size, 0, none⟩), .int .i64 0]) ∧ DNew w' w.heap.size cap ∧ Below w.heap.size w w' := by
  have h3 : ¬ ((cap : Int) < 1) := by omega
  have h4 : ¬ (8192 < (cap : Int)) := by omega
  have hg := World.alloc_heap_new w (.cells (dcC cap Dn.start (.slice none 0 0) (.slice none 0 0) (.slice none 0 0) (.slice none 0 0)) 50)
  have HD := Lib.hid (show DNew (w.alloc (.cells (dcC cap Dn.start (.slice none 0 0) (.slice none 0 0) (.slice none 0 0) (.slice none 0 0)) 50)) w.heap.size cap from hg)
  clear hg
  go_enter Tryd.func6, Tryd.ntmps6
  go_wp2_with fail
  simp [bodyPost, results, Tryd.results6, go_sem]
  exact ⟨HD.out, (Below.refl _ _).alloc (Nat.le_refl _) _⟩
theorem dc_Len [Gst] (D cap : Nat) (s : Dn.St) (w : World) (h : DD w D cap s) (hc : 1 ≤ cap) :
    Calls Tryd.prog 10 #[.pointer (some ⟨D, 0, none⟩)] w fun e w' => e = .returned (.int .i64 s.many) ∧ w' = w := by
  have KN := Lib.hid (dc_none D cap s w h hc)
  obtain ⟨_, _, _, _, hd⟩ := h
  have hg := hd.cells
  unfold dcC at hg
  have a5 : w.cell? ⟨D, 5, none⟩ = some (.int .i64 s.many) := by simp [World.cell?, hg]
  clear hg hd
  go_enter Tryd.func10, Tryd.ntmps10
  go_wp2_with fail
  refine KN.out.mono ?_
  rintro e w' ⟨rfl, hw'⟩
  rw [hw']
  clear hw' w'
  go_wp2_with fail
  go_ret
  exact ⟨rfl, rfl⟩
/-- what Of tells -/
def ofOut (p : Dn.St × Nat) (w' : World) (e : Ending) : Prop :=
  if p.1.why ≠ 0 then e = .returned (.tuple #[.slice none 0 0, .int .i64 0, .int .i64 p.1.why])
  else if p.1.pt ≠ 5 then e = .returned (.tuple #[.slice none 0 0, .int .i64 0, .int .i64 202])
  else ∃ r, e = .returned (.tuple #[r, .int .i64 p.2, .int .i64 0]) ∧ BRow w' r p.1.out
theorem dc_Of_no (cap : Int) (v : Value) (w : World) (h : cap < 1 ∨ 8192 < cap) :
    Calls Tryd.prog 7 #[.int .i64 cap, v] w fun e w' => e = .returned (.tuple #[.slice none 0 0, .int .i64 0, .int .i64 2]) ∧ w' = w := by
  have K := Lib.hid (dc_New_no cap w h)
  clear h
  go_enter Tryd.func7, Tryd.ntmps7
  go_wp2_with fail
  refine K.out.mono ?_
  rintro e w' ⟨rfl, hw'⟩
  rw [hw']
  clear hw' w'
  go_wp2_with fail
  simp [bodyPost, results, Tryd.results7, go_sem]
theorem start_ok (cap : Nat) : Dn.Ok cap 0 Dn.start := ⟨by decide, fun h => (by cases h), by decide, Nat.zero_le _, fun _ => ⟨rfl, rfl⟩, fun _ => rfl, by decide, by decide, by decide, by decide, by decide, fun h => (by cases h)⟩
theorem dc_Of (cap : Nat) (l : List UInt8) (v : Value) (w : World) (h1 : 1 ≤ cap) (h2 : cap ≤ 8192) (hb : BRow w v l) (hl : l.length ≤ 100000) :
    Calls Tryd.prog 7 #[.int .i64 cap, v] w fun e w' => ofOut (Dn.write cap l Dn.start 0) w' e ∧ Below w.heap.size w w' := by
  letI : Gst := ⟨fun _ => none⟩
  have K := Lib.hid (dc_New cap w h1 h2)
  have KW := Lib.hid (fun W (h : DD W w.heap.size cap Dn.start) (hB : Below w.heap.size w W) => dc_Write w.heap.size cap 0 l v Dn.start W h (fun W' h' => hb.below (hB.trans h')) (start_ok cap) h1 h2 (by omega))
  rw [show ({ Dn.start with out := [] } : Dn.St) = Dn.start from rfl] at KW
  obtain ⟨⟨s, n⟩, hp⟩ : ∃ p, Dn.write cap l Dn.start 0 = p := ⟨_, rfl⟩
  rw [hp] at KW ⊢
  unfold wrOut at KW
  simp only at KW
  obtain ⟨pv, nv, cv, rfl⟩ : ∃ p q c, v = .slice p q c := by obtain ⟨p, c, rfl, _⟩ := hb; exact ⟨_, _, _, rfl⟩
  clear hp hb
  unfold ofOut
  simp only
  go_enter Tryd.func7, Tryd.ntmps7
  go_wp2_with fail
  refine K.out.mono ?_
  rintro e w1 ⟨rfl, hdd, hb1⟩
  have HD1 := Lib.hid (hdd.dd (fun k o h => by cases h))
  have HB1 := Lib.hid hb1
  clear hdd hb1
  go_wp2_with fail
  refine (KW.out w1 HD1.out HB1.out).mono ?_
  rintro e w2 ⟨⟨r, rfl, hr⟩, hdd2, hb2⟩
  have HR := Lib.hid hr
  have HB2 := Lib.hid (HB1.out.trans hb2)
  clear hr hdd2 hb2
  by_cases hw0 : s.why = 0
  · have hwb : ((s.why : Int) != 0) = false := by rw [hw0]; rfl
    have HW0 := Lib.hid hw0
    clear hw0
    by_cases hp5 : s.pt = 5
    · have hpb : decide (s.pt = 5) = true := decide_eq_true hp5
      rw [hpb]
      have HP5 := Lib.hid hp5
      clear hp5 hpb
      go_wp2_with fail
      simp [bodyPost, results, Tryd.results7, go_sem]
      exact ⟨HR.out, HB2.out⟩
    · have hpb : decide (s.pt = 5) = false := decide_eq_false hp5
      rw [hpb]
      have HP5 := Lib.hid hp5
      clear hp5 hpb
      go_wp2_with fail
      simp [bodyPost, results, Tryd.results7, go_sem]
      exact HB2.out
  · have hwb : ((s.why : Int) != 0) = true := by simp; omega
    have HW0 := Lib.hid hw0
    clear hw0
    go_wp2_with fail
    simp [bodyPost, results, Tryd.results7, go_sem]
    exact HB2.out
end Go.Proofs.YtaekcmoogobbjaaDoor

/- The decoder of chunks, plain: however bytes come in pieces. -/
namespace Go.Proofs.YtaekcmoogobbjaaDoor
set_option linter.unusedVariables false
set_option linter.unusedSimpArgs false
namespace Dn
def setO (s : St) (o : List UInt8) : St := { s with out := o }
theorem setO_self (s : St) : setO s s.out = s := rfl
theorem setO_setO (s : St) (a b : List UInt8) : setO (setO s a) b = setO s b := rfl
def stopped (s : St) : Prop := s.pt = 5 ∨ s.why ≠ 0
theorem write_stop (cap : Nat) (l : List UInt8) {s : St} (i : Nat) (h : stopped s) : write cap l s i = (s, i) := by
  cases l with
  | nil => rfl
  | cons c l => exact if_pos h
theorem write_go (cap : Nat) (c : UInt8) (l : List UInt8) {s : St} (i : Nat) (h : ¬ stopped s) : write cap (c :: l) s i = write cap l (step cap c s) (i + 1) := if_neg h
theorem write_app (cap : Nat) : ∀ (l1 l2 : List UInt8) (s : St) (i : Nat), write cap (l1 ++ l2) s i = write cap l2 (write cap l1 s i).1 (write cap l1 s i).2
  | [], l2, s, i => rfl
  | c :: l1, l2, s, i => by
    by_cases h : stopped s
    · rw [write_stop cap (c :: l1 ++ l2) i h, write_stop cap (c :: l1) i h, write_stop cap l2 i h]
    · rw [List.cons_append, write_go cap c _ i h, write_go cap c _ i h]
      exact write_app cap l1 l2 _ _
theorem write_shift (cap : Nat) : ∀ (l : List UInt8) (s : St) (i j : Nat), write cap l s (i + j) = ((write cap l s i).1, (write cap l s i).2 + j)
  | [], s, i, j => rfl
  | c :: l, s, i, j => by
    by_cases h : stopped s
    · rw [write_stop cap (c :: l) _ h, write_stop cap (c :: l) _ h]
    · rw [write_go cap c _ _ h, write_go cap c _ _ h, show i + j + 1 = (i + 1) + j by omega]
      exact write_shift cap l _ _ _
theorem step_out (cap : Nat) (c : UInt8) (s : St) (o : List UInt8) : step cap c (setO s (o ++ s.out)) = setO (step cap c s) (o ++ (step cap c s).out) := by
  obtain ⟨line, cr, pt, left, many, out, ended, under, why⟩ := s
  unfold step setO
  simp only
  split
  · unfold sizes sz told
    simp only
    split
    · rfl
    · rfl
    · split
      · split <;> rfl
      · rfl
  · unfold takes
    simp
  · unfold crs
    split <;> rfl
  · unfold lfs
    split <;> rfl
  · unfold lasts ls told
    simp only
    split
    · rfl
    · rfl
    · split
      · rfl
      · split <;> rfl
theorem write_out (cap : Nat) : ∀ (l : List UInt8) (s : St) (i : Nat) (o : List UInt8), write cap l (setO s (o ++ s.out)) i = (setO (write cap l s i).1 (o ++ (write cap l s i).1.out), (write cap l s i).2)
  | [], s, i, o => rfl
  | c :: l, s, i, o => by
    by_cases h : stopped s
    · rw [write_stop cap (c :: l) i h, write_stop cap (c :: l) i (show stopped (setO s (o ++ s.out)) from h)]
    · rw [write_go cap c _ _ (show ¬ stopped (setO s (o ++ s.out)) from h), write_go cap c _ _ h, step_out]
      exact write_out cap l _ _ _
theorem write_le (cap : Nat) : ∀ (l : List UInt8) (s : St) (i : Nat), i ≤ (write cap l s i).2 ∧ (write cap l s i).2 ≤ i + l.length ∧ ((write cap l s i).2 < i + l.length → stopped (write cap l s i).1)
  | [], s, i => ⟨Nat.le_refl _, Nat.le_refl _, fun h => absurd h (Nat.lt_irrefl _)⟩
  | c :: l, s, i => by
    by_cases h : stopped s
    · rw [write_stop cap (c :: l) i h]
      exact ⟨Nat.le_refl _, Nat.le_add_right _ _, fun _ => h⟩
    · rw [write_go cap c _ _ h]
      obtain ⟨h1, h2, h3⟩ := write_le cap l (step cap c s) (i + 1)
      simp only [List.length_cons]
      exact ⟨by omega, by omega, fun h => h3 (by omega)⟩
theorem step_len (cap : Nat) (c : UInt8) (s : St) : (step cap c s).out.length ≤ s.out.length + 1 ∧ (step cap c s).many + s.out.length = s.many + (step cap c s).out.length := by
  obtain ⟨line, cr, pt, left, many, out, ended, under, why⟩ := s
  unfold step
  simp only
  split
  · unfold sizes sz told
    simp only
    split
    · exact ⟨by simp, rfl⟩
    · exact ⟨by simp, rfl⟩
    · split
      · split <;> exact ⟨by simp, rfl⟩
      · exact ⟨by simp, rfl⟩
  · unfold takes
    simp only [List.length_append, List.length_cons, List.length_nil]
    omega
  · unfold crs
    split <;> exact ⟨by simp, rfl⟩
  · unfold lfs
    split <;> exact ⟨by simp, rfl⟩
  · unfold lasts ls told
    simp only
    split
    · exact ⟨by simp, rfl⟩
    · exact ⟨by simp, rfl⟩
    · split
      · exact ⟨by simp, rfl⟩
      · split <;> exact ⟨by simp, rfl⟩
theorem write_len (cap : Nat) : ∀ (l : List UInt8) (s : St) (i : Nat), (write cap l s i).1.out.length + i ≤ s.out.length + (write cap l s i).2 ∧ (write cap l s i).1.many + s.out.length = s.many + (write cap l s i).1.out.length
  | [], s, i => ⟨Nat.le_refl _, rfl⟩
  | c :: l, s, i => by
    by_cases h : stopped s
    · rw [write_stop cap (c :: l) i h]
      exact ⟨Nat.le_refl _, rfl⟩
    · rw [write_go cap c _ _ h]
      obtain ⟨h1, h2⟩ := write_len cap l (step cap c s) (i + 1)
      obtain ⟨h3, h4⟩ := step_len cap c s
      exact ⟨by omega, by omega⟩
theorem Ok.mono {cap m m' : Nat} {s : St} (h : Ok cap m s) (hm : m ≤ m') : Ok cap m' s :=
  ⟨h.pt, h.lft, h.left, h.line, h.quiet, h.und, Nat.le_trans h.many hm, Nat.le_trans h.out hm, Nat.le_trans h.under hm, Nat.le_trans h.ended hm, h.why, h.fin⟩
theorem Ok.setO {cap m : Nat} {s : St} (h : Ok cap m s) (o : List UInt8) (ho : o.length ≤ m) : Ok cap m (setO s o) :=
  ⟨h.pt, h.lft, h.left, h.line, h.quiet, h.und, h.many, ho, h.under, h.ended, h.why, h.fin⟩
theorem write_ok (cap : Nat) : ∀ (l : List UInt8) (s : St) (i m : Nat), Ok cap m s → Ok cap (m + l.length) (write cap l s i).1
  | [], s, i, m, h => h
  | c :: l, s, i, m, h => by
    by_cases hs : stopped s
    · rw [write_stop cap (c :: l) i hs]
      exact h.mono (Nat.le_add_right _ _)
    · rw [write_go cap c _ _ hs]
      have h5 : s.pt ≠ 5 := fun e => hs (.inl e)
      have hw : s.why = 0 := by
        by_cases e : s.why = 0
        · exact e
        · exact absurd (.inr e) hs
      have := write_ok cap l _ (i + 1) (m + 1) (step_ok c h h5 hw)
      simp only [List.length_cons]
      exact this.mono (by omega)
/-- what was told of the first so many bytes -/
def upto (cap : Nat) (b : List UInt8) (a : Nat) : St × Nat := write cap (b.take a) start 0
/-- the next piece -/
theorem upto_next (cap : Nat) (b : List UInt8) (a k : Nat) : upto cap b (a + k) = (setO (write cap ((b.drop a).take k) (setO (upto cap b a).1 []) 0).1 ((upto cap b a).1.out ++ (write cap ((b.drop a).take k) (setO (upto cap b a).1 []) 0).1.out), (upto cap b a).2 + (write cap ((b.drop a).take k) (setO (upto cap b a).1 []) 0).2) := by
  unfold upto
  rw [List.take_add, write_app]
  obtain ⟨S, U⟩ := write cap (b.take a) start 0
  simp only
  have h := write_out cap ((b.drop a).take k) (setO S []) 0 S.out
  have e : setO (setO S []) (S.out ++ (setO S []).out) = S := by unfold setO; simp
  rw [e] at h
  have h2 := write_shift cap ((b.drop a).take k) S 0 U
  rw [Nat.zero_add] at h2
  rw [h2, h]
  simp only [Nat.add_comm]
theorem step_each (cap : Nat) (c : UInt8) (s : St) (m : Nat) (h : ∀ p ∈ s.ended, p.length ≤ m) (hu : s.under.length ≤ m) : (∀ p ∈ (step cap c s).ended, p.length ≤ m + 1) ∧ (step cap c s).under.length ≤ m + 1 := by
  obtain ⟨line, cr, pt, left, many, out, ended, under, why⟩ := s
  simp only at h hu
  have h1 : ∀ p ∈ ended, p.length ≤ m + 1 := fun p hp => Nat.le_succ_of_le (h p hp)
  unfold step
  simp only
  split
  · unfold sizes sz told
    simp only
    split
    · exact ⟨h1, by simp only; omega⟩
    · exact ⟨h1, by simp only; omega⟩
    · split
      · split <;> exact ⟨h1, by simp only; omega⟩
      · exact ⟨h1, by simp only; omega⟩
  · unfold takes
    exact ⟨h1, by simp only [List.length_append, List.length_cons, List.length_nil]; omega⟩
  · unfold crs
    split <;> exact ⟨h1, by simp only; omega⟩
  · unfold lfs
    split
    · refine ⟨fun p hp => ?_, by simp⟩
      rcases List.mem_append.1 hp with hp | hp
      · exact h1 p hp
      · rw [List.mem_singleton] at hp
        have hp : p = under := hp
        rw [hp]
        exact Nat.le_succ_of_le hu
    · exact ⟨h1, by simp only; omega⟩
  · unfold lasts ls told
    simp only
    split
    · exact ⟨h1, by simp only; omega⟩
    · exact ⟨h1, by simp only; omega⟩
    · split
      · exact ⟨h1, by simp only; omega⟩
      · split <;> exact ⟨h1, by simp only; omega⟩
theorem write_each' (cap : Nat) : ∀ (l : List UInt8) (s : St) (i m : Nat), (∀ p ∈ s.ended, p.length ≤ m) → s.under.length ≤ m → (∀ p ∈ (write cap l s i).1.ended, p.length ≤ m + l.length)
  | [], s, i, m, h, _ => h
  | c :: l, s, i, m, h, hu => by
    by_cases hs : stopped s
    · rw [write_stop cap (c :: l) i hs]
      exact fun p hp => Nat.le_trans (h p hp) (Nat.le_add_right _ _)
    · rw [write_go cap c _ _ hs]
      obtain ⟨h1, h2⟩ := step_each cap c s m h hu
      have := write_each' cap l _ (i + 1) (m + 1) h1 h2
      intro p hp
      have := this p hp
      simp only [List.length_cons]
      omega
theorem write_each (cap : Nat) (l : List UInt8) : ∀ p ∈ (write cap l start 0).1.ended, p.length ≤ l.length := fun p hp => by
  have := write_each' cap l start 0 0 (fun p hp => by cases hp) (Nat.le_refl _) p hp
  omega
theorem start_ok (cap : Nat) : Ok cap 0 start := ⟨by decide, fun h => (by cases h), by decide, Nat.zero_le _, fun _ => ⟨rfl, rfl⟩, fun _ => rfl, by decide, by decide, by decide, by decide, by decide, fun h => (by cases h)⟩
theorem upto_ok (cap : Nat) (b : List UInt8) (a : Nat) : Ok cap a (upto cap b a).1 := by
  have h := write_ok cap (b.take a) start 0 0 (start_ok cap)
  exact h.mono (by rw [List.length_take]; omega)
theorem upto_many (cap : Nat) (b : List UInt8) (a : Nat) : (upto cap b a).1.many = (upto cap b a).1.out.length := by
  have h := (write_len cap (b.take a) start 0).2
  unfold upto
  have e1 : start.out.length = 0 := rfl
  have e2 : start.many = 0 := rfl
  omega
end Dn
end Go.Proofs.YtaekcmoogobbjaaDoor
