/- Texts of this claim, one behind the other: ND, Ck2, Ck3, Ck7, Ck8, Ck9, Dt, Du, Dr5, Dr6, Ck4, Ck5, Ck6, CkA, CkB, LDH. -/
import Derived.Test.YtaekcmoogobbjaaDoorCDHm3
import Derived.Lib.ConvBytes
import Derived.Lib.SlBytesConst
import Derived.Deep.RegionLawGrows
import Derived.Deep.AppendLies
import Derived.OwnWalkIn
import Derived.Deep.QuietTactic
import Derived.BigQuiet
import Derived.TacticsInMore
import Derived.LoopNIn
import Derived.LoopIn
import Derived.OrdersIn
import Derived.Test.YtaekcmoogobbjaaDoorCDHm1
import Derived.Lib.Repeat
import Derived.Lib.Case
import Derived.Lib.Walk
import Derived.Lib.ItoaMem
import Derived.Sort.Grow
import Derived.BigCall
import Derived.Lib.SmallJoins
import Derived.WideShapes
import Derived.Deep.Cut
import Derived.Deep.DeepCutAuto
/- law 17: num, works. Printed by genND.py. -/
namespace Go.Proofs.YtaekcmoogobbjaaDoor
set_option linter.unusedVariables false
set_option linter.unusedSimpArgs false
open Go.RowKit Go.Shelf
set_option maxHeartbeats 8000000
set_option maxRecDepth 100000
theorem dl_num (n : Int) (w : World) : Calls Tryd.prog 8 #[.int .i64 n] w fun e w' => e = .returned (.int .i64 n) ∧ w' = w := by
  go_enter Tryd.func8, Tryd.ntmps8
  go_wp2
  go_ret
  exact ⟨rfl, rfl⟩
theorem brow_lit2 (w : World) (C : Array Value) (fr : Nat × Nat) (l : List UInt8) (n : Nat) (hn : n = l.length) (h : ∀ j, j < l.length → C[j]? = some (by8 (l.getD j 0))) :
    BRow (w.alloc (.cells C 5 fr)) (.slice (some ⟨w.heap.size, 0, none⟩) n n) l := by
  subst hn
  refine ⟨_, l.length, rfl, Nat.le_refl _, .inr ⟨w.heap.size, 0, rfl, fun j hj => ?_⟩⟩
  rw [Nat.zero_add, World.cell?_alloc_mark]
  exact h j hj
theorem brow_bytes (w : World) (s : ByteArray) : BRow (Lib.bytesWorld w 5 s) (.slice (some ⟨w.heap.size, 0, none⟩) s.size (grownCap w s.size 0 5)) s.data.toList :=
  ⟨_, _, rfl, grownCap_ge w s.size 0 5, .inr ⟨w.heap.size, 0, rfl, fun j hj => by rw [Nat.zero_add]; exact Lib.bytesWorld_cell w 5 s j hj⟩⟩
theorem of_ok {p : Dn.St × Nat} {w : World} {e : Ending} (h1 : p.1.why = 0) (h2 : p.1.pt = 5) (h : ofOut p w e) : ∃ r, e = .returned (.tuple #[r, .int .i64 p.2, .int .i64 0]) ∧ BRow w r p.1.out := by
  unfold ofOut at h
  rw [if_neg (by omega), if_neg (by omega)] at h
  exact h
theorem of_bad {p : Dn.St × Nat} {w : World} {e : Ending} (n : Nat) (h1 : p.1.why = n) (h2 : n ≠ 0) (h : ofOut p w e) : e = .returned (.tuple #[.slice none 0 0, .int .i64 0, .int .i64 n]) := by
  unfold ofOut at h
  rw [if_pos (by omega)] at h
  rw [h, h1]
theorem of_more {p : Dn.St × Nat} {w : World} {e : Ending} (h1 : p.1.why = 0) (h2 : p.1.pt ≠ 5) (h : ofOut p w e) : e = .returned (.tuple #[.slice none 0 0, .int .i64 0, .int .i64 202]) := by
  unfold ofOut at h
  rw [if_neg (by omega), if_pos h2] at h
  exact h
namespace Dn
def ex1 : List UInt8 := [51, 13, 10, 97, 98, 99, 13, 10, 48, 13, 10, 13, 10, 120]
def ex2 : List UInt8 := [51, 59, 97, 61, 98, 13, 10, 97, 98, 99, 13, 10, 48, 48, 13, 10, 116, 58, 32, 49, 13, 10, 13, 10]
theorem ex1_is : (write 99 ex1 start 0).1.why = 0 ∧ (write 99 ex1 start 0).1.pt = 5 ∧ (write 99 ex1 start 0).1.out = [97, 98, 99] ∧ (write 99 ex1 start 0).2 = 13 := by decide +kernel
theorem ex2_is : (write 99 ex2 start 0).1.why = 0 ∧ (write 99 ex2 start 0).1.pt = 5 ∧ (write 99 ex2 start 0).1.out = [97, 98, 99] := by decide +kernel
theorem ex3_is : (write 99 [51, 13, 10, 97, 98, 99, 100] start 0).1.why = 270 ∧ (write 99 [120, 13, 10] start 0).1.why = 270 ∧ (write 99 [51, 10] start 0).1.why = 270 ∧ (write 99 [49] start 0).1.why = 0 ∧ (write 99 [49] start 0).1.pt ≠ 5 ∧ (write 2 [48, 48, 51] start 0).1.why = 201 := by decide +kernel
end Dn
def dwF (WB k : Nat) (nw : Int) : Nat → World → Value → Prop
  | 0, _, v => v = .int .i64 nw
  | 1, _, v => v = .int .i64 nw
  | 2, _, v => v = .slice (some ⟨WB, 0, none⟩) 4 4
  | 3, _, v => v = .int .i64 k
  | 4, _, v => v = .pointer (some ⟨WB, k, none⟩)
  | 5, _, v => v = .int .i64 nw
  | 6, _, v => v = .bool false
  | _, _, _ => False
theorem ofs_bad (cap : Nat) (l : List UInt8) (v : Value) (w : World) (h1 : 1 ≤ cap) (h2 : cap ≤ 8192) (hb : BRow w v l) (hl : l.length ≤ 100000) (n : Nat) (hw : (Dn.write cap l Dn.start 0).1.why = n) (hn : n ≠ 0) :
    Calls Tryd.prog 7 #[.int .i64 cap, v] w fun e w' => e = .returned (.tuple #[.slice none 0 0, .int .i64 0, .int .i64 n]) ∧ Below w.heap.size w w' :=
  (dc_Of cap l v w h1 h2 hb hl).mono fun e w' h => ⟨of_bad n hw hn h.1, h.2⟩
theorem dl_works (w : World) :
    Calls Tryd.prog 5 #[] w fun e w' => e = .returned (.bool true) ∧ Below w.heap.size w w' := by
  have kc := fun (W : World) (C : Array Value) (n c : Nat) => Lib.run_convert_bytes_const (P := Tryd.prog) W 22 5 C n c Tryd.underlying22 Tryd.underlying5
  have hcv := fun (W : World) (s : ByteArray) => Lib.run_convert_string_bytes (P := Tryd.prog) W 9 22 5 s Tryd.underlying9 Tryd.underlying22 Tryd.underlying5
  have HN := Lib.hid dl_num
  go_enter Tryd.func5, Tryd.ntmps5
  go_wp2_with fail
  refine (dc_Of 99 Dn.ex1 _ _ (by decide) (by decide) (brow_lit2 w _ _ _ _ rfl (fun j hj => by
    match j, hj with
    | 0, _ | 1, _ | 2, _ | 3, _ | 4, _ | 5, _ | 6, _ | 7, _ | 8, _ | 9, _ | 10, _ | 11, _ | 12, _ | 13, _ => rfl
    | n + 14, h => exact absurd h (by simp [Dn.ex1]))) (by decide)).mono ?_
  rintro e w1 ⟨ho, hb1⟩
  obtain ⟨r, rfl, hr⟩ := of_ok Dn.ex1_is.1 Dn.ex1_is.2.1 ho
  rw [Dn.ex1_is.2.2.1] at hr
  rw [Dn.ex1_is.2.2.2]
  have HR1 := Lib.hid hr
  have HB1 := Lib.hid (show Below w.heap.size w w1 from ((Below.refl _ _).alloc (Nat.le_refl _) _).trans (hb1.mono (by simp)))
  obtain ⟨p1, n1, c1, rfl⟩ : ∃ p q c, r = .slice p q c := by obtain ⟨p, c, rfl, _⟩ := hr; exact ⟨_, _, _, rfl⟩
  clear ho hr hb1
  go_wp2_with fail
  refine (dc_Of 99 Dn.ex2 _ _ (by decide) (by decide) (brow_lit2 w1 _ _ _ _ rfl (fun j hj => by
    match j, hj with
    | 0, _ | 1, _ | 2, _ | 3, _ | 4, _ | 5, _ | 6, _ | 7, _ | 8, _ | 9, _ | 10, _ | 11, _ | 12, _ | 13, _ | 14, _ | 15, _ | 16, _ | 17, _ | 18, _ | 19, _ | 20, _ | 21, _ | 22, _ | 23, _ => rfl
    | n + 24, h => exact absurd h (by simp [Dn.ex2]))) (by decide)).mono ?_
  rintro e w2 ⟨ho, hb2⟩
  obtain ⟨r2, rfl, hr2⟩ := of_ok Dn.ex2_is.1 Dn.ex2_is.2.1 ho
  rw [Dn.ex2_is.2.2] at hr2
  obtain ⟨u2, hu2⟩ : ∃ z, (Dn.write 99 Dn.ex2 Dn.start 0).2 = z := ⟨_, rfl⟩
  rw [hu2]
  have hb12 : Below w1.heap.size w1 w2 := ((Below.refl _ _).alloc (Nat.le_refl _) _).trans (hb2.mono (by simp))
  have HR2 := Lib.hid hr2
  have HR1b := Lib.hid (HR1.out.below hb12)
  have HB2 := Lib.hid (HB1.out.trans (hb12.mono HB1.out.size))
  obtain ⟨p2, n2, c2, rfl⟩ : ∃ p q c, r2 = .slice p q c := by obtain ⟨p, c, rfl, _⟩ := hr2; exact ⟨_, _, _, rfl⟩
  clear ho hr2 hb2 hb12 hu2
  go_wp2_with fail
  obtain ⟨LB, hLB⟩ : ∃ z, w2.heap.size = z := ⟨_, rfl⟩
  obtain ⟨W3, hW3⟩ : ∃ Z, (w2.alloc (.cells #[.string ⟨#[51, 13, 10, 97, 98, 99, 100]⟩, .string ⟨#[120, 13, 10]⟩, .string ⟨#[51, 10]⟩, .string ⟨#[49]⟩] 9)).alloc (.cells #[.int .i64 270, .int .i64 270, .int .i64 270, .int .i64 202] 3) = Z := ⟨_, rfl⟩
  rw [hLB, hW3]
  obtain ⟨WB, hWB⟩ : ∃ z, LB + 1 = z := ⟨_, rfl⟩
  rw [hWB]
  have HG1 := Lib.hid (show W3.heap[LB]? = some (.cells #[.string ⟨#[51, 13, 10, 97, 98, 99, 100]⟩, .string ⟨#[120, 13, 10]⟩, .string ⟨#[51, 10]⟩, .string ⟨#[49]⟩] 9 (0, 0)) by
    rw [← hW3, ← hLB, Below.heap_alloc _ _ _ (by simp)]; exact World.alloc_heap_new _ _)
  have HG2 := Lib.hid (show W3.heap[WB]? = some (.cells #[.int .i64 270, .int .i64 270, .int .i64 270, .int .i64 202] 3 (0, 0)) by
    rw [← hW3, ← hWB, ← hLB]
    have h := World.alloc_heap_new (w2.alloc (.cells #[.string ⟨#[51, 13, 10, 97, 98, 99, 100]⟩, .string ⟨#[120, 13, 10]⟩, .string ⟨#[51, 10]⟩, .string ⟨#[49]⟩] 9)) (.cells #[.int .i64 270, .int .i64 270, .int .i64 270, .int .i64 202] 3)
    simpa using h)
  have HB3 := Lib.hid (show Below w2.heap.size w2 W3 by rw [← hW3]; exact ((Below.refl _ _).alloc (Nat.le_refl _) _).alloc (by simp) _)
  clear hLB hW3 hWB
  go_loopw [9] (fun i wr => ∃ k : Nat, k ≤ 4 ∧ i = .int .i64 k ∧ wr.heap[LB]? = some (.cells #[.string ⟨#[51, 13, 10, 97, 98, 99, 100]⟩, .string ⟨#[120, 13, 10]⟩, .string ⟨#[51, 10]⟩, .string ⟨#[49]⟩] 9 (0, 0)) ∧ wr.heap[WB]? = some (.cells #[.int .i64 270, .int .i64 270, .int .i64 270, .int .i64 202] 3 (0, 0)) ∧ Below w2.heap.size w2 wr) (fun i _ => 4 - (intOf i).toNat)
  case atStart => exact ⟨0, by decide, rfl, HG1.out, HG2.out, HB3.out⟩
  case round =>
    obtain ⟨k, hk, rfl, hg1, hg2, hbl⟩ := hrel
    have HBL := Lib.hid hbl
    have HGA := Lib.hid hg1
    have HGB := Lib.hid hg2
    by_cases hlt : k < 4
    · obtain ⟨sk, nw, hcl, hcw, KO0⟩ : ∃ (sk : ByteArray) (nw : Int), wr.cell? ⟨LB, k, none⟩ = some (.string sk) ∧ wr.cell? ⟨WB, k, none⟩ = some (.int .i64 nw) ∧ ∀ W v, BRow W v sk.data.toList → Calls Tryd.prog 7 #[.int .i64 99, v] W fun e w' => e = .returned (.tuple #[.slice none 0 0, .int .i64 0, .int .i64 nw]) ∧ Below W.heap.size W w' := by
        rcases (show k = 0 ∨ k = 1 ∨ k = 2 ∨ k = 3 by omega) with rfl | rfl | rfl | rfl
        · exact ⟨⟨#[51, 13, 10, 97, 98, 99, 100]⟩, 270, by simp [World.cell?, hg1], by simp [World.cell?, hg2], fun W v h => ofs_bad 99 [51, 13, 10, 97, 98, 99, 100] v W (by decide) (by decide) h (by decide) 270 Dn.ex3_is.1 (by decide)⟩
        · exact ⟨⟨#[120, 13, 10]⟩, 270, by simp [World.cell?, hg1], by simp [World.cell?, hg2], fun W v h => ofs_bad 99 [120, 13, 10] v W (by decide) (by decide) h (by decide) 270 Dn.ex3_is.2.1 (by decide)⟩
        · exact ⟨⟨#[51, 10]⟩, 270, by simp [World.cell?, hg1], by simp [World.cell?, hg2], fun W v h => ofs_bad 99 [51, 10] v W (by decide) (by decide) h (by decide) 270 Dn.ex3_is.2.2.1 (by decide)⟩
        · exact ⟨⟨#[49]⟩, 202, by simp [World.cell?, hg1], by simp [World.cell?, hg2], fun W v h => (dc_Of 99 [49] v W (by decide) (by decide) h (by decide)).mono fun e w' h => ⟨of_more Dn.ex3_is.2.2.2.1 Dn.ex3_is.2.2.2.2.1 h.1, h.2⟩⟩
      have KO := Lib.hid KO0
      have HCW := Lib.hid hcw
      clear KO0 hcw hg1 hg2 hbl
      go_wp2_with fail
      refine (KO.out _ _ (brow_bytes wr sk)).mono ?_
      rintro e w5 ⟨rfl, hb5⟩
      have hb0 : Below wr.heap.size wr w5 := (below_bytesWorld wr.heap.size wr 5 sk (Nat.le_refl _)).trans (hb5.mono (by rw [Lib.bytesWorld_size]; omega))
      have HB5 := Lib.hid hb0
      have HCW5 := HCW
      have HGA5 := Lib.hid ((hb0.block LB (Array.getElem?_eq_some_iff.1 HGA.out).1).trans HGA.out)
      have HGB5 := Lib.hid ((hb0.block WB (Array.getElem?_eq_some_iff.1 HGB.out).1).trans HGB.out)
      have HCW := Lib.hid ((hb0.cell (p := ⟨WB, k, none⟩) (lt_of_cell HCW5.out)).trans HCW5.out)
      clear hb5 hb0 hcl
      go_wp2_with fail
      refine region_slotsG (fun i => 46 + min i 6) (dwF WB k nw) (fun _ => true) (by kernel_rfl) (by kernel_rfl) (fun i => by show 46 + min i 6 < _; simp; omega) (fun i j hi hj h => by have hi : i < 7 := hi; have hj : j < 7 := hj; omega) ?mono ?dst ?gu ?ng ?skip ?step ?done
      case mono =>
        intro i W W' v h hbw
        match i, h with
        | 0, h | 1, h | 2, h | 3, h | 4, h | 5, h | 6, h => exact h
        | n + 7, h => exact h.elim
      case dst =>
        intro i o ho
        match i, ho with
        | 0, ho | 1, ho | 2, ho | 3, ho | 4, ho | 5, ho | 6, ho => cases ho; rfl
        | n + 7, ho => exact absurd ho (by simp)
      case gu =>
        intro i o g b ho hgd W v hv
        match i, ho with
        | 0, ho => cases ho; cases hgd
        | 1, ho => cases ho; cases hgd
        | 2, ho => cases ho; cases hgd
        | 3, ho => cases ho; cases hgd
        | 4, ho => cases ho; cases hgd
        | 5, ho => cases ho; cases hgd
        | 6, ho => cases ho; cases hgd
        | n + 7, ho => exact absurd ho (by simp)
      case ng =>
        intro i o ho hgd
        match i, ho with
        | 0, ho => cases ho; first | rfl | cases hgd
        | 1, ho => cases ho; first | rfl | cases hgd
        | 2, ho => cases ho; first | rfl | cases hgd
        | 3, ho => cases ho; first | rfl | cases hgd
        | 4, ho => cases ho; first | rfl | cases hgd
        | 5, ho => cases ho; first | rfl | cases hgd
        | 6, ho => cases ho; first | rfl | cases hgd
        | n + 7, ho => exact absurd ho (by simp)
      case skip =>
        intro i W hi hsel
        match i, hi, hsel with
        | 0, _, hsel => first | exact absurd hsel (by decide) | rfl
        | 1, _, hsel => first | exact absurd hsel (by decide) | rfl
        | 2, _, hsel => first | exact absurd hsel (by decide) | rfl
        | 3, _, hsel => first | exact absurd hsel (by decide) | rfl
        | 4, _, hsel => first | exact absurd hsel (by decide) | rfl
        | 5, _, hsel => first | exact absurd hsel (by decide) | rfl
        | 6, _, hsel => first | exact absurd hsel (by decide) | rfl
        | n + 7, hi, _ => exact absurd hi (by simp)
      case step =>
        intro f a' W i o ho hsel hpre hbel hrest
        match i, ho, hsel with
        | 0, ho, _ =>
          cases ho
          have q12 : a'.tmps.getD 12 undef = .int .i64 nw := (hrest 12 (by intro i hi; have hi : i < 7 := hi; show 46 + min i 6 ≠ _; omega))
          have e12 := rg_ev q12
          exact rg_same (.int .i64 nw) (by unfold Oper.wp execOp; go_simp; all_goals ((try simp only [e12]); (try go_simp); (try rw [if_pos (by omega)]); (try rw [if_neg (by omega)]); first | done | rfl | exact ⟨rfl, rfl⟩ | trivial)) rfl
        | 1, ho, _ =>
          cases ho
          have q46 : a'.tmps.getD 46 undef = .int .i64 nw := (hpre { on := 0, ground := .data } (by simp) rfl)
          exact rg_call 46 8 _ _ _ rfl q46 (enters_of Tryd.func8 (by kernel_rfl) rfl) (dl_num nw W) (fun e w' h => ⟨_, h.1, _, rfl, rfl, by rw [h.2]; exact Below.refl _ _⟩)
        | 2, ho, _ =>
          cases ho
          have q8 : a'.tmps.getD 8 undef = .slice (some ⟨WB, 0, none⟩) 4 4 := (hrest 8 (by intro i hi; have hi : i < 7 := hi; show 46 + min i 6 ≠ _; omega))
          have e8 := rg_ev q8
          exact rg_same (.slice (some ⟨WB, 0, none⟩) 4 4) (by unfold Oper.wp execOp; go_simp; all_goals ((try simp only [e8]); (try go_simp); (try rw [if_pos (by omega)]); (try rw [if_neg (by omega)]); first | done | rfl | exact ⟨rfl, rfl⟩ | trivial)) rfl
        | 3, ho, _ =>
          cases ho
          have q9 : a'.tmps.getD 9 undef = .int .i64 k := (hrest 9 (by intro i hi; have hi : i < 7 := hi; show 46 + min i 6 ≠ _; omega))
          have e9 := rg_ev q9
          exact rg_same (.int .i64 k) (by unfold Oper.wp execOp; go_simp; all_goals ((try simp only [e9]); (try go_simp); (try rw [if_pos (by omega)]); (try rw [if_neg (by omega)]); first | done | rfl | exact ⟨rfl, rfl⟩ | trivial)) rfl
        | 4, ho, _ =>
          cases ho
          have q48 : a'.tmps.getD 48 undef = .slice (some ⟨WB, 0, none⟩) 4 4 := (hpre { on := 2, ground := .data } (by simp) rfl)
          have q49 : a'.tmps.getD 49 undef = .int .i64 k := (hpre { on := 3, ground := .data } (by simp) rfl)
          have e48 := rg_ev q48
          have e49 := rg_ev q49
          exact rg_same (.pointer (some ⟨WB, k, none⟩)) (by unfold Oper.wp execOp; go_simp; all_goals ((try simp only [e48, e49]); (try go_simp); (try rw [if_pos (by omega)]); (try rw [if_neg (by omega)]); first | done | rfl | exact ⟨rfl, rfl⟩ | trivial)) rfl
        | 5, ho, _ =>
          cases ho
          have q50 : a'.tmps.getD 50 undef = .pointer (some ⟨WB, k, none⟩) := (hpre { on := 4, ground := .data } (by simp) rfl)
          have hcw := (hbel.cell (p := ⟨WB, k, none⟩) (lt_of_cell HCW.out)).trans HCW.out
          have e50 := rg_ev q50
          exact rg_same (.int .i64 nw) (by unfold Oper.wp execOp; go_simp; all_goals ((try simp only [e50]); (try go_simp); (try rw [if_pos (by omega)]); (try rw [if_neg (by omega)]); first | done | rfl | exact ⟨rfl, rfl⟩ | trivial)) rfl
        | 6, ho, _ =>
          cases ho
          have q47 : a'.tmps.getD 47 undef = .int .i64 nw := (hpre { on := 1, ground := .data } (by simp) rfl)
          have q51 : a'.tmps.getD 51 undef = .int .i64 nw := (hpre { on := 5, ground := .data } (by simp) rfl)
          have hnn : (nw != nw) = false := by simp
          have e47 := rg_ev q47
          have e51 := rg_ev q51
          exact rg_same (.bool false) (by unfold Oper.wp execOp; go_simp; all_goals ((try simp only [e47, e51]); (try go_simp); (try rw [if_pos (by omega)]); (try rw [if_neg (by omega)]); first | done | rfl | exact ⟨rfl, rfl⟩ | trivial)) rfl
        | n + 7, ho, _ => exact absurd ho (by simp)
      case done =>
        intro vs W hbel hvs
        have v0 : vs 0 = .int .i64 nw := hvs 0 (by decide)
        have v1 : vs 1 = .int .i64 nw := hvs 1 (by decide)
        have v2 : vs 2 = .slice (some ⟨WB, 0, none⟩) 4 4 := hvs 2 (by decide)
        have v3 : vs 3 = .int .i64 k := hvs 3 (by decide)
        have v4 : vs 4 = .pointer (some ⟨WB, k, none⟩) := hvs 4 (by decide)
        have v5 : vs 5 = .int .i64 nw := hvs 5 (by decide)
        have v6 : vs 6 = .bool false := hvs 6 (by decide)
        have HBR := Lib.hid hbel
        simp only [fillN, List.size_toArray, List.length_cons, List.length_nil, Nat.reduceAdd, show List.range 7 = [0, 1, 2, 3, 4, 5, 6] from rfl, List.foldl_cons, List.foldl_nil, show 46 + min 0 6 = 46 from rfl, show 46 + min 1 6 = 47 from rfl, show 46 + min 2 6 = 48 from rfl, show 46 + min 3 6 = 49 from rfl, show 46 + min 4 6 = 50 from rfl, show 46 + min 5 6 = 51 from rfl, show 46 + min 6 6 = 52 from rfl, v0, v1, v2, v3, v4, v5, v6]
        clear v0 v1 v2 v3 v4 v5 v6 hvs hbel
        go_simp
        go_wp2_with fail
        go_roundw
        case rel => exact ⟨k + 1, hlt, by go_num, (HBR.out.block LB (Array.getElem?_eq_some_iff.1 HGA5.out).1).trans HGA5.out, (HBR.out.block WB (Array.getElem?_eq_some_iff.1 HGB5.out).1).trans HGB5.out, HBL.out.trans ((HB5.out.trans (HBR.out.mono HB5.out.size)).mono HBL.out.size)⟩
        case measure => simp [intOf]; omega
    · clear hg1 hg2 hbl
      go_wp2_with fail
      refine (ofs_bad 2 [48, 48, 51] _ _ (by decide) (by decide) (brow_lit2 wr _ _ _ _ rfl (fun j hj => by
        match j, hj with
        | 0, _ | 1, _ | 2, _ => rfl
        | n + 3, h => exact absurd h (by simp))) (by decide) 201 Dn.ex3_is.2.2.2.2.2 (by decide)).mono ?_
      rintro e w6 ⟨rfl, hb6⟩
      have HB6 := Lib.hid (show Below w.heap.size w w6 from HB2.out.trans ((HBL.out.trans ((((Below.refl _ _).alloc (Nat.le_refl _) _).trans (hb6.mono (by simp))).mono HBL.out.size)).mono HB2.out.size))
      have h26 : Below w2.heap.size w2 w6 := HBL.out.trans ((((Below.refl _ _).alloc (Nat.le_refl _) _).trans (hb6.mono (by simp))).mono HBL.out.size)
      have cv1 : (convert 22 9 (.slice p1 n1 c1)).run Tryd.prog w6 = .ok (.string ⟨#[97, 98, 99]⟩) w6 := conv_brow (HR1b.out.below h26)
      have cv2 : (convert 22 9 (.slice p2 n2 c2)).run Tryd.prog w6 = .ok (.string ⟨#[97, 98, 99]⟩) w6 := conv_brow (HR2.out.below h26)
      clear hb6 h26
      go_wp2_with fail
      refine (HN.out _ _).mono ?_
      rintro e w7 ⟨rfl, rfl⟩
      go_wp2_with fail
      refine (HN.out _ _).mono ?_
      rintro e w8 ⟨rfl, rfl⟩
      go_wp2_with fail
      refine (HN.out _ _).mono ?_
      rintro e w9 ⟨rfl, rfl⟩
      go_wp2_with fail
      go_ret
      exact ⟨rfl, HB6.out⟩
end Go.Proofs.YtaekcmoogobbjaaDoor

/- The program's chunks under way: put, line. -/
namespace Go.Proofs.YtaekcmoogobbjaaDoor
set_option linter.unusedVariables false
set_option linter.unusedSimpArgs false
open Go.RowKit Go.Shelf
set_option maxHeartbeats 2000000
theorem grownBy_trans {X Y Z : World} {r : Option Nat} (h : X.grownBy Y r) (k : Y.grownBy Z r) : X.grownBy Z r :=
  ⟨k.os.trans h.os, k.tape.trans h.tape, k.output.trans h.output, Nat.le_trans h.size k.size, fun i hi hr => (k.block i (Nat.lt_of_lt_of_le hi h.size) hr).trans (h.block i hi hr)⟩
theorem grownBy_more {X Y : World} {r : Option Nat} (h : X.grownBy Y none) : X.grownBy Y r := ⟨h.os, h.tape, h.output, h.size, fun i hi _ => h.block i hi (by simp)⟩
theorem grownBy_drew (X : World) {r : Option Nat} : X.grownBy X.drew r := ⟨rfl, rfl, rfl, Nat.le_refl _, fun _ _ _ => rfl⟩
theorem grownBy_refl (X : World) {r : Option Nat} : X.grownBy X r := ⟨rfl, rfl, rfl, Nat.le_refl _, fun _ _ _ => rfl⟩
theorem own_form {w : World} {base : Nat} {e : TypeId} {size n : Nat} {v : Value} {xs : List Value} (h : w.ownsRow base e size v n xs) (hn : 0 < n) : ∃ g cap, v = .slice (some ⟨g, 0, none⟩) n cap := by
  rcases h.2 with ⟨_, h0⟩ | ⟨g, cap, _, rfl, _⟩
  · omega
  · exact ⟨g, cap, rfl⟩
/-- the buffer's block -/
def BufAt (w : World) (K : Nat) (T : TypeId) (v : Value) : Prop := w.heap[K]? = some (.cells #[v] T (0, 0))
theorem BufAt.cell {w : World} {K : Nat} {T : TypeId} {v : Value} (h : BufAt w K T v) : w.cell? ⟨K, 0, none⟩ = some v := Boxed.cell (t := T) h
theorem BufAt.frozen {w : World} {K : Nat} {T : TypeId} {v : Value} (h : BufAt w K T v) : w.frozen? ⟨K, 0, none⟩ = false := Boxed.frozen (t := T) h
theorem buf_grown {w w' : World} {K : Nat} {T : TypeId} {ao : Option Addr} {m c : Nat} {x : Value} {l : List UInt8} (hx : BRow w x l) (h : BufAt w K T (.slice ao m c)) (hg : w.grownBy w' (some K)) : BRow w' x l :=
  hx.grown h (fun k n e => by cases e) hg
set_option maxRecDepth 100000 in
theorem ck_put (K : Nat) (T : TypeId) (v pv : Value) (acc : List UInt8) (L : List (List UInt8)) (w : World) (hK : BufAt w K T v) (hv : BRow w v acc) (hp : BRows w pv L)
    (hpK : ∀ p n c, pv = .slice (some p) n c → p.block ≠ K) (hne : ∀ p ∈ L, p ≠ []) (hl : acc.length + (cat L).length ≤ 1000000) (hL : L.length ≤ 1000) :
    Calls Tryd.prog 40 #[.pointer (some ⟨K, 0, none⟩), pv] w fun e w' => e = .returned (.tuple #[]) ∧ ∃ v', BufAt w' K T v' ∧ BRow w' v' (acc ++ cat L) ∧ w.grownBy w' (some K) := by
  obtain ⟨i0, hi, hz0, hz1, hz2⟩ := info_parts info8
  obtain ⟨p, c, rfl, hc, h⟩ := hp
  obtain ⟨n, hn⟩ : ∃ n, L.length = n := ⟨_, rfl⟩
  rw [hn] at h hL ⊢
  have H := Lib.hid h
  have HN := Lib.hid hn
  have HL := Lib.hid hl
  have HPK := Lib.hid hpK
  have HNE := Lib.hid hne
  have HK0 := Lib.hid hK
  have HV0 := Lib.hid hv
  clear h hn hc hl hpK hne hK hv
  go_enter Tryd.func40, Tryd.ntmps40
  go_wp2_with fail
  go_loopw [8] (fun i wr => ∃ (k : Nat) (v' : Value), k ≤ n ∧ i = .int .i64 k ∧ BufAt wr K T v' ∧ BRow wr v' (acc ++ cat (L.take k)) ∧ w.grownBy wr (some K)) (fun i _ => n - (intOf i).toNat)
  case atStart => exact ⟨0, v, Nat.zero_le _, rfl, HK0.out, by simpa [cat] using HV0.out, grownBy_refl _⟩
  case round =>
    obtain ⟨k, v', hk, rfl, hbuf, hrow, hgr⟩ := hrel
    by_cases hlt : k < n
    · obtain ⟨g, o, rfl, hcell⟩ := H.out.resolve_left (by rintro ⟨_, e, _⟩; have := HN.out; rw [e] at this; simp at this; omega)
      obtain ⟨x, hx, hb⟩ := hcell k hlt
      have hgK : g ≠ K := HPK.out ⟨g, o, none⟩ _ _ rfl
      have hx := (World.cell?_of_block (a := ⟨g, o + k, none⟩) (hgr.block g (lt_of_cell hx) (by simpa using hgK))).trans hx
      have hb := hb.grown (x := v) (t := T) HK0.out (by obtain ⟨_, _, rfl, _⟩ := HV0.out; intro k n e; cases e) hgr
      obtain ⟨l, hl⟩ : ∃ l, L.getD k [] = l := ⟨_, rfl⟩
      have hlne : l ≠ [] := HNE.out l (by rw [← hl, List.getD_eq_getElem?_getD, List.getElem?_eq_getElem (show k < L.length by rw [HN.out]; exact hlt)]; exact List.getElem_mem _)
      have HT1 := Lib.hid (cat_take L k (by rw [HN.out]; exact hlt))
      rw [hl] at hb HT1
      obtain ⟨A, hA⟩ : ∃ A, acc ++ cat (L.take k) = A := ⟨_, rfl⟩
      have HA1 : Hid (acc ++ cat (L.take (k + 1)) = A ++ l) := Lib.hid (by rw [HT1.out, ← List.append_assoc, hA])
      have hlen : A.length + l.length ≤ 1000000 := by
        have h1 := cat_len L (k + 1)
        have h2 := HL.out
        have h3 := congrArg List.length HA1.out
        rw [List.length_append, List.length_append] at h3
        omega
      rw [hA] at hrow
      clear hcell hl hA HT1
      obtain ⟨ao2, cp, rfl, _, hd⟩ := hb
      obtain ⟨g2, o2, rfl, hd2⟩ := hd.resolve_left (by rintro ⟨_, e, _⟩; exact hlne e)
      obtain ⟨q, hq⟩ : ∃ q, l.length = q := ⟨_, rfl⟩
      have hq0 : 0 < q := by rw [← hq]; exact List.length_pos_iff.2 hlne
      have HQ := Lib.hid hq
      have HNL := Lib.hid (fun j u => BRow.news hd2 j u)
      obtain ⟨ao1, cp1, rfl, hcp1, hr⟩ := hrow
      obtain ⟨m, hm⟩ : ∃ m, A.length = m := ⟨_, rfl⟩
      have HM := Lib.hid hm
      rw [hq, hm] at hlen
      rw [hq] at hx
      rw [hm] at hbuf hcp1 hr
      have HR := Lib.hid hr
      have HBUF := Lib.hid hbuf
      have HGR := Lib.hid hgr
      have c0 := hbuf.cell
      have f0 := hbuf.frozen
      have hKlt : K < wr.heap.size := lt_of_cell c0
      clear hd hd2 hq hm hr hbuf hgr hlne
      rcases HR.out with ⟨rfl, hA0, rfl⟩ | ⟨g1, o1, rfl, hd3⟩
      · have hm0 : m = 0 := by rw [← HM.out, hA0]; rfl
        subst hm0
        have HA0 := Lib.hid hA0
        clear hA0 hcp1
        go_wp2_with fail
        go_region_law (refine step_append_grows rfl (.tmp 27) (.tmp 28) 22 rfl 5 i0 (.int .u8 0) 1 1 Tryd.underlying22 hi hz0 hz1 hz2 rfl (by decide) none 0 0 (A.map by8) (by simp [Act.eval, Act.put]) (fun _ => ⟨rfl, rfl⟩) (by rw [List.length_map, HM.out, Nat.mul_one]) (fun b e => by cases e) ⟨g2, o2, none⟩ q cp (l.map by8) (by simp [Act.eval, Act.put]) (by rw [List.length_map, HQ.out, Nat.mul_one]) HNL.out (fun u hu => by8_one u l hu) (by omega) (by unfold maxLen; omega) (by omega) ?_; intro v2 w1 hown hgrow; rw [Nat.zero_add] at hown; obtain ⟨g3, cap3, rfl⟩ := own_form hown (by omega); have hb1 : BufAt w1 K T _ := (hgrow.block K hKlt (by simp)).trans HBUF.out; have k1 := hb1.cell; have j1 := hb1.frozen; have HB1 := Lib.hid hb1; have HOWN := Lib.hid hown; have HGW := Lib.hid hgrow; clear hb1 hown hgrow)
        all_goals
          have HF : Hid (BufAt (w1.setCell ⟨K, 0, none⟩ (.slice (some ⟨g3, 0, none⟩) q cap3)) K T (.slice (some ⟨g3, 0, none⟩) q cap3) ∧ BRow (w1.setCell ⟨K, 0, none⟩ (.slice (some ⟨g3, 0, none⟩) q cap3)) (.slice (some ⟨g3, 0, none⟩) q cap3) (acc ++ cat (L.take (k + 1))) ∧ w.grownBy (w1.setCell ⟨K, 0, none⟩ (.slice (some ⟨g3, 0, none⟩) q cap3)) (some K)) := by
            have hr1 : BRow w1 (.slice (some ⟨g3, 0, none⟩) q cap3) (A ++ l) := BRow.of_own (by rw [List.map_append]; exact HOWN.out)
            refine Lib.hid ⟨Boxed.set _ HB1.out, ?_, ?_⟩
            · rw [HA1.out]
              exact hr1.grown (x := .slice _ 0 _) HB1.out (fun k n e => by cases e) (grownBy_setCell' _ _ _)
            · exact grownBy_trans HGR.out (grownBy_trans (grownBy_more (grownBy_trans (grownBy_drew _) HGW.out)) (grownBy_setCell' _ _ _))
          go_wp2
          go_roundw
          case rel => exact ⟨k + 1, _, by omega, by go_num, HF.out.1, HF.out.2.1, HF.out.2.2⟩
          case measure => simp [intOf]; omega
      · have HNA := Lib.hid (fun j u => BRow.news (o := o1) (l := A) (by rw [HM.out]; exact hd3) j u)
        clear hd3
        go_wp2_with fail
        go_region_law (refine step_append_grows rfl (.tmp 27) (.tmp 28) 22 rfl 5 i0 (.int .u8 0) 1 1 Tryd.underlying22 hi hz0 hz1 hz2 rfl (by decide) (some ⟨g1, o1, none⟩) m m (A.map by8) (by simp [Act.eval, Act.put]) (fun e => by cases e) (by rw [List.length_map, HM.out, Nat.mul_one]) (fun b e => by cases e; exact HNA.out) ⟨g2, o2, none⟩ q cp (l.map by8) (by simp [Act.eval, Act.put]) (by rw [List.length_map, HQ.out, Nat.mul_one]) HNL.out (fun u hu => by8_one u l hu) (by omega) (by unfold maxLen; omega) (by omega) ?_; intro v2 w1 hown hgrow; obtain ⟨g3, cap3, rfl⟩ := own_form hown (by omega); have hb1 : BufAt w1 K T _ := (hgrow.block K hKlt (by simp)).trans HBUF.out; have k1 := hb1.cell; have j1 := hb1.frozen; have HB1 := Lib.hid hb1; have HOWN := Lib.hid hown; have HGW := Lib.hid hgrow; clear hb1 hown hgrow)
        all_goals
          have HF : Hid (BufAt (w1.setCell ⟨K, 0, none⟩ (.slice (some ⟨g3, 0, none⟩) (m + q) cap3)) K T (.slice (some ⟨g3, 0, none⟩) (m + q) cap3) ∧ BRow (w1.setCell ⟨K, 0, none⟩ (.slice (some ⟨g3, 0, none⟩) (m + q) cap3)) (.slice (some ⟨g3, 0, none⟩) (m + q) cap3) (acc ++ cat (L.take (k + 1))) ∧ w.grownBy (w1.setCell ⟨K, 0, none⟩ (.slice (some ⟨g3, 0, none⟩) (m + q) cap3)) (some K)) := by
            have hr1 : BRow w1 (.slice (some ⟨g3, 0, none⟩) (m + q) cap3) (A ++ l) := BRow.of_own (by rw [List.map_append]; exact HOWN.out)
            refine Lib.hid ⟨Boxed.set _ HB1.out, ?_, ?_⟩
            · rw [HA1.out]
              exact hr1.grown (x := .slice _ m _) HB1.out (fun k n e => by cases e) (grownBy_setCell' _ _ _)
            · exact grownBy_trans HGR.out (grownBy_trans (grownBy_more (grownBy_trans (grownBy_drew _) HGW.out)) (grownBy_setCell' _ _ _))
          go_wp2
          go_roundw
          case rel => exact ⟨k + 1, _, by omega, by go_num, HF.out.1, HF.out.2.1, HF.out.2.2⟩
          case measure => simp [intOf]; omega
    · obtain rfl : k = n := by omega
      have hT : L.take k = L := List.take_of_length_le (by rw [HN.out]; exact Nat.le_refl _)
      rw [hT] at hrow
      have HF := Lib.hid hrow
      have HG := Lib.hid hgr
      have HB := Lib.hid hbuf
      clear hT hrow hgr hbuf
      go_wp2_with fail
      go_end0
      exact ⟨rfl, _, HB.out, HF.out, HG.out⟩
end Go.Proofs.YtaekcmoogobbjaaDoor

/- A line of a chunk: the parts, and the bytes with which lines end. -/
namespace Go.Proofs.YtaekcmoogobbjaaDoor
set_option linter.unusedVariables false
set_option linter.unusedSimpArgs false
open Go.RowKit Go.Shelf
set_option maxHeartbeats 2000000
theorem info8s : (Tryd.prog.info? 22).map (fun i => (i.zero, i.size, i.bytes)) = some (some (.slice none 0 0), 1, 24) := by kernel_rfl
theorem brows_vals {w : World} {L : List (List UInt8)} {g o n : Nat} (hn : L.length = n) (h : ∀ k, k < n → ∃ x, w.cell? ⟨g, o + k, none⟩ = some x ∧ BRow w x (L.getD k [])) :
    ∃ xs : List Value, xs.length = n ∧ ∀ k, k < n → w.cell? ⟨g, o + k, none⟩ = some (xs.getD k (.slice none 0 0)) ∧ BRow w (xs.getD k (.slice none 0 0)) (L.getD k []) := by
  refine ⟨(List.range n).map fun k => if hk : k < n then Classical.choose (h k hk) else .slice none 0 0, by simp, fun k hk => ?_⟩
  have e : ((List.range n).map fun k => if hk : k < n then Classical.choose (h k hk) else .slice none 0 0).getD k (.slice none 0 0) = Classical.choose (h k hk) := by
    rw [List.getD_eq_getElem?_getD, List.getElem?_map, List.getElem?_range hk]
    simp [hk]
  rw [e]
  exact Classical.choose_spec (h k hk)
/-- what a slice of slices of the call's own owns -/
theorem brows_own {w : World} {base n : Nat} {v : Value} {xs : List Value} {L : List (List UInt8)} (h : w.ownsRow base 22 1 v n xs) (hn : L.length = n) (hx : ∀ k, k < n → BRow w (xs.getD k (.slice none 0 0)) (L.getD k [])) : BRows w v L := by
  subst hn
  rcases h.2 with ⟨rfl, h0⟩ | ⟨g, cap, cur, rfl, hb, hg, hn, hm, hs, ht⟩
  · have : L = [] := List.length_eq_zero_iff.1 h0
    subst this
    exact ⟨none, 0, rfl, Nat.le_refl _, .inl ⟨rfl, rfl, rfl⟩⟩
  · refine ⟨_, cap, rfl, hn, .inr ⟨g, 0, rfl, fun k hk => ⟨_, ?_, hx k hk⟩⟩⟩
    rw [Nat.zero_add]
    unfold World.cell?
    rw [show (⟨g, k, none⟩ : Addr).block = g from rfl, hg]
    show (if (none : Option _).isSome then none else cur[k]?) = _
    have h1 : (cur.toList.take (L.length * 1))[k]? = xs[k]? := by rw [ht]
    rw [List.getElem?_take_of_lt (by omega)] at h1
    have hlt : k < xs.length := by rw [h.1]; omega
    rw [if_neg (by simp), ← Array.getElem?_toList, h1, List.getD_eq_getElem?_getD, List.getElem?_eq_getElem hlt]
    rfl
theorem cell_one_any (w : World) (x : Value) {t : TypeId} (j : Nat) (u : Value) (hj : [x][j]? = some u) : (w.alloc (.cells #[x] t)).cell? ((⟨w.heap.size, 0, none⟩ : Addr).add j) = some u := by
  match j, hj with
  | 0, hj =>
    obtain rfl : x = u := by simpa using hj
    exact (Boxed.new w t x).cell
set_option maxRecDepth 100000 in
theorem ck_line (K : Nat) (T : TypeId) (v pv : Value) (acc : List UInt8) (L : List (List UInt8)) (w : World) (hK : BufAt w K T v) (hv : BRow w v acc) (hp : BRows w pv L)
    (hne : ∀ p ∈ L, p ≠ []) (hl : acc.length + (cat L).length ≤ 900000) (hL : L.length ≤ 900) :
    Calls Tryd.prog 29 #[.pointer (some ⟨K, 0, none⟩), pv] w fun e w' => e = .returned (.tuple #[]) ∧ ∃ v', BufAt w' K T v' ∧ BRow w' v' (acc ++ cat L ++ [13, 10]) ∧ w.grownBy w' (some K) := by
  obtain ⟨i0, hi, hz0, hz1, hz2⟩ := info_parts info8s
  have HK0 := Lib.hid hK
  have HV0 := Lib.hid hv
  have HNE := Lib.hid hne
  have HL := Lib.hid hl
  have hKlt : K < w.heap.size := lt_of_cell hK.cell
  obtain ⟨p, c, rfl, hc, h⟩ := hp
  obtain ⟨n, hn⟩ : ∃ n, L.length = n := ⟨_, rfl⟩
  rw [hn] at h hL hc ⊢
  have HN := Lib.hid hn
  clear hK hv hne hl
  have KEY : ∀ (w1 : World) (w2 : World) (b E : Nat) (xs : List Value) (v2 : Value), Below w.heap.size w w1 → w.heap.size ≤ b → BRow w1 (.slice (some ⟨E, 0, none⟩) 2 2) [13, 10] → xs.length = n → (∀ k, k < n → BRow w1 (xs.getD k (.slice none 0 0)) (L.getD k [])) →
      w2.ownsRow b 22 1 v2 (n + 1) (xs ++ [.slice (some ⟨E, 0, none⟩) 2 2]) → w1.grownBy w2 none →
      Calls Tryd.prog 40 #[.pointer (some ⟨K, 0, none⟩), v2] w2 fun e w' => e = .returned (.tuple #[]) ∧ ∃ v', BufAt w' K T v' ∧ BRow w' v' (acc ++ cat L ++ [13, 10]) ∧ w.grownBy w' (some K) := by
    intro w1 w2 b E xs v2 hb1 hbb hE hxl hxs hown hgw
    have hw2 : Below w.heap.size w w2 := hb1.grown hgw hb1.size (fun _ e => by cases e)
    have hw12 : Below w1.heap.size w1 w2 := ⟨hgw.os, hgw.tape, hgw.output, hgw.size, fun k hk => hgw.block k hk (by simp)⟩
    have hc1 : cat (L ++ [[13, 10]]) = cat L ++ [13, 10] := by unfold cat; simp
    have hrows : BRows w2 v2 (L ++ [[13, 10]]) := by
      refine brows_own hown (by rw [List.length_append, HN.out]; rfl) (fun k hk => ?_)
      by_cases hk1 : k < n
      · rw [List.getD_eq_getElem?_getD, List.getElem?_append_left (by omega), List.getD_eq_getElem?_getD, List.getElem?_append_left (by rw [HN.out]; exact hk1)]
        have := (hxs k hk1).below hw12
        rwa [List.getD_eq_getElem?_getD, List.getD_eq_getElem?_getD] at this
      · obtain rfl : k = n := by omega
        rw [List.getD_eq_getElem?_getD, List.getElem?_append_right (by omega), List.getD_eq_getElem?_getD, List.getElem?_append_right (by rw [HN.out]; exact Nat.le_refl _), hxl, HN.out, Nat.sub_self]
        exact hE.below hw12
    obtain ⟨g3, cap3, rfl⟩ := own_form hown (by omega)
    have hg3 : b ≤ g3 := own8_ge hown g3 rfl
    refine (ck_put K T v (.slice (some ⟨g3, 0, none⟩) (n + 1) cap3) acc (L ++ [[13, 10]]) w2 ((hw2.block K hKlt).trans HK0.out) (HV0.out.below hw2) hrows (fun p m c e => by cases e; show g3 ≠ K; omega) ?_ ?_ ?_).mono ?_
    · intro x hx
      rcases List.mem_append.1 hx with hx | hx
      · exact HNE.out x hx
      · have : x = [13, 10] := by simpa using hx
        rw [this]; simp
    · have := HL.out
      rw [hc1, List.length_append]
      show _ + (_ + 2) ≤ _
      omega
    · rw [List.length_append, HN.out]; show n + 1 ≤ _; omega
    · rintro e w' ⟨he, v', h1, h2, h3⟩
      exact ⟨he, v', h1, by rw [List.append_assoc, ← hc1]; exact h2, grownBy_trans ⟨hw2.os, hw2.tape, hw2.output, hw2.size, fun k hk _ => hw2.block k hk⟩ h3⟩
  have HKEY := Lib.hid KEY
  clear KEY
  go_enter Tryd.func29, Tryd.ntmps29
  go_wp2_with fail
  refine (ck_ends _).mono ?_
  rintro e w1 ⟨rfl, hb1⟩
  have HB1 := Lib.hid hb1
  clear hb1
  go_wp2_with fail
  obtain ⟨E, hE⟩ : ∃ E, w1.heap.size = E := ⟨_, rfl⟩
  obtain ⟨W2, hW2⟩ : ∃ W2, w1.alloc (.cells #[.int .u8 13, .int .u8 10] 79) = W2 := ⟨_, rfl⟩
  have HBW : Hid (Below w.heap.size w W2) := Lib.hid (by rw [← hW2]; exact HB1.out.alloc HB1.out.size _)
  have HE : Hid (BRow W2 (.slice (some ⟨E, 0, none⟩) 2 2) [13, 10]) := Lib.hid (by
    refine ⟨_, 2, rfl, Nat.le_refl _, .inr ⟨E, 0, rfl, fun j hj => ?_⟩⟩
    rw [← hW2, ← hE, Nat.zero_add]
    rw [World.cell?_alloc_new]
    match j, hj with
    | 0, _ => rfl
    | 1, _ => rfl
    | n + 2, h => exact absurd h (by simp))
  have H2 := Lib.hid (fun (h : ∃ g o, p = some ⟨g, o, none⟩ ∧ ∀ k, k < n → ∃ x, w.cell? ⟨g, o + k, none⟩ = some x ∧ BRow w x (L.getD k [])) => h)
  rw [hE, hW2]
  rcases h with ⟨rfl, hL0, rfl⟩ | ⟨g, o, rfl, hcell⟩
  · have hn0 : n = 0 := by rw [← HN.out, hL0]; rfl
    subst hn0
    obtain ⟨XS, hXS⟩ : ∃ XS : List Value, [] = XS := ⟨_, rfl⟩
    have HXL : Hid (XS.length = 0) := Lib.hid (by rw [← hXS]; rfl)
    have HXS : Hid (∀ k, k < 0 → BRow W2 (XS.getD k (.slice none 0 0)) (L.getD k [])) := Lib.hid (fun k hk => absurd hk (by omega))
    clear hL0 hXS hE hW2 hc H2
    go_region_law (first | (refine step_append_grows rfl (.tmp 14) (.tmp 16) 37 rfl 22 i0 (.slice none 0 0) 1 24 Tryd.underlying37 hi hz0 hz1 hz2 rfl (by decide) none 0 0 XS (by simp [Act.eval, Act.put]) (fun _ => ⟨rfl, rfl⟩) (HXL.out.trans (Nat.mul_one _).symm) (fun b e => by cases e) ⟨_, 0, none⟩ 1 1 [.slice (some ⟨E, 0, none⟩) 2 2] (by simp [Act.eval, Act.put]) rfl (fun j u hj => cell_one_any _ _ j u hj) (fun u hu => by simp at hu; subst hu; rfl) (by omega) (by unfold maxLen; omega) (by omega) ?_; intro v2 w2 hown hgw; have HP := Lib.hid (HKEY.out _ w2 (W2.heap.size + 1) E XS v2 (by first | exact (HBW.out.drew).alloc HBW.out.size _ | exact (HBW.out.alloc HBW.out.size _).drew) (by have := HBW.out.size; omega) (HE.out.below (by first | exact (Below.refl _ W2).drew.alloc (Nat.le_refl _) _ | exact ((Below.refl _ W2).alloc (Nat.le_refl _) _).drew)) HXL.out (fun k hk => (HXS.out k hk).below (by first | exact (Below.refl _ W2).drew.alloc (Nat.le_refl _) _ | exact ((Below.refl _ W2).alloc (Nat.le_refl _) _).drew)) (by simpa using hown) hgw); clear hown hgw) | (go_simp; go_at_call 40; refine HP.out.mono ?_; rintro e w3 ⟨rfl, hpost⟩; have HPOST := Lib.hid hpost; clear hpost))
    all_goals
      go_wp2_with fail
      go_end0
      exact ⟨rfl, HPOST.out⟩
  · obtain ⟨XS, hxl, hxs⟩ := brows_vals HN.out hcell
    have HXL := Lib.hid hxl
    have HXS : Hid (∀ k, k < n → BRow W2 (XS.getD k (.slice none 0 0)) (L.getD k [])) := Lib.hid (fun k hk => ((hxs k hk).2).below HBW.out)
    have HCL : Hid (∀ j u, XS[j]? = some u → W2.cell? ((⟨g, o, none⟩ : Addr).add j) = some u) := Lib.hid (fun j u hj => by
      have hlt := (List.getElem?_eq_some_iff.1 hj).1
      have h1 := (hxs j (by omega)).1
      rw [List.getD_eq_getElem?_getD, hj] at h1
      rw [Lib.add_plain]
      exact cell_below HBW.out h1)
    have HCL2 : Hid (∀ o', ∀ j u, XS[j]? = some u → (W2.drew.alloc o').cell? ((⟨g, o, none⟩ : Addr).add j) = some u) := Lib.hid (fun o' j u hj => by
      have h1 := HCL.out j u hj
      rw [Lib.add_plain] at h1 ⊢
      exact cell_below ((Below.refl _ W2).drew.alloc (Nat.le_refl _) _) h1)
    clear hxl hxs hcell hE hW2 H2
    go_region_law (first | (refine step_append_grows rfl (.tmp 14) (.tmp 16) 37 rfl 22 i0 (.slice none 0 0) 1 24 Tryd.underlying37 hi hz0 hz1 hz2 rfl (by decide) (some ⟨g, o, none⟩) n n XS (by simp [Act.eval, Act.put]) (fun e => by cases e) (HXL.out.trans (Nat.mul_one _).symm) (fun b e => by cases e; exact HCL2.out _) ⟨_, 0, none⟩ 1 1 [.slice (some ⟨E, 0, none⟩) 2 2] (by simp [Act.eval, Act.put]) rfl (fun j u hj => cell_one_any _ _ j u hj) (fun u hu => by simp at hu; subst hu; rfl) (by omega) (by unfold maxLen; omega) (by omega) ?_; intro v2 w2 hown hgw; have HP := Lib.hid (HKEY.out _ w2 (W2.heap.size + 1) E XS v2 (by first | exact (HBW.out.drew).alloc HBW.out.size _ | exact (HBW.out.alloc HBW.out.size _).drew) (by have := HBW.out.size; omega) (HE.out.below (by first | exact (Below.refl _ W2).drew.alloc (Nat.le_refl _) _ | exact ((Below.refl _ W2).alloc (Nat.le_refl _) _).drew)) HXL.out (fun k hk => (HXS.out k hk).below (by first | exact (Below.refl _ W2).drew.alloc (Nat.le_refl _) _ | exact ((Below.refl _ W2).alloc (Nat.le_refl _) _).drew)) (by simpa using hown) hgw); clear hown hgw) | (go_simp; go_at_call 40; refine HP.out.mono ?_; rintro e w3 ⟨rfl, hpost⟩; have HPOST := Lib.hid hpost; clear hpost))
    all_goals
      go_wp2_with fail
      go_end0
      exact ⟨rfl, HPOST.out⟩
end Go.Proofs.YtaekcmoogobbjaaDoor

/- Go's slices.Chunk over bytes. -/
namespace Go.Proofs.YtaekcmoogobbjaaDoor
set_option linter.unusedVariables false
set_option linter.unusedSimpArgs false
open Go.RowKit Go.Shelf
attribute [local go_sem] Oper.semAt_some
set_option maxHeartbeats 2000000
set_option maxRecDepth 100000 in
theorem sl_chunk (ao : Option Addr) (m c : Nat) (n : Int) (w : World) (hn : ¬ n < 1) (hn2 : n ≤ 1000000) :
    Calls Tryd.prog 27 #[.slice ao m c, .int .i64 n] w fun e w' => e = .returned (.func (.func 36) #[] #[.pointer (some ⟨w.heap.size, 0, none⟩), .pointer (some ⟨w.heap.size + 1, 0, none⟩)])
      ∧ w' = (w.alloc (.cells #[.slice ao m c] 22)).alloc (.cells #[.int .i64 n] 3) := by
  go_enter Tryd.func27, Tryd.ntmps27
  go_wp2
  go_ret
  exact ⟨rfl, rfl⟩
/-- n bytes at a time: N pieces -/
def PieN (len n N : Nat) : Prop := ∀ k, k * n < len ↔ k < N
theorem turn_drewN (B : Nat) (own : Nat → Prop) (W : World) (n : Nat) : Turn B own W (W.drewN n) := ⟨rfl, rfl, rfl, Nat.le_refl _, fun _ _ _ _ => rfl⟩
theorem chunk1_it (m : Nat) (g o len cap n N B C : Nat) (own : Nat → Prop) (Kp : World → World → Prop) (hB : ¬ own B) (hC : ¬ own C)
    (hKp : ∀ X Y, Kp X Y → Y.heap[B]? = X.heap[B]? ∧ Y.heap[C]? = X.heap[C]?) (hn : 1 ≤ n) (hn2 : n ≤ 1000000) (hl : len ≤ 1000000) (hlc : len ≤ cap) (hN : PieN len n N) (W : World)
    (hWB : Boxed W B 22 (.slice (some ⟨g, o, none⟩) len cap)) (hWC : Boxed W C 3 (.int .i64 n)) :
    IterAt Fence.wide m Tryd.prog 36 #[.pointer (some ⟨B, 0, none⟩), .pointer (some ⟨C, 0, none⟩)] (fun k => #[.slice (some ⟨g, o + k * n, none⟩) (min n (len - k * n)) (min n (len - k * n))]) N own Kp W := by
  intro l J Jx hJ hJx hY h0
  refine callsIn_of_wp Tryd.func36 rfl trivial ?_ rfl
  simp only [Tryd.ntmps36, List.size_toArray, List.length_cons, List.length_nil, Nat.reduceAdd, Nat.reduceSub, Array.replicate_succ, Array.replicate_zero, List.push_toArray, List.append_toArray, List.nil_append, List.cons_append]
  gi_wp2
  gi_loopw [4] (fun i wr => ∃ k : Nat, k ≤ N ∧ i = .int .i64 (k * n : Nat) ∧ J k wr ∧ Boxed wr B 22 (.slice (some ⟨g, o, none⟩) len cap) ∧ Boxed wr C 3 (.int .i64 n)) (fun i _ => len + n - (intOf i).toNat)
  case atStart => exact ⟨0, Nat.zero_le _, by simp, h0, hWB, hWC⟩
  case round =>
    obtain ⟨k, hk, rfl, hj, hb, hc⟩ := hrel
    have hcB := hb.cell
    have hcC := hc.cell
    obtain ⟨i, hi⟩ : ∃ i, k * n = i := ⟨_, rfl⟩
    have HI := Lib.hid hi
    rw [hi]
    have HN1 := Lib.hid (hN k)
    by_cases hlt : i < len
    · have hkN : k < N := (hN k).1 (by rw [hi]; exact hlt)
      have HJ := Lib.hid hj
      have HBX := Lib.hid hb
      have HCX := Lib.hid hc
      clear hi hj hb hc
      gi_wp2
      refine wpIn_wide.2 ?_
      go_quiet (fail)
      have HT := Lib.hid (turn_drewN W.heap.size own wr nq)
      obtain ⟨X, hX⟩ : ∃ X, wr.drewN nq = X := ⟨_, rfl⟩
      obtain ⟨e, he⟩ : ∃ e, min n (len - i) = e := ⟨_, rfl⟩
      have he2 : (min (n : Int) ((len - i : Nat) : Int)) = (e : Int) := by rw [← he]; omega
      have he3 : e ≤ len - i := by omega
      have he4 : 0 < e := by omega
      have he5 : (0 : Int) < e := by omega
      have he6 : i + e ≤ cap := by omega
      rw [hX] at HT ⊢
      rw [he2]
      have hJX := hJ _ _ _ HJ.out HT.out
      have hBX := HT.out.boxed HBX.out hB
      have hCX := HT.out.boxed HCX.out hC
      obtain ⟨fn, tmps, assign, body, hy, hR⟩ := hY k X hkN hJX
      rw [HI.out, he] at hy
      have HE := Lib.hid he
      clear he he2 hX hJX hcB hcC
      have hcB := hBX.cell
      have hcC := hCX.cell
      have HBX := Lib.hid hBX
      have HCX := Lib.hid hCX
      clear hBX hCX
      gi_wp2
      refine ⟨(fun h => by cases h), hR.mono ?_⟩
      rintro z Y (⟨rfl, hj', hkp, _⟩ | ⟨rfl, hjx, _⟩)
      · have hBY : Boxed Y B 22 (.slice (some ⟨g, o, none⟩) len cap) := (hKp _ _ hkp).1.trans HBX.out
        have hCY : Boxed Y C 3 (.int .i64 n) := (hKp _ _ hkp).2.trans HCX.out
        have hcBY := hBY.cell
        have hcCY := hCY.cell
        have HBY := Lib.hid hBY
        have HCY := Lib.hid hCY
        clear hBY hCY hcB hcC hy
        gi_wp2
        go_roundw
        case rel =>
          have h1 := HI.out
          exact ⟨k + 1, by omega, by rw [Nat.add_mul, h1]; simp, hj', HBY.out, HCY.out⟩
        case measure => simp [intOf]; omega
      · gi_wp2
        refine bodyPost_ret (results_none rfl _ _ _) rfl ?_
        exact ⟨⟨_, rfl⟩, .inr hjx⟩
    · clear hi
      gi_wp2
      go_end0
      have hkN : k = N := by
        have h1 := HN1.out
        have h2 := HI.out
        have h3 : ¬ k < N := fun h => hlt (by have := h1.2 h; omega)
        omega
      exact ⟨⟨_, rfl⟩, .inl (hkN ▸ hj)⟩
end Go.Proofs.YtaekcmoogobbjaaDoor

/- The program's chunks: Cut. Laws for a round's region that draws its order. -/
namespace Go.Proofs.YtaekcmoogobbjaaDoor
set_option linter.unusedVariables false
set_option linter.unusedSimpArgs false
open Go.RowKit Go.Shelf
attribute [local go_sem] Oper.semAt_some
set_option maxHeartbeats 2000000
/-! an operation of a round, out of the plain one -/
theorem op_round {P : Program} {l n : Nat} {o : Oper} {a : Act} {w : World} {K : Act → World → Prop} {Q : Exit → Act → World → Prop} (hd : ∀ c, o.op ≠ .defer c) (h : o.wp P a w K Q) :
    o.wpIn (Fence.wide.inRound l) n P a w K Q := by
  refine ⟨fun _ _ => trivial, ?_⟩
  rw [Fence.inRound_round, Oper.semAt_some l _ _ hd]
  unfold Oper.wp at h
  generalize (execOp a.eval o).run P w = r at h ⊢
  cases r with
  | ok x w' =>
    cases x <;> simp only [Oper.upon, Oper.uponIn] at h ⊢ <;>
      first
        | exact h
        | exact ⟨(fun e => by cases e), CallsIn.inRound l (callsIn_wide.2 h)⟩
        | exact ⟨(fun e => by cases e), fun c cs _ => let ⟨v, w', r, s⟩ := h c cs; ⟨v, w', r, stepsIn_wide.2 s⟩⟩
  | halt x w' => cases x <;> simp only [Oper.upon, Oper.uponIn] at h ⊢ <;> exact h
theorem ready_round {P : Program} {l n : Nat} {md : Region.Mode} {ops : Array Oper} {Q : Exit → Act → World → Prop} {fuel : Nat} {listed : Array Bool} {a : Act} {w : World} {i : Nat} {o : Oper} {rs : List Nat}
    (ho : ops[i]? = some o) (hg : o.guard = none) (hd : ∀ c, o.op ≠ .defer c)
    (h : ∀ K : Act → World → Prop, (∀ a w, wpAnyIn (Fence.wide.inRound l) n P md ops Q fuel (listed.setIfInBounds i true) a w → K a w) → o.wp P a w K Q)
    (hs : AllReadyIn (Fence.wide.inRound l) n P md ops Q fuel listed a w rs) : AllReadyIn (Fence.wide.inRound l) n P md ops Q fuel listed a w (i :: rs) :=
  AllReadyIn.cons ho (fun K hK => by rw [if_pos (by simp [Region.wanted, hg])]; exact op_round hd (h K hK)) hs
/-! rows of the call's own, under an iterator's turn -/
theorem cell_cells {W : World} {g o : Nat} {u : Value} (h : W.cell? ⟨g, o, none⟩ = some u) : ∀ x, W.heap[g]? = some x → x.isCells = true := by
  intro x hx
  simp only [World.cell?, hx] at h
  cases x <;> simp_all [Obj.isCells]
theorem turn_cell {B : Nat} {own : Nat → Prop} {W W' : World} {g o : Nat} {u : Value} (ht : Turn B own W W') (h : W.cell? ⟨g, o, none⟩ = some u) (hr : ¬ own g) : W'.cell? ⟨g, o, none⟩ = some u :=
  (World.cell?_of_block (a := ⟨g, o, none⟩) (ht.block g (lt_of_cell h) hr (fun _ x hx => cell_cells h x hx))).trans h
theorem turn_brow {B : Nat} {own : Nat → Prop} {W W' : World} {v : Value} {l : List UInt8} (ht : Turn B own W W') (h : BRow W v l) (hr : ∀ g, ¬ own g) : BRow W' v l := by
  obtain ⟨ao, cap, rfl, hc, h⟩ := h
  refine ⟨ao, cap, rfl, hc, ?_⟩
  rcases h with h | ⟨g, o, rfl, h⟩
  · exact .inl h
  · exact .inr ⟨g, o, rfl, fun j hj => turn_cell ht (h j hj) (hr g)⟩
theorem turn_own {B b : Nat} {own : Nat → Prop} {W W' : World} {e : TypeId} {size n : Nat} {v : Value} {xs : List Value} (ht : Turn B own W W') (h : W.ownsRow b e size v n xs) (hr : ∀ g, ¬ own g) : W'.ownsRow b e size v n xs := by
  refine ⟨h.1, ?_⟩
  rcases h.2 with h0 | ⟨g, cap, cur, rfl, hb, hg, rest⟩
  · exact .inl h0
  · exact .inr ⟨g, cap, cur, rfl, hb, ht.cells hg rfl (hr g), rest⟩
theorem own_apart {W : World} {b b' : Nat} {e e' : TypeId} {size size' n n' : Nat} {v x : Value} {xs ys : List Value} (he : e ≠ e') (h : W.ownsRow b e size v n xs) (h' : W.ownsRow b' e' size' x n' ys) : x.ownBlock = none ∨ x.ownBlock ≠ v.ownBlock := by
  rcases h'.2 with ⟨rfl, _⟩ | ⟨g', cap', cur', rfl, _, hg', _⟩
  · exact .inl rfl
  · right
    rcases h.2 with ⟨rfl, _⟩ | ⟨g, cap, cur, rfl, _, hg, _⟩
    · simp [Value.ownBlock]
    · intro e1
      simp only [Value.ownBlock, Option.some.injEq] at e1
      subst e1
      rw [hg] at hg'
      simp only [Option.some.injEq, Obj.cells.injEq] at hg'
      exact he hg'.2.1
theorem own_less {W : World} {b b' : Nat} {e : TypeId} {size n : Nat} {v : Value} {xs : List Value} (h : W.ownsRow b e size v n xs) (hb : b' ≤ b) : W.ownsRow b' e size v n xs :=
  ⟨h.1, h.2.elim .inl (fun ⟨g, cap, cur, hv, hg, r⟩ => .inr ⟨g, cap, cur, hv, Nat.le_trans hb hg, r⟩)⟩
theorem brow_piece {W : World} {g o n cap : Nat} {l : List UInt8} (h : BRow W (.slice (some ⟨g, o, none⟩) n cap) l) (i e : Nat) (he : i + e ≤ n) (m : Nat) (hm : e = min m (n - i)) : BRow W (.slice (some ⟨g, o + i, none⟩) e e) ((l.drop i).take m) := by
  obtain ⟨ao, c, h1, hc, h⟩ := h
  cases h1
  rcases h with ⟨h, _⟩ | ⟨g', o', h1, h⟩
  · cases h
  cases h1
  have hl : ((l.drop i).take m).length = e := by rw [List.length_take, List.length_drop]; omega
  refine ⟨some ⟨g, o + i, none⟩, e, by rw [hl], by omega, .inr ⟨g, o + i, rfl, fun j hj => ?_⟩⟩
  rw [hl] at hj
  have h2 := h (i + j) (by omega)
  rw [Nat.add_assoc, h2]
  congr 2
  rw [List.getD_eq_getElem?_getD, List.getD_eq_getElem?_getD, List.getElem?_take_of_lt (by omega), List.getElem?_drop]
set_option maxRecDepth 100000 in
theorem ck_clone2 (g o n cap : Nat) (l : List UInt8) (w : World) (h : BRow w (.slice (some ⟨g, o, none⟩) n cap) l) (hl : n ≤ 1000000) :
    Calls Tryd.prog 16 #[.slice (some ⟨g, o, none⟩) n cap] w fun e w' => ∃ r, e = .returned r ∧ w'.ownsRow w.heap.size 5 1 r n (l.map by8) ∧ Below w.heap.size w w' := by
  obtain ⟨i0, hi, hz0, hz1, hz2⟩ := info_parts info8
  obtain ⟨ao, cap', h1, hc, h⟩ := h
  cases h1
  rcases h with ⟨h, _⟩ | ⟨g', o', h1, h⟩
  · cases h
  cases h1
  have hq : ∀ W, (binOp BinOp.eql 22 (.slice (some ⟨g, o, none⟩) l.length cap) (.slice none 0 0)).run Tryd.prog W = .ok (.bool false) W := fun W => by kernel_rfl
  obtain ⟨n, hn⟩ : ∃ n, l.length = n := ⟨_, rfl⟩
  have HN := Lib.hid hn
  rw [hn] at hq hl ⊢
  have H := Lib.hid h
  have HC := Lib.hid hc
  have hnl : n ≤ 1000000 := by omega
  clear h hc hl hn
  go_enter Tryd.func16, Tryd.ntmps16
  have HO : Hid ((w.alloc (.cells #[] 5)).ownsRow w.heap.size 5 1 (.slice (some ⟨w.heap.size, 0, none⟩) 0 0) 0 []) :=
    ⟨rfl, .inr ⟨w.heap.size, 0, #[], rfl, Nat.le_refl _, World.alloc_heap_new w _, Nat.le_refl _, Nat.zero_le _, rfl, rfl⟩⟩
  go_wp2_with (at_builtin; refine wpList_append_own _ rfl _ _ 22 rfl w.heap.size 5 i0 (.int .u8 0) 1 1 Tryd.underlying22 hi hz0 hz1 hz2 rfl (by decide) _ _ _ rfl HO.out ⟨g, o, none⟩ n cap (l.map by8) rfl ?c1 ?c2 ?c3 ?c4 ?c5 ?c6 ?_)
  case c1 => rw [List.length_map, HN.out, Nat.mul_one]
  case c2 =>
    intro j u hj
    have h := BRow.news H.out j u hj
    rw [Lib.add_plain] at h ⊢
    exact cell_below ((Below.refl _ w).alloc (Nat.le_refl _) _) h
  case c3 => exact fun u hu => by8_one u l hu
  case c4 => unfold maxLen; omega
  case c5 => omega
  case c6 => simp
  intro v' w1 hown hgrow _
  have hB : Below w.heap.size w w1 := ((Below.refl _ w).alloc (Nat.le_refl _) _).grown hgrow (by simp) (fun k hk => by simp [Value.ownBlock] at hk; omega)
  have HR := Lib.hid hown
  have HB := Lib.hid hB
  clear hown hgrow hB
  go_wp2
  go_ret
  exact ⟨_, rfl, by simpa using HR.out, HB.out⟩
/-- the pieces of a list, n bytes at a time -/
def pies (n N : Nat) (l : List UInt8) : List (List UInt8) := (List.range N).map fun k => (l.drop (k * n)).take n
theorem pies_len (n N : Nat) (l : List UInt8) : (pies n N l).length = N := by simp [pies]
theorem pies_get (n N : Nat) (l : List UInt8) (k : Nat) (h : k < N) : (pies n N l).getD k [] = (l.drop (k * n)).take n := by
  simp [pies, List.getD_eq_getElem?_getD, List.getElem?_range h]
end Go.Proofs.YtaekcmoogobbjaaDoor

/- The program's chunks: Cut. -/
namespace Go.Proofs.YtaekcmoogobbjaaDoor
set_option linter.unusedVariables false
set_option linter.unusedSimpArgs false
open Go.RowKit Go.Shelf
attribute [local go_sem] Oper.semAt_some
set_option maxHeartbeats 2000000
theorem chunk1_any (m : Nat) (ao : Option Addr) (len cap n N B C : Nat) (own : Nat → Prop) (Kp : World → World → Prop) (hB : ¬ own B) (hC : ¬ own C)
    (hKp : ∀ X Y, Kp X Y → Y.heap[B]? = X.heap[B]? ∧ Y.heap[C]? = X.heap[C]?) (hn : 1 ≤ n) (hn2 : n ≤ 1000000) (hl : len ≤ 1000000) (hlc : len ≤ cap) (hN : PieN len n N) (W : World) (l : List UInt8) (hao : BRow W (.slice ao len cap) l)
    (hWB : Boxed W B 22 (.slice ao len cap)) (hWC : Boxed W C 3 (.int .i64 n)) :
    IterAt Fence.wide m Tryd.prog 36 #[.pointer (some ⟨B, 0, none⟩), .pointer (some ⟨C, 0, none⟩)] (fun k => #[.slice (ao.map fun a => ⟨a.block, a.off + k * n, none⟩) (min n (len - k * n)) (min n (len - k * n))]) N own Kp W := by
  obtain ⟨ao', c', h1, hc, h⟩ := hao
  cases h1
  rcases h with ⟨rfl, rfl, rfl⟩ | ⟨g, o, rfl, h⟩
  · have hN0 : N = 0 := by
      have h2 : ¬ 0 < N := fun h => absurd ((hN 0).2 h) (by simp)
      omega
    subst hN0
    intro l J Jx hJ hJx hY h0
    refine callsIn_of_wp Tryd.func36 rfl trivial ?_ rfl
    simp only [Tryd.ntmps36, List.size_toArray, List.length_cons, List.length_nil, Nat.reduceAdd, Nat.reduceSub, Array.replicate_succ, Array.replicate_zero, List.push_toArray, List.append_toArray, List.nil_append, List.cons_append]
    gi_wp2
    gi_loopw [4] (fun i wr => i = .int .i64 0 ∧ J 0 wr ∧ Boxed wr B 22 (.slice none 0 0)) (fun i _ => 0)
    case atStart => exact ⟨rfl, h0, hWB⟩
    case round =>
      obtain ⟨rfl, hj, hb⟩ := hrel
      have hcB := hb.cell
      gi_wp2
      go_end0
      exact ⟨⟨_, rfl⟩, .inl hj⟩
  · exact chunk1_it m g o l.length cap n N B C own Kp hB hC hKp hn hn2 hl hlc hN W hWB hWC
/-- where the loop of Cut stands: k pieces are out -/
def CutI (w : World) (E : Nat) (src : Value) (M : Nat) (L : List (List UInt8)) (k : Nat) (X : World) : Prop :=
  ∃ v xs, Boxed X E 37 v ∧ X.ownsRow (E + 3) 22 1 v k xs ∧ (∀ j, j < k → X.ownsRow 0 5 1 (xs.getD j (.slice none 0 0)) (L.getD j []).length ((L.getD j []).map by8)) ∧ Below E w X ∧ Boxed X (E + 1) 22 src ∧ Boxed X (E + 2) 3 (.int .i64 (M : Int))
theorem CutI.turn {w : World} {E M k B : Nat} {src : Value} {L : List (List UInt8)} {X Y : World} (h : CutI w E src M L k X) (ht : Turn B (fun _ => False) X Y) (hB : E ≤ B) (hw : E = w.heap.size) : CutI w E src M L k Y := by
  obtain ⟨v, xs, h1, h2, h3, h4, h5, h6⟩ := h
  have hX : E ≤ X.heap.size := by have := h4.size; omega
  exact ⟨v, xs, ht.boxed h1 id, turn_own ht h2 (fun _ => id), fun j hj => turn_own ht (h3 j hj) (fun _ => id), h4.trans (ht.below hB hX (fun _ h => h.elim)), ht.boxed h5 id, ht.boxed h6 id⟩
theorem grown_of_below {X Y : World} (h : Below X.heap.size X Y) : X.grownBy Y none := ⟨h.os, h.tape, h.output, h.size, fun k hk _ => h.block k hk⟩
theorem own_below {X Y : World} {b : Nat} {e : TypeId} {size n : Nat} {v : Value} {xs : List Value} (h : X.ownsRow b e size v n xs) (hb : Below X.heap.size X Y) : Y.ownsRow b e size v n xs :=
  h.kept (grown_of_below hb) (by cases v.ownBlock <;> simp)
theorem own_one {X : World} {b : Nat} {e : TypeId} {size n : Nat} {v : Value} {xs : List Value} (h : X.ownsRow b e size v n xs) : ∀ u ∈ [v], u.oneCell' = true := by
  intro u hu
  obtain rfl := List.mem_singleton.1 hu
  rcases h.2 with ⟨rfl, _⟩ | ⟨g, cap, cur, rfl, _⟩ <;> rfl
/-- a round of Cut's loop, of the plain worlds -/
theorem cut_round {w X w1 w3 : World} {E M N k e : Nat} {src v r v' : Value} {xs : List Value} {l : List UInt8} (hw : E = w.heap.size) (hbE : Boxed X E 37 v) (hown : X.ownsRow (E + 3) 22 1 v k xs)
    (hel : ∀ j, j < k → X.ownsRow 0 5 1 (xs.getD j (.slice none 0 0)) ((pies M N l).getD j []).length (((pies M N l).getD j []).map by8)) (hbel : Below E w X) (hB : Boxed X (E + 1) 22 src) (hC : Boxed X (E + 2) 3 (.int .i64 (M : Int)))
    (hk : k < N) (hb : Below X.heap.size X w1) (hr : w1.ownsRow X.heap.size 5 1 r e (((l.drop (k * M)).take M).map by8))
    (hown3 : w3.ownsRow (E + 3) 22 1 v' (k + 1) (xs ++ [r])) (hg3 : (w1.alloc (.cells #[r] 22)).grownBy w3 v.ownBlock) :
    w3.cell? ⟨E, 0, none⟩ = some v ∧ w3.frozen? ⟨E, 0, none⟩ = false ∧ KeepsFrom (E + 3) X (w3.setCell ⟨E, 0, none⟩ v') ∧
      ((w3.setCell ⟨E, 0, none⟩ v').heap[E + 1]? = X.heap[E + 1]? ∧ (w3.setCell ⟨E, 0, none⟩ v').heap[E + 2]? = X.heap[E + 2]?) ∧ CutI w E src M (pies M N l) (k + 1) (w3.setCell ⟨E, 0, none⟩ v') := by
  have hb2 : Below X.heap.size X (w1.alloc (.cells #[r] 22)) := hb.alloc hb.size _
  have hge : ∀ g, v.ownBlock = some g → E + 3 ≤ g := own8_ge hown
  have hge' : ∀ g, v'.ownBlock = some g → E + 3 ≤ g := own8_ge hown3
  have hlow : ∀ i, i < X.heap.size → some i ≠ v.ownBlock → w3.heap[i]? = X.heap[i]? := fun i hi hne => (hg3.block i (Nat.lt_of_lt_of_le hi hb2.size) hne).trans (hb2.block i hi)
  have hE : E < X.heap.size := lt_of_cell hbE.cell
  have hE1 : E + 1 < X.heap.size := lt_of_cell hB.cell
  have hE2 : E + 2 < X.heap.size := lt_of_cell hC.cell
  have hne : ∀ i, i < E + 3 → some i ≠ v.ownBlock := fun i hi h => by have := hge i h.symm; omega
  have bE3 : Boxed w3 E 37 v := (hlow E hE (hne E (by omega))).trans hbE
  have hset : ∀ i, i ≠ E → (w3.setCell ⟨E, 0, none⟩ v').heap[i]? = w3.heap[i]? := fun i hi => Below.heap_setCell _ _ _ i hi
  have hs3 : X.heap.size ≤ w3.heap.size := Nat.le_trans hb2.size hg3.size
  have hss : (w3.setCell ⟨E, 0, none⟩ v').heap.size = w3.heap.size := by simp
  have hlen : xs.length = k := by have := hown.1; omega
  have gE : w3.grownBy (w3.setCell ⟨E, 0, none⟩ v') (some E) := ⟨rfl, rfl, rfl, by rw [hss]; exact Nat.le_refl _, fun i hi hne => hset i (fun e => hne (by rw [e]))⟩
  have offE : ∀ {y : Value} {n : Nat} {ys : List Value} {b : Nat} {t : TypeId}, w3.ownsRow b t 1 y n ys → (∀ g, y.ownBlock = some g → g ≠ E) → (w3.setCell ⟨E, 0, none⟩ v').ownsRow b t 1 y n ys := fun h hg => h.kept gE (by
    rename_i y _ _ _ _
    cases hy : y.ownBlock with
    | none => exact .inl rfl
    | some g => exact .inr (fun e => hg g hy (by simpa using e)))
  refine ⟨bE3.cell, bE3.frozen, ⟨by rw [hss]; exact hs3, fun i o hi ho hc => ?_⟩, ⟨(hset _ (by omega)).trans (hlow _ hE1 (hne _ (by omega))), (hset _ (by omega)).trans (hlow _ hE2 (hne _ (by omega)))⟩, v', xs ++ [r], bE3.set _, ?_, ?_, ?_, ?_, ?_⟩
  · have hi2 := (Array.getElem?_eq_some_iff.1 ho).1
    have hnv : some i ≠ v.ownBlock := by
      intro h
      rcases hown.2 with ⟨rfl, _⟩ | ⟨g, cap, cur, rfl, _, hg, _⟩
      · simp [Value.ownBlock] at h
      · simp only [Value.ownBlock, Option.some.injEq] at h
        subst h
        rw [hg] at ho
        cases ho
        cases hc
    rw [hset i (by omega), hlow i hi2 hnv, ho]
  · exact offE hown3 (fun g hg => by have := hge' g hg; omega)
  · intro j hj
    have hap : ∀ {y : Value} {n : Nat} {ys : List Value} {b : Nat}, (w1.alloc (.cells #[r] 22)).ownsRow b 5 1 y n ys → (w3.setCell ⟨E, 0, none⟩ v').ownsRow b 5 1 y n ys := fun h => by
      have h1 := own_apart (by decide) (own_below hown hb2) h
      have h3 := h.kept hg3 h1
      refine offE h3 (fun g hg he => ?_)
      subst he
      rename_i y _ _ _
      have h4 := own_apart (W := w3) (b := 0) (e := 37) (e' := 5) (size := 1) (n := 1) (v := .slice (some ⟨g, 0, none⟩) 1 1) (xs := [v]) (by decide) ⟨rfl, .inr ⟨g, 1, #[v], rfl, Nat.zero_le _, bE3, Nat.le_refl _, by decide, rfl, rfl⟩⟩ h3
      rcases h4 with h4 | h4
      · rw [hg] at h4; cases h4
      · exact h4 hg
    by_cases hjk : j < k
    · rw [List.getD_eq_getElem?_getD, List.getElem?_append_left (by omega), ← List.getD_eq_getElem?_getD]
      exact hap (own_below (hel j hjk) hb2)
    · obtain rfl : j = k := by omega
      have hrl : (((l.drop (j * M)).take M).map by8).length = e := by have := hr.1; omega
      rw [List.getD_eq_getElem?_getD, List.getElem?_append_right (by omega), hlen, Nat.sub_self, pies_get _ _ _ _ hk]
      have h5 : w1.ownsRow 0 5 1 r ((l.drop (j * M)).take M).length (((l.drop (j * M)).take M).map by8) := by
        rw [List.length_map] at hrl
        rw [hrl]
        exact own_less hr (Nat.zero_le _)
      exact hap (h5.alloc _)
  · refine ⟨hg3.os.trans (hb2.os.trans hbel.os), hg3.tape.trans (hb2.tape.trans hbel.tape), hg3.output.trans (hb2.output.trans hbel.output), by rw [hss]; exact Nat.le_trans hbel.size hs3, fun i hi => ?_⟩
    exact (hset i (by omega)).trans ((hlow i (by omega) (hne i (by omega))).trans (hbel.block i hi))
  · exact (hset _ (by omega)).trans ((hlow _ hE1 (hne _ (by omega))).trans hB)
  · exact (hset _ (by omega)).trans ((hlow _ hE2 (hne _ (by omega))).trans hC)
/-- Cut's end, of the plain worlds -/
theorem cut_end {w X : World} {E N D : Nat} {v : Value} {xs : List Value} {L : List (List UInt8)} {o' : Obj} (hbE : Boxed X E 37 v) (hown : X.ownsRow (E + 3) 22 1 v N xs) (hL : L.length = N)
    (hel : ∀ j, j < N → X.ownsRow 0 5 1 (xs.getD j (.slice none 0 0)) (L.getD j []).length ((L.getD j []).map by8)) (hbel : Below E w X) (hD : E + 3 ≤ D) (hK : X.heap[D]? = some (.deferred (some []))) :
    ((X.setCell ⟨E, 0, none⟩ v).putObj D o').cell? ⟨E, 0, none⟩ = some v ∧ BRows ((X.setCell ⟨E, 0, none⟩ v).putObj D o') v L ∧ Below E w ((X.setCell ⟨E, 0, none⟩ v).putObj D o') := by
  have hset : ∀ i, i ≠ E → (X.setCell ⟨E, 0, none⟩ v).heap[i]? = X.heap[i]? := fun i hi => Below.heap_setCell _ _ _ i hi
  have hss : (X.setCell ⟨E, 0, none⟩ v).heap.size = X.heap.size := by simp
  have gE : X.grownBy (X.setCell ⟨E, 0, none⟩ v) (some E) := ⟨rfl, rfl, rfl, by rw [hss]; exact Nat.le_refl _, fun i hi hne => hset i (fun e => hne (by rw [e]))⟩
  have hT : Turn D (fun _ => False) (X.setCell ⟨E, 0, none⟩ v) ((X.setCell ⟨E, 0, none⟩ v).putObj D o') := .putObj o' (Nat.le_refl _) ((hset D (by omega)).trans hK) rfl
  have hge : ∀ g, v.ownBlock = some g → E + 3 ≤ g := own8_ge hown
  have h1 : ((X.setCell ⟨E, 0, none⟩ v).putObj D o').ownsRow (E + 3) 22 1 v N xs := turn_own hT (hown.kept gE (by
    cases hy : v.ownBlock with
    | none => exact .inl rfl
    | some g => exact .inr (fun e => by have := hge g hy; simp at e; omega))) (fun _ => id)
  refine ⟨(hT.boxed (hbE.set v) id).cell, brows_own h1 hL (fun k hk => ?_), ?_⟩
  · have h2 := hel k hk
    refine BRow.of_own (turn_own hT (h2.kept gE ?_) (fun _ => id))
    have h4 := own_apart (W := X) (b := 0) (e := 37) (e' := 5) (size := 1) (n := 1) (v := .slice (some ⟨E, 0, none⟩) 1 1) (xs := [v]) (by decide) ⟨rfl, .inr ⟨E, 1, #[v], rfl, Nat.zero_le _, hbE, Nat.le_refl _, by decide, rfl, rfl⟩⟩ h2
    exact h4
  · have hX : E ≤ X.heap.size := Nat.le_of_lt (lt_of_cell hbE.cell)
    have hb2 : Below E X (X.setCell ⟨E, 0, none⟩ v) := ⟨rfl, rfl, rfl, by rw [hss]; exact Nat.le_refl _, fun i hi => hset i (by omega)⟩
    exact (hbel.trans hb2).trans (hT.below (by omega) (by rw [hss]; exact hX) (fun _ h => h.elim))
set_option maxRecDepth 100000 in
theorem ck_cut_wrong (v : Value) (most : Int) (w : World) (hm : most < 1) :
    Calls Tryd.prog 17 #[v, .int .i64 most] w fun e w' => e = .returned (.tuple #[.slice none 0 0, .int .i64 2]) ∧ Below w.heap.size w w' := by
  go_enter Tryd.func17, Tryd.ntmps17
  go_wp2_with fail
  refine wp_scope_fwd 0 rfl ?_
  go_wp2
  apply wp_goto
  simp only [Exit.then]
  refine onGoto_goto ?_
  go_wp2
  rw [Exit.noGoto_ret]
  have hcw := (Boxed.new w 37 (.slice none 0 0)).cell
  refine bodyPost_ret (v := .tuple #[.slice none 0 0, .int .i64 2]) (by simp [results, Tryd.results17, go_sem, hcw]) rfl ⟨rfl, ?_⟩
  exact (Below.refl _ w).alloc (Nat.le_refl _) _
set_option maxRecDepth 100000 in
theorem ck_cut (ao : Option Addr) (n cap M N : Nat) (l : List UInt8) (most : Int) (w : World) (h : BRow w (.slice ao n cap) l) (hl : n ≤ 1000) (hm : ¬ most < 1) (hM : min most ((n : Int) + 1) = (M : Int)) (hN : PieN n M N) :
    Calls Tryd.prog 17 #[.slice ao n cap, .int .i64 most] w fun e w' => ∃ r, e = .returned (.tuple #[r, .int .i64 0]) ∧ BRows w' r (pies M N l) ∧ Below w.heap.size w w' := by
  have hcap : n ≤ cap := by obtain ⟨_, _, e, h1, _⟩ := h; cases e; exact h1
  refine (callsIn_wide (n := 9)).1 (callsIn_of_wp_marks Tryd.func17 rfl trivial ?_ rfl)
  simp only [Tryd.ntmps17, List.size_toArray, List.length_cons, List.length_nil, Nat.reduceAdd, Nat.reduceSub, Array.replicate_succ, Array.replicate_zero, List.push_toArray, List.append_toArray, List.nil_append, List.cons_append]
  gi_wp2_with fail
  refine wpW_scope ?_
  gi_wp2_with fail
  have hM2 : 1 ≤ M := by omega
  have hM3 : M ≤ 1001 := by omega
  refine ⟨trivial, (callsIn_wide.2 (sl_chunk ao n cap (M : Int) _ (by omega) (by omega))).mono ?_⟩
  rintro e w' ⟨rfl, rfl⟩
  obtain ⟨E, hE⟩ : ∃ E, w.heap.size = E := ⟨_, rfl⟩
  obtain ⟨W0, hW0⟩ : ∃ W0, ((w.alloc (.cells #[.slice none 0 0] 37)).alloc (.cells #[.slice ao n cap] 22)).alloc (.cells #[.int .i64 (M : Int)] 3) = W0 := ⟨_, rfl⟩
  have hs0 : W0.heap.size = E + 3 := by rw [← hW0, ← hE]; simp
  have bE : Boxed W0 E 37 (.slice none 0 0) := by
    rw [← hW0, ← hE]; exact ((Boxed.new w _ _).alloc _).alloc _
  have bB : Boxed W0 (E + 1) 22 (.slice ao n cap) := by
    rw [← hW0, ← hE]; have := (Boxed.new (w.alloc (.cells #[.slice none 0 0] 37)) 22 (.slice ao n cap)).alloc (.cells #[.int .i64 (M : Int)] 3); rwa [World.size_alloc] at this
  have bC : Boxed W0 (E + 2) 3 (.int .i64 (M : Int)) := by
    rw [← hW0, ← hE]; have := Boxed.new ((w.alloc (.cells #[.slice none 0 0] 37)).alloc (.cells #[.slice ao n cap] 22)) 3 (.int .i64 (M : Int)); rwa [World.size_alloc, World.size_alloc] at this
  have hbel : Below E w W0 := by
    rw [← hW0, ← hE]; exact (((Below.refl _ w).alloc (Nat.le_refl _) _).alloc (by simp) _).alloc (by simp; omega) _
  rw [World.size_alloc, hE, hW0]
  clear hW0
  gi_wp2_with fail
  have hB : ∀ W, Below E w W → BRow W (.slice ao n cap) l := fun W hb => h.below (by rw [hE]; exact hb)
  have hlen : l.length = n := by obtain ⟨_, _, e, _⟩ := h; cases e; rfl
  obtain ⟨i0, hi, hz0, hz1, hz2⟩ := info_parts info8s
  refine rf_break (N := N) (own := fun _ => False) (Kp := fun X Y => Y.heap[E + 1]? = X.heap[E + 1]? ∧ Y.heap[E + 2]? = X.heap[E + 2]?) (encs := fun k => #[.slice (ao.map fun a => ⟨a.block, a.off + k * M, none⟩) (min M (n - k * M)) (min M (n - k * M))])
    rfl (by omega) (gf := 36) (lb := #[.pointer (some ⟨E + 1, 0, none⟩), .pointer (some ⟨E + 2, 0, none⟩)]) rfl trivial (enters_of Tryd.func36 (by kernel_rfl) rfl)
    (fun _ => rfl) (fun b hb => hb.elim)
    (fun X hX hs => chunk1_any _ ao n cap M N (E + 1) (E + 2) _ _ id id (fun _ _ h => h) hM2 (by omega) (by omega) hcap hN X l (hB X (hbel.trans (hX.mono (by omega)))) ((hX.block _ (by omega)).trans bB) ((hX.block _ (by omega)).trans bC))
    (fun h k => ⟨k.1.trans h.1, k.2.trans h.2⟩) (fun X o o' h2 h3 => ⟨World.putObj_heap_other (by omega), World.putObj_heap_other (by omega)⟩)
    (CutI w E (.slice ao n cap) M (pies M N l)) (CutI w E (.slice ao n cap) M (pies M N l) N)
    (fun k X Y hs ht => hs.turn ht (by omega) hE.symm) (fun X Y hs ht => hs.turn ht (by omega) hE.symm)
    ⟨_, [], bE, World.ownsRow_nil _ _ _ _, fun j hj => absurd hj (by omega), hbel, bB, bC⟩
    (fun k b _ => b = { tmps := #[.slice ao n cap, .int .i64 most, undef, undef, .pointer (some ⟨E, 0, none⟩), .int .i64 0, .slice (ao.map fun a => ⟨a.block, a.off + k * M, none⟩) (min M (n - k * M)) (min M (n - k * M)), .int .i64 most, .bool (decide (most < 1)), .slice ao n cap, .int .i64 most, .slice ao n cap, .int .i64 n, .int .i64 (n + 1), .int .i64 M, .func (.func 36) #[] #[.pointer (some ⟨E + 1, 0, none⟩), .pointer (some ⟨E + 2, 0, none⟩)], .slice (ao.map fun a => ⟨a.block, a.off + k * M, none⟩) (min M (n - k * M)) (min M (n - k * M)), undef, undef, undef, undef, undef, undef], defers := [] })
    (fun _ _ _ _ hs _ => hs) ?assign ?body (fun _ h => h) ?fin
  case assign =>
    intro l' k X K hk hi hK
    gi_wp2
    exact hK _ _ (KeepsFrom.refl _ _) ⟨rfl, rfl⟩ hi rfl
  case body =>
    rintro l' k b X hl' ⟨r, hr⟩ hk ⟨v, xs, bE', hown, hel, hbX, bB', bC'⟩ rfl
    obtain ⟨ao', c', e1, _, hh⟩ := hB X hbX
    cases e1
    have hkn := (hN k).2 hk
    rcases hh with ⟨rfl, hl0, _⟩ | ⟨g, o, rfl, _⟩
    · subst hl0
      exact absurd hkn (by simp)
    have hMn := hM3
    obtain ⟨e, he⟩ : ∃ e, min M (l.length - k * M) = e := ⟨_, rfl⟩
    have HE0 : Hid (0 < e) := Lib.hid (by omega)
    have hck := ck_clone2 g (o + k * M) e e ((l.drop (k * M)).take M) X.drew (brow_piece (hB X.drew ⟨hbX.os, hbX.tape, hbX.output, hbX.size, hbX.block⟩) (k * M) e (by omega) M he.symm) (by omega)
    have HCL := Lib.hid hck
    have hcE : X.cell? ⟨E, 0, none⟩ = some v := bE'.cell
    have hE3 : E + 3 ≤ X.heap.size := lt_of_cell bC'.cell
    have hkN : k < 2000 := by
      have h1 : k ≤ k * M := Nat.le_mul_of_pos_right k (by omega)
      omega
    have HS0 := Lib.hid hs0
    have HBEL : Hid (∀ w1, Below X.heap.size X w1 → w1.cell? ⟨E, 0, none⟩ = some v) := Lib.hid (fun w1 hb => cell_below hb hcE)
    have HALL : Hid (∀ (w1 : World) (r : Value), w1.cell? ⟨E, 0, none⟩ = some v → (w1.alloc (.cells #[r] 22)).cell? ⟨E, 0, none⟩ = some v) := Lib.hid (fun w1 r h => cell_below ((Below.refl _ w1).alloc (Nat.le_refl _) _) h)
    have HOWN : Hid (∀ (w1 : World) (r : Value), Below X.heap.size X w1 → (w1.alloc (.cells #[r] 22)).ownsRow (E + 3) 22 1 v k xs) := Lib.hid (fun w1 r hb => own_below hown (hb.alloc hb.size _))
    have HSZ : Hid (∀ (w1 : World) (r : Value), Below X.heap.size X w1 → E + 3 ≤ (w1.alloc (.cells #[r] 22)).heap.size) := Lib.hid (fun w1 r hb => by have := hb.size; simp; omega)
    have HFIN := Lib.hid (fun (w1 w3 : World) (r v' : Value) (hb : Below X.heap.size X w1) (hr : w1.ownsRow X.heap.size 5 1 r e (((l.drop (k * M)).take M).map by8)) (h3 : w3.ownsRow (E + 3) 22 1 v' (k + 1) (xs ++ [r])) (g3 : (w1.alloc (.cells #[r] 22)).grownBy w3 v.ownBlock) =>
      cut_round (N := N) hE.symm bE' hown hel hbX bB' bC' hk hb hr h3 g3)
    simp only [Option.map, he]
    clear hck hB hel hbX bB' bC' hown bE' hs0 bE bB bC hbel hN h hkn hr he
    gi_wp2_with fail
    refine wpIn_region_any (by kernel_rfl) ?_
    change wpAnyIn _ _ _ _ _ _ _ _ _ (World.drew _)
    refine wpAnyIn_ready (rs := [0, 1]) (by kernel_rfl) (by simp) ?_
    refine ready_round rfl rfl (fun c h => by cases h) (fun K hK => ?_) (ready_round rfl rfl (fun c h => by cases h) (fun K hK => ?_) AllReadyIn.nil)
    · skip
      go_simp
      refine hK _ _ ?_
      clear hK K
      refine wpAnyIn_ready (rs := [1]) (by kernel_rfl) (by simp) ?_
      refine ready_round rfl rfl (fun c h => by cases h) (fun K hK => ?_) AllReadyIn.nil
      go_simp
      refine hK _ _ ?_
      clear hK K
      refine wpAnyIn_ready (rs := [2]) (by kernel_rfl) (by simp) ?_
      refine ready_round rfl rfl (fun c h => by cases h) (fun K hK => ?_) AllReadyIn.nil
      go_simp
      go_at_call 16
      refine HCL.out.mono ?_
      rintro z w1 ⟨r, rfl, hr, hb⟩
      obtain ⟨g1, cap1, rfl⟩ := own_form hr HE0.out
      have HB : Hid (Below X.heap.size X w1) := Lib.hid ⟨hb.os, hb.tape, hb.output, hb.size, hb.block⟩
      have hcE1 := (HBEL.out w1 HB.out)
      have HR := Lib.hid hr
      clear hr hb
      go_simp
      refine hK _ _ ?_
      clear hK K
      refine wpAnyIn_ready (rs := [3]) (by kernel_rfl) (by simp) ?_
      refine ready_round rfl rfl (fun c h => by cases h) (fun K hK => ?_) AllReadyIn.nil
      go_simp
      have hcE2 := HALL.out w1 (.slice (some ⟨g1, 0, none⟩) e cap1) hcE1
      refine hK _ _ ?_
      clear hK K
      refine wpAnyIn_ready (rs := [4]) (by kernel_rfl) (by simp) ?_
      refine ready_round rfl rfl (fun c h => by cases h) (fun K hK => ?_) AllReadyIn.nil
      have HOW2 := Lib.hid (HOWN.out w1 (.slice (some ⟨g1, 0, none⟩) e cap1) HB.out)
      refine wp_append_own _ (.tmp 17) (.tmp 20) 37 rfl (E + 3) 22 i0 (.slice none 0 0) 1 24 Tryd.underlying37 hi hz0 hz1 hz2 rfl (by decide) v k xs (by simp [Act.eval, Act.put]) HOW2.out ⟨w1.heap.size, 0, none⟩ 1 1 [.slice (some ⟨g1, 0, none⟩) e cap1] (by simp [Act.eval, Act.put]) rfl (fun j u hj => cell_one_any _ _ j u hj) (own_one HR.out) (by unfold maxLen; omega) (by omega) (HSZ.out w1 (.slice (some ⟨g1, 0, none⟩) e cap1) HB.out) ?_
      intro v' w3 hown3 hgr3 _
      have HPOST := Lib.hid (HFIN.out w1 w3 (.slice (some ⟨g1, 0, none⟩) e cap1) v' HB.out HR.out hown3 hgr3)
      obtain ⟨g3, cap3, rfl⟩ := own_form hown3 (by omega)
      refine hK _ _ ?_
      clear hK K hcE1 hcE2
      have hcE3 := HPOST.out.1
      have hfE3 := HPOST.out.2.1
      clear hown3 hgr3
      refine wpAnyIn_ready (rs := [5]) (by kernel_rfl) (by simp) ?_
      refine ready_round rfl rfl (fun c h => by cases h) (fun K hK => ?_) AllReadyIn.nil
      go_simp
      refine hK _ _ ?_
      clear hK K
      refine wpAnyIn_done (by kernel_rfl) ?_ _
      exact ⟨by rw [HS0.out]; exact HPOST.out.2.2.1, HPOST.out.2.2.2⟩
    · skip
      go_simp
      refine hK _ _ ?_
      clear hK K
      refine wpAnyIn_ready (rs := [0, 2]) (by kernel_rfl) (by simp) ?_
      refine ready_round rfl rfl (fun c h => by cases h) (fun K hK => ?_) (ready_round rfl rfl (fun c h => by cases h) (fun K hK => ?_) AllReadyIn.nil)
      · skip
        go_simp
        refine hK _ _ ?_
        clear hK K
        refine wpAnyIn_ready (rs := [2]) (by kernel_rfl) (by simp) ?_
        refine ready_round rfl rfl (fun c h => by cases h) (fun K hK => ?_) AllReadyIn.nil
        go_simp
        go_at_call 16
        refine HCL.out.mono ?_
        rintro z w1 ⟨r, rfl, hr, hb⟩
        obtain ⟨g1, cap1, rfl⟩ := own_form hr HE0.out
        have HB : Hid (Below X.heap.size X w1) := Lib.hid ⟨hb.os, hb.tape, hb.output, hb.size, hb.block⟩
        have hcE1 := (HBEL.out w1 HB.out)
        have HR := Lib.hid hr
        clear hr hb
        go_simp
        refine hK _ _ ?_
        clear hK K
        refine wpAnyIn_ready (rs := [3]) (by kernel_rfl) (by simp) ?_
        refine ready_round rfl rfl (fun c h => by cases h) (fun K hK => ?_) AllReadyIn.nil
        go_simp
        have hcE2 := HALL.out w1 (.slice (some ⟨g1, 0, none⟩) e cap1) hcE1
        refine hK _ _ ?_
        clear hK K
        refine wpAnyIn_ready (rs := [4]) (by kernel_rfl) (by simp) ?_
        refine ready_round rfl rfl (fun c h => by cases h) (fun K hK => ?_) AllReadyIn.nil
        have HOW2 := Lib.hid (HOWN.out w1 (.slice (some ⟨g1, 0, none⟩) e cap1) HB.out)
        refine wp_append_own _ (.tmp 17) (.tmp 20) 37 rfl (E + 3) 22 i0 (.slice none 0 0) 1 24 Tryd.underlying37 hi hz0 hz1 hz2 rfl (by decide) v k xs (by simp [Act.eval, Act.put]) HOW2.out ⟨w1.heap.size, 0, none⟩ 1 1 [.slice (some ⟨g1, 0, none⟩) e cap1] (by simp [Act.eval, Act.put]) rfl (fun j u hj => cell_one_any _ _ j u hj) (own_one HR.out) (by unfold maxLen; omega) (by omega) (HSZ.out w1 (.slice (some ⟨g1, 0, none⟩) e cap1) HB.out) ?_
        intro v' w3 hown3 hgr3 _
        have HPOST := Lib.hid (HFIN.out w1 w3 (.slice (some ⟨g1, 0, none⟩) e cap1) v' HB.out HR.out hown3 hgr3)
        obtain ⟨g3, cap3, rfl⟩ := own_form hown3 (by omega)
        refine hK _ _ ?_
        clear hK K hcE1 hcE2
        have hcE3 := HPOST.out.1
        have hfE3 := HPOST.out.2.1
        clear hown3 hgr3
        refine wpAnyIn_ready (rs := [5]) (by kernel_rfl) (by simp) ?_
        refine ready_round rfl rfl (fun c h => by cases h) (fun K hK => ?_) AllReadyIn.nil
        go_simp
        refine hK _ _ ?_
        clear hK K
        refine wpAnyIn_done (by kernel_rfl) ?_ _
        exact ⟨by rw [HS0.out]; exact HPOST.out.2.2.1, HPOST.out.2.2.2⟩
      · skip
        go_simp
        go_at_call 16
        refine HCL.out.mono ?_
        rintro z w1 ⟨r, rfl, hr, hb⟩
        obtain ⟨g1, cap1, rfl⟩ := own_form hr HE0.out
        have HB : Hid (Below X.heap.size X w1) := Lib.hid ⟨hb.os, hb.tape, hb.output, hb.size, hb.block⟩
        have hcE1 := (HBEL.out w1 HB.out)
        have HR := Lib.hid hr
        clear hr hb
        go_simp
        refine hK _ _ ?_
        clear hK K
        refine wpAnyIn_ready (rs := [0, 3]) (by kernel_rfl) (by simp) ?_
        refine ready_round rfl rfl (fun c h => by cases h) (fun K hK => ?_) (ready_round rfl rfl (fun c h => by cases h) (fun K hK => ?_) AllReadyIn.nil)
        · skip
          go_simp
          refine hK _ _ ?_
          clear hK K
          refine wpAnyIn_ready (rs := [3]) (by kernel_rfl) (by simp) ?_
          refine ready_round rfl rfl (fun c h => by cases h) (fun K hK => ?_) AllReadyIn.nil
          go_simp
          have hcE2 := HALL.out w1 (.slice (some ⟨g1, 0, none⟩) e cap1) hcE1
          refine hK _ _ ?_
          clear hK K
          refine wpAnyIn_ready (rs := [4]) (by kernel_rfl) (by simp) ?_
          refine ready_round rfl rfl (fun c h => by cases h) (fun K hK => ?_) AllReadyIn.nil
          have HOW2 := Lib.hid (HOWN.out w1 (.slice (some ⟨g1, 0, none⟩) e cap1) HB.out)
          refine wp_append_own _ (.tmp 17) (.tmp 20) 37 rfl (E + 3) 22 i0 (.slice none 0 0) 1 24 Tryd.underlying37 hi hz0 hz1 hz2 rfl (by decide) v k xs (by simp [Act.eval, Act.put]) HOW2.out ⟨w1.heap.size, 0, none⟩ 1 1 [.slice (some ⟨g1, 0, none⟩) e cap1] (by simp [Act.eval, Act.put]) rfl (fun j u hj => cell_one_any _ _ j u hj) (own_one HR.out) (by unfold maxLen; omega) (by omega) (HSZ.out w1 (.slice (some ⟨g1, 0, none⟩) e cap1) HB.out) ?_
          intro v' w3 hown3 hgr3 _
          have HPOST := Lib.hid (HFIN.out w1 w3 (.slice (some ⟨g1, 0, none⟩) e cap1) v' HB.out HR.out hown3 hgr3)
          obtain ⟨g3, cap3, rfl⟩ := own_form hown3 (by omega)
          refine hK _ _ ?_
          clear hK K hcE1 hcE2
          have hcE3 := HPOST.out.1
          have hfE3 := HPOST.out.2.1
          clear hown3 hgr3
          refine wpAnyIn_ready (rs := [5]) (by kernel_rfl) (by simp) ?_
          refine ready_round rfl rfl (fun c h => by cases h) (fun K hK => ?_) AllReadyIn.nil
          go_simp
          refine hK _ _ ?_
          clear hK K
          refine wpAnyIn_done (by kernel_rfl) ?_ _
          exact ⟨by rw [HS0.out]; exact HPOST.out.2.2.1, HPOST.out.2.2.2⟩
        · skip
          go_simp
          have hcE2 := HALL.out w1 (.slice (some ⟨g1, 0, none⟩) e cap1) hcE1
          refine hK _ _ ?_
          clear hK K
          refine wpAnyIn_ready (rs := [0]) (by kernel_rfl) (by simp) ?_
          refine ready_round rfl rfl (fun c h => by cases h) (fun K hK => ?_) AllReadyIn.nil
          go_simp
          refine hK _ _ ?_
          clear hK K
          refine wpAnyIn_ready (rs := [4]) (by kernel_rfl) (by simp) ?_
          refine ready_round rfl rfl (fun c h => by cases h) (fun K hK => ?_) AllReadyIn.nil
          have HOW2 := Lib.hid (HOWN.out w1 (.slice (some ⟨g1, 0, none⟩) e cap1) HB.out)
          refine wp_append_own _ (.tmp 17) (.tmp 20) 37 rfl (E + 3) 22 i0 (.slice none 0 0) 1 24 Tryd.underlying37 hi hz0 hz1 hz2 rfl (by decide) v k xs (by simp [Act.eval, Act.put]) HOW2.out ⟨w1.heap.size, 0, none⟩ 1 1 [.slice (some ⟨g1, 0, none⟩) e cap1] (by simp [Act.eval, Act.put]) rfl (fun j u hj => cell_one_any _ _ j u hj) (own_one HR.out) (by unfold maxLen; omega) (by omega) (HSZ.out w1 (.slice (some ⟨g1, 0, none⟩) e cap1) HB.out) ?_
          intro v' w3 hown3 hgr3 _
          have HPOST := Lib.hid (HFIN.out w1 w3 (.slice (some ⟨g1, 0, none⟩) e cap1) v' HB.out HR.out hown3 hgr3)
          obtain ⟨g3, cap3, rfl⟩ := own_form hown3 (by omega)
          refine hK _ _ ?_
          clear hK K hcE1 hcE2
          have hcE3 := HPOST.out.1
          have hfE3 := HPOST.out.2.1
          clear hown3 hgr3
          refine wpAnyIn_ready (rs := [5]) (by kernel_rfl) (by simp) ?_
          refine ready_round rfl rfl (fun c h => by cases h) (fun K hK => ?_) AllReadyIn.nil
          go_simp
          refine hK _ _ ?_
          clear hK K
          refine wpAnyIn_done (by kernel_rfl) ?_ _
          exact ⟨by rw [HS0.out]; exact HPOST.out.2.2.1, HPOST.out.2.2.2⟩
  case fin =>
    rintro D X hD ⟨v, xs, bE', hown, hel, hbX, bB', bC'⟩ hK
    have hpost := fun o' => cut_end (o' := o') bE' hown (pies_len M N l) hel hbX (by omega) hK
    have hcE := bE'.cell
    have hfE := bE'.frozen
    have HPOST := Lib.hid hpost
    have hK' : (X.setCell ⟨E, 0, none⟩ v).heap[D]? = some (.deferred (some [])) := (Below.heap_setCell _ _ _ D (by show D ≠ E; omega)).trans hK
    have HK := Lib.hid hK'
    clear hpost hK' hK hel hbX bB' bC'
    rcases hown.2 with ⟨rfl, _⟩ | ⟨g3, cap3, _, rfl, _⟩
    all_goals
      clear hown
      gi_wp2
      rw [Exit.noGoto_ret]
      refine ⟨by simp, .inl ⟨_, _, rfl, run_takeDeferred HK.out, ?_⟩⟩
      have hp := HPOST.out (.deferred none)
      have hcp := hp.1
      refine ⟨_, (by simp [results, Tryd.results17, go_sem, hcp]), ⟨_, rfl, hp.2.1, by rw [hE]; exact hp.2.2⟩⟩
end Go.Proofs.YtaekcmoogobbjaaDoor

/- A number's digits, read back, are that number: with noughts ahead, or in capitals, too. No program in sight. -/
namespace Go.Proofs.YtaekcmoogobbjaaDoor
set_option linter.unusedVariables false
set_option linter.unusedSimpArgs false
namespace Dp
theorem rd_append (b : Int) : ∀ (l r : List UInt8) (n : Int), (rd b l n).2 = 0 → rd b (l ++ r) n = rd b r (rd b l n).1
  | [], r, n, _ => rfl
  | c :: l, r, n, h => by
    simp only [rd, List.cons_append] at h ⊢
    by_cases h1 : mulE n b ≠ 0
    · rw [if_pos h1] at h; simp at h
    · rw [if_neg h1] at h ⊢
      by_cases h2 : addE (mulN n b) (digV c.toNat) ≠ 0
      · rw [if_pos h2] at h; simp at h
      · rw [if_neg h2] at h ⊢
        rw [rd_append b l r _ h, if_neg h1, if_neg h2]
theorem rd_one {b n : Int} {c : UInt8} (h0 : 0 ≤ n * b) (h : n * b + digV c.toNat < 18446744073709551616) : rd b [c] n = (n * b + digV c.toNat, 0) := by
  have hd := digV_lo (c.toNat : Int)
  have e1 : mulE n b = 0 := by unfold mulE; rw [if_pos (by omega)]
  have e2 : mulN n b = n * b := by unfold mulN; rw [if_pos (by omega)]
  have e3 : addE (n * b) (digV c.toNat) = 0 := by unfold addE; rw [if_pos h]
  have e4 : addN (n * b) (digV c.toNat) = n * b + digV c.toNat := by unfold addN; rw [if_pos h]
  simp only [rd]
  rw [if_neg (by rw [e1]; decide), e2, if_neg (by rw [e3]; decide), e4]
theorem dg_val : ∀ i : Fin 16, digV ((dg i.val).toNat : Int) = i.val := by decide +kernel
/-- digits that f turns into digits of the same value -/
theorem rd_digs {b : Nat} (hb : 2 ≤ b) (hb' : b ≤ 16) (f : UInt8 → UInt8) (hf : ∀ i : Fin 16, digV ((f (dg i.val)).toNat : Int) = i.val) :
    ∀ n : Nat, n < 18446744073709551616 → rd b ((digs b n).map f) 0 = ((n : Int), 0) := by
  intro n
  induction n using Nat.strongRecOn with
  | _ n ih =>
    intro hn
    by_cases h : n < b
    · rw [digs_lt h]
      have h1 := hf ⟨n, by omega⟩
      have h2 := rd_one (b := b) (n := 0) (c := f (dg n)) (by simp) (by rw [h1]; simp; omega)
      rw [h1] at h2
      simpa using h2
    · rw [digs_ge hb h, List.map_append]
      have hlt : n / b < n := Nat.div_lt_self (by omega) (by omega)
      have h3 := ih (n / b) hlt (by omega)
      have hm : n % b < b := Nat.mod_lt _ (by omega)
      have h1 := hf ⟨n % b, by omega⟩
      have hq : ((n / b : Nat) : Int) * (b : Int) + ((n % b : Nat) : Int) = (n : Int) := by
        have := Nat.div_add_mod n b
        rw [Nat.mul_comm] at this
        exact_mod_cast this
      have h2 := rd_one (b := b) (n := ((n / b : Nat) : Int)) (c := f (dg (n % b))) (Int.mul_nonneg (Int.natCast_nonneg _) (Int.natCast_nonneg _)) (by rw [h1]; simp only; rw [hq]; omega)
      rw [h1] at h2
      simp only at h2
      rw [hq] at h2
      rw [rd_append _ _ _ _ (by rw [h3]), h3]
      exact h2
theorem all_digs {b : Nat} (hb : 2 ≤ b) (hb' : b ≤ 16) (f : UInt8 → UInt8) (hf : ∀ i : Fin 16, digV ((f (dg i.val)).toNat : Int) = i.val) :
    ∀ n : Nat, allD b ((digs b n).map f) = true := by
  intro n
  induction n using Nat.strongRecOn with
  | _ n ih =>
    by_cases h : n < b
    · rw [digs_lt h]
      have h1 := hf ⟨n, by omega⟩
      simp only at h1
      simp [allD, h1]; omega
    · rw [digs_ge hb h, List.map_append]
      have hlt : n / b < n := Nat.div_lt_self (by omega) (by omega)
      have h3 := ih (n / b) hlt
      have hm : n % b < b := Nat.mod_lt _ (by omega)
      have h1 := hf ⟨n % b, by omega⟩
      simp only at h1
      unfold allD at h3 ⊢
      rw [List.all_append, h3]
      simp [h1]; omega
theorem num_map {b : Nat} (hb : 2 ≤ b) (hb' : b ≤ 16) (f : UInt8 → UInt8) (hf : ∀ i : Fin 16, digV ((f (dg i.val)).toNat : Int) = i.val) (n : Nat) (hn : n < 18446744073709551616) :
    numN b ((digs b n).map f) = n ∧ numE b ((digs b n).map f) = 0 := by
  have h1 := all_digs hb hb' f hf n
  have h2 := rd_digs hb hb' f hf n hn
  have h3 : ¬ ((digs b n).map f = [] ∨ allD b ((digs b n).map f) = false) := by
    rw [h1]
    have := digs_ne b n
    simpa using this
  unfold numN numE
  rw [if_neg h3, if_neg h3, h2]
  exact ⟨rfl, rfl⟩
theorem num_digs {b : Nat} (hb : 2 ≤ b) (hb' : b ≤ 16) (n : Nat) (hn : n < 18446744073709551616) : numN b (digs b n) = n ∧ numE b (digs b n) = 0 := by
  have := num_map hb hb' id (fun i => dg_val i) n hn
  rwa [List.map_id] at this
theorem digs_head {b : Nat} (hb : 2 ≤ b) (hb' : b ≤ 16) : ∀ n : Nat, 1 ≤ n → (digs b n).head? ≠ some 48 := by
  intro n
  induction n using Nat.strongRecOn with
  | _ n ih =>
    intro h1
    by_cases h : n < b
    · rw [digs_lt h]
      have : ∀ i : Fin 16, 1 ≤ i.val → dg i.val ≠ 48 := by decide +kernel
      intro e
      exact this ⟨n, by omega⟩ h1 (by simpa using e)
    · rw [digs_ge hb h]
      have hlt : n / b < n := Nat.div_lt_self (by omega) (by omega)
      have hp : 1 ≤ n / b := (Nat.le_div_iff_mul_le (by omega)).2 (by omega)
      have h3 := ih (n / b) hlt hp
      have h4 := digs_ne b (n / b)
      cases hd : digs b (n / b) with
      | nil => exact absurd hd h4
      | cons c l => rw [hd] at h3; exact h3
theorem par_digs (n : Nat) (hn : n < 18446744073709551616) : parN (digs 10 n) = n ∧ parE (digs 10 n) = 0 := by
  have h := num_digs (b := 10) (by omega) (by omega) n hn
  have h2 : ¬ (1 < (digs 10 n).length ∧ (digs 10 n).head? = some 48) := by
    rintro ⟨h1, h2⟩
    by_cases h0 : 1 ≤ n
    · exact digs_head (b := 10) (by omega) (by omega) n h0 h2
    · rw [digs_lt (by omega)] at h1
      simp at h1
  unfold parN parE
  rw [if_neg h2, if_neg h2]
  exact h
theorem rd_noughts (b : Int) (l : List UInt8) : ∀ k, rd b (List.replicate k 48 ++ l) 0 = rd b l 0
  | 0 => rfl
  | k + 1 => by
    have e1 : mulE 0 b = 0 := by unfold mulE; rw [if_pos (by omega)]
    have e2 : mulN 0 b = 0 := by unfold mulN; rw [if_pos (by omega)]; omega
    have e5 : digV (((48 : UInt8).toNat : Nat) : Int) = 0 := by decide
    have e3 : addE 0 0 = 0 := by decide
    have e4 : addN 0 0 = 0 := by decide
    rw [List.replicate_succ, List.cons_append]
    show (if mulE 0 b ≠ 0 then _ else _) = _
    rw [if_neg (by rw [e1]; decide), e2, e5, if_neg (by rw [e3]; decide), e4]
    exact rd_noughts b l k
theorem num_noughts (l : List UInt8) (k : Nat) (h0 : l ≠ []) (ha : allD 10 l = true) : numN 10 (List.replicate k 48 ++ l) = numN 10 l ∧ numE 10 (List.replicate k 48 ++ l) = numE 10 l := by
  have h1 : allD 10 (List.replicate k 48 ++ l) = true := by
    unfold allD at ha ⊢
    rw [List.all_append, ha, Bool.and_true, List.all_eq_true]
    intro c hc
    have := List.eq_of_mem_replicate hc
    subst this
    decide
  have h2 : ¬ (List.replicate k 48 ++ l = [] ∨ allD 10 (List.replicate k 48 ++ l) = false) := by
    rw [h1]; simp [h0]
  have h3 : ¬ (l = [] ∨ allD 10 l = false) := by rw [ha]; simp [h0]
  unfold numN numE
  rw [if_neg h2, if_neg h2, if_neg h3, if_neg h3, rd_noughts]
  exact ⟨rfl, rfl⟩
theorem digs_noughts (n k : Nat) (hn : n < 18446744073709551616) : numN 10 (List.replicate k 48 ++ digs 10 n) = n ∧ numE 10 (List.replicate k 48 ++ digs 10 n) = 0 := by
  have h := num_noughts (digs 10 n) k (digs_ne 10 n) (by have := all_digs (b := 10) (by omega) (by omega) id (fun i => dg_val i) n; rwa [List.map_id] at this)
  have h2 := num_digs (b := 10) (by omega) (by omega) n hn
  rw [h.1, h.2]
  exact h2
theorem digs_length_le {b : Nat} (hb : 2 ≤ b) : ∀ (k n : Nat), n < b ^ k → 1 ≤ k → (digs b n).length ≤ k
  | 0, n, _, h => absurd h (by omega)
  | k + 1, n, h, _ => by
    by_cases hl : n < b
    · rw [digs_lt hl]; simp
    · rw [digs_ge hb hl, List.length_append]
      have h1 : n / b < b ^ k := by rw [Nat.div_lt_iff_lt_mul (by omega)]; rwa [← Nat.pow_succ]
      have hk : 1 ≤ k := by
        cases k with
        | zero => exact absurd h (by simpa using hl)
        | succ k => omega
      have := digs_length_le hb k (n / b) h1 hk
      simp; omega
end Dp
end Go.Proofs.YtaekcmoogobbjaaDoor

/- The reference's texts of a number are its digits. -/
namespace Go.Proofs.YtaekcmoogobbjaaDoor
set_option linter.unusedVariables false
set_option linter.unusedSimpArgs false
open Go.RowKit
set_option maxHeartbeats 1000000
theorem hex_slice (r : Nat) (h : r < 16) (w : World) : (Instr.slice 9 (.string ⟨#[48, 49, 50, 51, 52, 53, 54, 55, 56, 57, 97, 98, 99, 100, 101, 102]⟩) (some (.int .u64 (r : Int))) (some (.int .u64 ((r : Int) + 1))) none).run Tryd.prog w = .ok (.string ⟨#[Dp.dg r]⟩) w :=
  match r, h with
  | 0, _ => by kernel_rfl
  | 1, _ => by kernel_rfl
  | 2, _ => by kernel_rfl
  | 3, _ => by kernel_rfl
  | 4, _ => by kernel_rfl
  | 5, _ => by kernel_rfl
  | 6, _ => by kernel_rfl
  | 7, _ => by kernel_rfl
  | 8, _ => by kernel_rfl
  | 9, _ => by kernel_rfl
  | 10, _ => by kernel_rfl
  | 11, _ => by kernel_rfl
  | 12, _ => by kernel_rfl
  | 13, _ => by kernel_rfl
  | 14, _ => by kernel_rfl
  | 15, _ => by kernel_rfl
  | n + 16, h => absurd h (by omega)
theorem cons_bytes (c : UInt8) (l : List UInt8) : ((⟨#[c]⟩ : ByteArray) ++ ⟨l.toArray⟩) = ⟨(c :: l).toArray⟩ := by
  apply ByteArray.ext
  rw [ByteArray.data_append]
  simp
end Go.Proofs.YtaekcmoogobbjaaDoor

/- A number's digits to the base of sixteen, as the library writes them, are those of the text Dh. Numbers have 64 bits; the library's table for trailing noughts reads as it is laid. -/
namespace Go.Proofs.YtaekcmoogobbjaaDoor
set_option linter.unusedVariables false
set_option linter.unusedSimpArgs false
open Go.RowKit
set_option maxHeartbeats 1000000
theorem tz16_key : IntKind.u64.wrap (bits BinOp.and IntKind.u64 16 (IntKind.u64.wrap (-16)) * 285870213051353865) / 288230376151711744 = 15 := by decide +kernel
theorem tz16 (w : World) (hc : w.cell? ⟨5, 15, none⟩ = some (.int .u8 4)) :
    Calls Tryd.prog 96 #[.int .u64 16] w fun e w' => e = .returned (.int .i64 4) ∧ w = w' := by
  go_enter Tryd.func96, Tryd.ntmps96
  go_wp2_with (first | simp only [tz16_key] | go_in)
  go_ret
  exact ⟨rfl, rfl⟩
theorem pow16_key : (bits BinOp.and IntKind.i64 16 15 == 0) = true := by decide +kernel
theorem pow16 (w : World)  :
    Calls Tryd.prog 95 #[.int .i64 16] w fun e w' => e = .returned (.bool true) ∧ w = w' := by
  go_enter Tryd.func95, Tryd.ntmps95
  go_wp2
  go_ret
  exact ⟨ret_bool pow16_key, rfl⟩
theorem hex_u64 {v len : Nat} (h : v * 16 ^ len < 16 ^ 16) : v < 18446744073709551616 := by
  have : v ≤ v * 16 ^ len := Nat.le_mul_of_pos_right _ (Nat.pow_pos (by omega))
  have : (16 : Nat) ^ 16 = 18446744073709551616 := by decide
  omega
theorem len65 : Tryd.prog.arrayLen 137 = 65 := by kernel_rfl
theorem slice65 (W : World) (b k : Nat) (hk : k < 65) : (Instr.sliceAt 137 (.pointer (some ⟨b, 0, none⟩)) (some (.int .i64 (k : Int))) none none).run Tryd.prog W = .ok (.slice (some ⟨b, k, none⟩) (65 - k) (65 - k)) W := by
  rw [run_sliceAt_array_l W 137 ⟨b, 0, none⟩ (by simp [Program.arrayLen, Program.elem, Tryd.underlying137]) .i64 (k : Int) (by omega) (by rw [len65]; omega)]
  rw [len65]
  have h1 : ¬ (65 = k) := by omega
  have h2 : Tryd.prog.elem 137 = 5 := by kernel_rfl
  simp [go_sem, h1, h2]
theorem and15 (v r : Nat) (h : v < 18446744073709551616) (hr : v % 16 = r) : bits BinOp.and IntKind.u64 (v : Int) 15 = (r : Int) := by
  rw [show (15 : Int) = ((15 : Nat) : Int) from rfl, bits_and_u64_nat v 15 h (by omega), ← hr]
  congr 1
  exact Nat.and_two_pow_sub_one_eq_mod v 4
theorem dig36 (r : Nat) (h : r < 16) : (({ data := #[48, 49, 50, 51, 52, 53, 54, 55, 56, 57, 97, 98, 99, 100, 101, 102, 103, 104, 105, 106, 107, 108, 109, 110, 111, 112, 113, 114, 115, 116, 117, 118, 119, 120, 121, 122] } : ByteArray)[r]'(by show r < 36; omega)).toNat = ((Dp.dg r).toNat : Int) := by
  have : r = 0 ∨ r = 1 ∨ r = 2 ∨ r = 3 ∨ r = 4 ∨ r = 5 ∨ r = 6 ∨ r = 7 ∨ r = 8 ∨ r = 9 ∨ r = 10 ∨ r = 11 ∨ r = 12 ∨ r = 13 ∨ r = 14 ∨ r = 15 := by omega
  rcases this with rfl | rfl | rfl | rfl | rfl | rfl | rfl | rfl | rfl | rfl | rfl | rfl | rfl | rfl | rfl | rfl <;> rfl
theorem conv65 (w : World) (C : Array Value) (u v k cap : Nat) (l : List UInt8) (h16 : v < 16) (hd : Dp.digs 16 u = [Dp.dg v] ++ l) (hk : k + l.length + 1 = 65) (hC : k < C.size) (hl : ∀ j, j < l.length → C[k + 1 + j]? = some (.int .u8 ((l.getD j 0).toNat : Int))) :
    (convert 22 9 (.slice (some ⟨w.heap.size, k, none⟩) (65 - k) cap)).run Tryd.prog (w.alloc (.cells (C.setIfInBounds k (Value.int .u8 (({ data := #[48, 49, 50, 51, 52, 53, 54, 55, 56, 57, 97, 98, 99, 100, 101, 102, 103, 104, 105, 106, 107, 108, 109, 110, 111, 112, 113, 114, 115, 116, 117, 118, 119, 120, 121, 122] } : ByteArray)[v]'(by show v < 36; omega)).toNat)) 137)) =
      .ok (.string ⟨(Dp.digs 16 u).toArray⟩) (w.alloc (.cells (C.setIfInBounds k (Value.int .u8 (({ data := #[48, 49, 50, 51, 52, 53, 54, 55, 56, 57, 97, 98, 99, 100, 101, 102, 103, 104, 105, 106, 107, 108, 109, 110, 111, 112, 113, 114, 115, 116, 117, 118, 119, 120, 121, 122] } : ByteArray)[v]'(by show v < 36; omega)).toNat)) 137)) := by
  have h := run_convert_bytes_back (P := Tryd.prog) (w.alloc (.cells (C.setIfInBounds k (Value.int .u8 (({ data := #[48, 49, 50, 51, 52, 53, 54, 55, 56, 57, 97, 98, 99, 100, 101, 102, 103, 104, 105, 106, 107, 108, 109, 110, 111, 112, 113, 114, 115, 116, 117, 118, 119, 120, 121, 122] } : ByteArray)[v]'(by show v < 36; omega)).toNat)) 137)) 22 9 5 ⟨w.heap.size, k, none⟩ cap (Dp.dg v :: l) Tryd.underlying22 Tryd.underlying5 Tryd.underlying9 (fun j hj => by
    rw [Lib.add_plain, World.cell?_alloc_new]
    cases j with
    | zero => exact (Array.getElem?_setIfInBounds_self_of_lt (xs := C) (i := k) hC).trans (congrArg (fun z => some (Value.int .u8 z)) (dig36 v h16))
    | succ j =>
      have hj' : j < l.length := by simpa using hj
      rw [Array.getElem?_setIfInBounds_ne (by omega), show k + (j + 1) = k + 1 + j by omega, hl j hj']
      simp [List.getD_eq_getElem?_getD, List.getElem?_eq_getElem hj'])
  rw [hd]
  rw [show 65 - k = (Dp.dg v :: l).length by simp; omega]
  exact h
set_option maxRecDepth 100000 in
theorem hex_any (u : Nat) (w : World) (hu : u < 18446744073709551616) (hc : w.cell? ⟨5, 15, none⟩ = some (.int .u8 4)) :
    Calls Tryd.prog 84 #[.slice none 0 0, .int .u64 (u : Int), .int .i64 16, .bool false, .bool false] w fun e w' => e = .returned (.tuple #[.slice none 0 0, .string ⟨(Dp.digs 16 u).toArray⟩]) ∧ Below w.heap.size w w' := by
  have K1 := Lib.hid pow16
  have HC := Lib.hid hc
  clear hc
  go_enter Tryd.func84, Tryd.ntmps84
  go_wp2_with fail
  refine (K1.out _).mono ?_
  rintro e w' ⟨rfl, rfl⟩
  go_wp2_with fail
  refine (tz16 _ ?_).mono ?_
  · exact cell_below ((Below.refl _ _).alloc (Nat.le_refl _) _) HC.out
  rintro e w' ⟨rfl, rfl⟩
  go_wp2_with fail
  clear K1 HC
  have H0 := Lib.hid (show u * 16 ^ ([] : List UInt8).length < 16 ^ 16 by simpa using hu)
  have Hu := Lib.hid hu
  clear hu
  go_loopw [1, 13] (fun n i wr => ∃ (v : Nat) (C : Array Value) (l : List UInt8) (k : Nat), n = .int .u64 (v : Int) ∧ i = .int .i64 (k : Int) ∧ (k + l.length = 65 ∧ l.length ≤ 16) ∧ v * 16 ^ l.length < 16 ^ 16 ∧ Dp.digs 16 u = Dp.digs 16 v ++ l ∧ wr = w.alloc (.cells C 137) ∧ C.size = 65 ∧
      (∀ j, j < l.length → C[k + j]? = some (.int .u8 ((l.getD j 0).toNat : Int)))) (fun n _ _ => (intOf n).toNat)
  case atStart => exact ⟨u, _, [], 65, rfl, rfl, ⟨rfl, by simp⟩, H0.out, by simp, rfl, by kernel_rfl, fun j hj => by simp at hj⟩
  case round =>
    obtain ⟨v, C, l, k, rfl, rfl, ⟨hk, hk2⟩, hb, hd, rfl, hC, hl⟩ := hrel
    by_cases h16 : v < 16
    · have hk1 : 1 ≤ k := by omega
      obtain ⟨k, rfl⟩ : ∃ k', k = k' + 1 := ⟨k - 1, by omega⟩
      have hcell : ∃ x, C[k]? = some x := ⟨C[k]'(by omega), by simp⟩
      obtain ⟨x, hx⟩ := hcell
      have hk65 : k < 65 := by omega
      have H1 := Lib.hid hk
      have H3 := Lib.hid hd
      have H4 := Lib.hid hC
      have H5 := Lib.hid hl
      have hsl := fun W => slice65 W w.heap.size k (by omega)
      have hcv := conv65 w C u v k (65 - k) l (h16 := h16) (by rw [hd, Dp.digs_lt h16]) (by simp; omega) (by omega) (fun j hj => hl j hj)
      clear hk hb hd hC hl
      go_wp2
      go_ret2
      exact ⟨rfl, (Below.refl _ _).alloc (Nat.le_refl _) _⟩
    · have hlen := Dp.hex_room hb (by omega)
      obtain ⟨k, rfl⟩ : ∃ k', k = k' + 1 := ⟨k - 1, by omega⟩
      have H1 := Lib.hid hk
      have H2 := Lib.hid hb
      have H3 := Lib.hid hd
      have H4 := Lib.hid hC
      have H5 := Lib.hid hl
      have hcell : ∃ x, C[k]? = some x := ⟨C[k]'(by omega), by simp⟩
      obtain ⟨x, hx⟩ := hcell
      have hk65 : k < 65 := by omega
      obtain ⟨r, hr⟩ : ∃ r, v % 16 = r := ⟨_, rfl⟩
      have hr16 : r < 16 := by omega
      have hv64 := hex_u64 hb
      have hand := and15 v r hv64 hr
      have H6 := Lib.hid hr
      clear hk hb hd hC hl hr hv64
      go_wp2
      go_roundw
      case rel =>
        refine ⟨v / 16, _, Dp.dg r :: l, k, by congr 1, rfl, ⟨by have := H1.out; simp; omega, by simp; omega⟩, Dp.hex_less H2.out, ?_, rfl, by rw [Array.size_setIfInBounds]; exact H4.out, ?_⟩
        · rw [H3.out, Dp.digs_ge (by omega) (by omega), H6.out, List.append_assoc]; rfl
        · intro j hj
          cases j with
          | zero => exact (Array.getElem?_setIfInBounds_self_of_lt (xs := C) (i := k) (by have := H4.out; omega)).trans (congrArg (fun z => some (Value.int .u8 z)) (dig36 r hr16))
          | succ j => rw [Array.getElem?_setIfInBounds_ne (by omega), show k + (j + 1) = k + 1 + j by omega]; exact H5.out j (by simpa using hj)
      case measure => simp [intOf]; omega
end Go.Proofs.YtaekcmoogobbjaaDoor

/- A number's text and its hex, the program's and the reference's, are the digits of the text Dh. Numbers have 64 bits; the two tables of the library read as they are laid. -/
namespace Go.Proofs.YtaekcmoogobbjaaDoor
set_option linter.unusedVariables false
set_option linter.unusedSimpArgs false
open Go.RowKit
open Go.Sort (Holds putRow mapBlock cell?_putRow)
set_option maxHeartbeats 1000000
/-- the tables of the library that number texts read -/
def Tabs (w : World) : Prop := w.cell? ⟨5, 15, none⟩ = some (.int .u8 4) ∧ Lib.TabIs Tryd.prog w "internal/strconv.uint64pow10" .u64 Lib.pow10Tab
theorem tabIs_below {P : Program} {w w' : World} {name : String} {k : IntKind} {zs : List Int} (h : Lib.TabIs P w name k zs) (hb : Below w.heap.size w w') : Lib.TabIs P w' name k zs := by
  unfold Lib.TabIs World.var? at *
  cases hg : P.globalNamed name with
  | none => simp [hg] at h
  | some g =>
    simp only [hg, Option.bind_some] at h ⊢
    have hlt : g < w.heap.size := by
      rcases Nat.lt_or_ge g w.heap.size with h' | h'
      · exact h'
      · rw [Array.getElem?_eq_none h'] at h; simp at h
    rw [hb.block g hlt]
    exact h
theorem Tabs.below {w w' : World} (h : Tabs w) (hb : Below w.heap.size w w') : Tabs w' := ⟨cell_below hb h.1, tabIs_below h.2 hb⟩
theorem below_drewN {B : Nat} {a w : World} (h : Below B a w) (n : Nat) : Below B a (w.drewN n) := ⟨h.os, h.tape, h.output, h.size, h.block⟩
theorem below_putRow {α : Type} [Inhabited α] {enc : α → Value} {B : Nat} {a w : World} (h : Below B a w) (blk off : Nat) (d : Array α) (hB : B ≤ blk) : Below B a (putRow enc w blk off d) := by
  refine h.trans ⟨rfl, rfl, rfl, by simp [putRow, mapBlock], fun k hk => ?_⟩
  simp only [putRow, mapBlock, Array.getElem?_modify]
  rw [if_neg (by omega)]
theorem holds_zero0 (w : World) (T : TypeId) (nd : Nat) (hs : nd ≤ 24) : Holds (fun (b : UInt8) => Value.int .u8 (b.toNat : Int)) (w.alloc (.cells Lib.zeros24 T)) w.heap.size 0 (Array.replicate nd (0 : UInt8)) := fun j hj => by
  have hj' : j < nd := by simpa using hj
  refine ⟨?_, World.frozen?_alloc_new _ _ _ _⟩
  rw [World.cell?_alloc_new, Lib.zeros24_at _ (by omega), getElem!_pos _ j hj]
  simp
theorem len24 : Tryd.prog.arrayLen 126 = 24 := by kernel_rfl
theorem slice24 (W : World) (b k : Nat) (hk : k < 24) : (Instr.sliceAt 126 (.pointer (some ⟨b, 0, none⟩)) none (some (.int .i64 (k : Int))) none).run Tryd.prog W = .ok (.slice (some ⟨b, 0, none⟩) k 24) W := by
  rw [run_sliceAt_array_h W 126 ⟨b, 0, none⟩ (by simp [Program.arrayLen, Program.elem, Tryd.underlying126]) .i64 (k : Int) (by omega) (by rw [len24]; omega)]
  rw [len24]
  have h2 : Tryd.prog.elem 126 = 5 := by kernel_rfl
  simp [go_sem, h2]
set_option maxRecDepth 100000 in
theorem fmt10_small (u : Nat) (w : World) (hu : u < 100) :
    Calls Tryd.prog 62 #[.int .u64 (u : Int), .int .i64 10] w fun e w' => e = .returned (.string ⟨(Dp.digs 10 u).toArray⟩) ∧ Below w.heap.size w w' := by
  have K := Lib.hid (Tryd.internal_strconv_small u hu w)
  go_enter Tryd.func62, Tryd.ntmps62
  go_wp2_with fail
  refine K.out.mono ?_
  rintro e w' ⟨rfl, rfl⟩
  go_wp2
  go_ret
  exact ⟨by rw [← Dp.dec_digs]; rfl, Below.refl _ _⟩
set_option maxRecDepth 100000 in
theorem fmt10_big (u : Nat) (w : World) (hu : u < 18446744073709551616) (h1 : 100 ≤ u) (htab : Lib.TabIs Tryd.prog w "internal/strconv.uint64pow10" .u64 Lib.pow10Tab) :
    Calls Tryd.prog 62 #[.int .u64 (u : Int), .int .i64 10] w fun e w' => e = .returned (.string ⟨(Dp.digs 10 u).toArray⟩) ∧ Below w.heap.size w w' := by
  have hu1 : 1 ≤ u := by omega
  have hnd20 : Lib.nDigits u ≤ 20 := by have := Lib.numDigits_eq u hu1 hu; split at this <;> omega
  have hH0 := holds_zero0 w 126 (Lib.nDigits u) (by omega)
  have hfmt := Tryd.internal_strconv_formatBase10 w.heap.size 0 24 u (Array.replicate (Lib.nDigits u) 0) (w.alloc (.cells Lib.zeros24 126)) hH0 (by rw [Array.size_replicate]; exact Lib.lt_pow_nDigits u) hu (by rw [Array.size_replicate]; omega)
  rw [Array.size_replicate] at hfmt
  have HH0 := Lib.hid hH0
  have HF := Lib.hid hfmt
  have ND := Lib.hid (Tryd.internal_strconv_numDigits u hu1 hu (w.alloc (.cells Lib.zeros24 126)) (Lib.tabIs_alloc htab _))
  have hsl := fun W => slice24 W w.heap.size (Lib.nDigits u) (by omega)
  have iu : (100 : Int) ≤ (u : Int) := by omega
  clear hH0 hfmt htab hu hu1 h1
  go_enter Tryd.func62, Tryd.ntmps62
  go_wp2_with fail
  refine ND.out.mono ?_
  rintro e w' ⟨rfl, rfl⟩
  go_wp2_with fail
  refine HF.out.mono ?_
  rintro e w' ⟨rfl, k, v', dk, rfl, hF⟩
  have hcv : (convert 22 9 (.slice (some ⟨w.heap.size, 0, none⟩) (Lib.nDigits u) 24)).run Tryd.prog ((putRow (fun (b : UInt8) => Value.int .u8 (b.toNat : Int)) (w.alloc (.cells Lib.zeros24 126)) w.heap.size 0 dk).drewN k) = .ok (.string ⟨(Lib.decDigits u).toArray⟩) ((putRow (fun (b : UInt8) => Value.int .u8 (b.toNat : Int)) (w.alloc (.cells Lib.zeros24 126)) w.heap.size 0 dk).drewN k) := by
    have h := run_convert_bytes_back (P := Tryd.prog) ((putRow (fun (b : UInt8) => Value.int .u8 (b.toNat : Int)) (w.alloc (.cells Lib.zeros24 126)) w.heap.size 0 dk).drewN k) 22 9 5 ⟨w.heap.size, 0, none⟩ 24 (Lib.decDigits u) Tryd.underlying22 Tryd.underlying5 Tryd.underlying9 (fun j hj => by
      rw [Lib.row_is_numeral hF j hj, Lib.add_plain, World.cell?_drewN]
      exact cell?_putRow (fun (b : UInt8) => Value.int .u8 (b.toNat : Int)) _ w.heap.size 0 _ dk HH0.out (by rw [hF.size, Array.size_replicate]) j (by rw [hF.size]; rw [Lib.decDigits_length] at hj; exact hj))
    rw [Lib.decDigits_length] at h
    exact h
  go_wp2
  go_ret
  exact ⟨by rw [← Dp.dec_digs]; rfl, below_drewN (below_putRow ((Below.refl _ _).alloc (Nat.le_refl _) _) _ _ _ (Nat.le_refl _)) k⟩
theorem fmt10 (u : Nat) (w : World) (hu : u < 18446744073709551616) (ht : Tabs w) :
    Calls Tryd.prog 62 #[.int .u64 (u : Int), .int .i64 10] w fun e w' => e = .returned (.string ⟨(Dp.digs 10 u).toArray⟩) ∧ Below w.heap.size w w' := by
  by_cases h : u < 100
  · exact fmt10_small u w h
  · exact fmt10_big u w hu (by omega) ht.2
theorem fmt16 (u : Nat) (w : World) (hu : u < 18446744073709551616) (ht : Tabs w) :
    Calls Tryd.prog 62 #[.int .u64 (u : Int), .int .i64 16] w fun e w' => e = .returned (.string ⟨(Dp.digs 16 u).toArray⟩) ∧ Below w.heap.size w w' := by
  have K := Lib.hid (hex_any u w hu ht.1)
  clear ht hu
  go_enter Tryd.func62, Tryd.ntmps62
  go_wp2_with fail
  refine K.out.mono ?_
  rintro e w' ⟨rfl, hb⟩
  go_wp2
  go_ret
  exact ⟨rfl, hb⟩
theorem strconv_fmt (b : Nat) (u : Nat) (w : World) (hb : b = 10 ∨ b = 16) (hu : u < 18446744073709551616) (ht : Tabs w) :
    Calls Tryd.prog 50 #[.int .u64 (u : Int), .int .i64 (b : Int)] w fun e w' => e = .returned (.string ⟨(Dp.digs b u).toArray⟩) ∧ Below w.heap.size w w' := by
  have K : Hid (Calls Tryd.prog 62 #[.int .u64 (u : Int), .int .i64 (b : Int)] w fun e w' => e = .returned (.string ⟨(Dp.digs b u).toArray⟩) ∧ Below w.heap.size w w') := by
    rcases hb with rfl | rfl
    · exact fmt10 u w hu ht
    · exact fmt16 u w hu ht
  clear ht hu hb
  go_enter Tryd.func50, Tryd.ntmps50
  go_wp2_with fail
  refine K.out.mono ?_
  rintro e w' ⟨rfl, hb⟩
  go_wp2
  go_ret
  exact ⟨rfl, hb⟩
theorem dec_hex (u : Nat) (w : World) (hu : u < 18446744073709551616) (ht : Tabs w) :
    Calls Tryd.prog 38 #[.int .u64 (u : Int)] w fun e w' => e = .returned (.string ⟨(Dp.digs 16 u).toArray⟩) ∧ Below w.heap.size w w' := by
  have K := Lib.hid (fun W (h : Below w.heap.size w W) => strconv_fmt 16 u W (.inr rfl) hu (ht.below h))
  have i0 := bases_1
  clear ht hu
  go_enter Tryd.func38, Tryd.ntmps38
  go_wp2_with fail
  refine (dec_bases _).mono ?_
  rintro e w1 ⟨rfl, hb⟩
  go_wp2_with fail
  refine (K.out w1 hb).mono ?_
  rintro e w2 ⟨rfl, hb2⟩
  go_wp2
  go_ret
  exact ⟨rfl, hb.trans (hb2.mono hb.size)⟩
end Go.Proofs.YtaekcmoogobbjaaDoor

/- The reference's chunks; the program's sizes. -/
namespace Go.Proofs.YtaekcmoogobbjaaDoor
set_option linter.unusedVariables false
set_option linter.unusedSimpArgs false
open Go.RowKit Go.Shelf
set_option maxHeartbeats 2000000
/-- a chunk -/
def enc (l : List UInt8) : List UInt8 := if l = [] then [] else Dp.digs 16 l.length ++ [13, 10] ++ l ++ [13, 10]
def szI (n : Int) : Int := if n ≤ 0 then 0 else (Dp.digs 16 n.toNat).length + 4 + n
end Go.Proofs.YtaekcmoogobbjaaDoor

/- The program's chunks: Encode, Last. -/
namespace Go.Proofs.YtaekcmoogobbjaaDoor
set_option linter.unusedVariables false
set_option linter.unusedSimpArgs false
open Go.RowKit Go.Shelf
set_option maxHeartbeats 2000000
theorem brow_world (w : World) (s : ByteArray) (cap : Nat) (hc : s.size ≤ cap) (B : Nat) (hB : B = w.heap.size) : BRow (Lib.bytesWorld w 5 s) (.slice (some ⟨B, 0, none⟩) s.size cap) s.data.toList :=
  ⟨_, cap, rfl, hc, .inr ⟨B, 0, rfl, fun j hj => bytes_bytesWorld_at w 5 s B hB j hj⟩⟩
theorem brows_one {w : World} {x : Value} {l : List UInt8} {B : Nat} (h : BRow w x l) (hB : B = w.heap.size) : BRows (w.alloc (.cells #[x] 22)) (.slice (some ⟨B, 0, none⟩) 1 1) [l] := by
  subst hB
  refine ⟨_, 1, rfl, Nat.le_refl _, .inr ⟨w.heap.size, 0, rfl, fun k hk => ?_⟩⟩
  obtain rfl : k = 0 := by simpa using hk
  exact ⟨x, (Boxed.new w _ _).cell, h.below ((Below.refl _ w).alloc (Nat.le_refl _) _)⟩
theorem brows_none (w : World) : BRows w (.slice none 0 0) [] := ⟨none, 0, rfl, Nat.le_refl _, .inl ⟨rfl, rfl, rfl⟩⟩
set_option maxRecDepth 100000 in
theorem ck_encode (v : Value) (L : List (List UInt8)) (w : World) (h : BRows w v L) (hl : (cat L).length ≤ 100000) (hL : L.length ≤ 900) (ht : Tabs w) :
    Calls Tryd.prog 28 #[v] w fun e w' => ∃ r, e = .returned r ∧ BRow w' r (enc (cat L)) ∧ Below w.heap.size w w' := by
  have K := Lib.hid (ck_concat v L w h (by omega) (by omega))
  have HT := Lib.hid ht
  obtain ⟨l, hll⟩ : ∃ l, cat L = l := ⟨_, rfl⟩
  rw [hll] at K hl ⊢
  clear h hL ht hll
  have hcv := fun (W : World) (s : ByteArray) => Lib.run_convert_string_bytes (P := Tryd.prog) W 9 22 5 s Tryd.underlying9 Tryd.underlying22 Tryd.underlying5
  go_enter Tryd.func28, Tryd.ntmps28
  go_wp2_with fail
  refine K.out.mono ?_
  rintro e w1 ⟨r, rfl, hr, hb1⟩
  have HR := Lib.hid hr
  have HB1 := Lib.hid hb1
  obtain ⟨ao, cap, rfl, _, _⟩ := hr
  clear hb1
  by_cases h0 : l = []
  · have HE : Hid (enc l = []) := Lib.hid (if_pos h0)
    subst h0
    rw [show ([] : List UInt8).length = 0 from rfl] at HR ⊢
    go_wp2_with fail
    go_ret
    exact ⟨_, rfl, by rw [HE.out]; exact BRow.nil _, HB1.out⟩
  · obtain ⟨n, hn⟩ : ∃ n, l.length = n := ⟨_, rfl⟩
    have hn0 : 0 < n := by rw [← hn]; exact List.length_pos_iff.2 h0
    have hne : ((n : Int) == 0) = false := beq_eq_false_iff_ne.2 (by omega)
    rw [hn] at HR hl ⊢
    have HH := Lib.hid (fun W (h : Tabs W) => dec_hex n W (by omega) h)
    obtain ⟨s, hs⟩ : ∃ s : ByteArray, (⟨(Dp.digs 16 n).toArray⟩ : ByteArray) = s := ⟨_, rfl⟩
    have hsl : s.data.toList = Dp.digs 16 n := by rw [← hs]
    have hss : s.size ≤ 16 := by
      have := Dp.digs_length_le (b := 16) (by omega) 16 n (by omega) (by omega)
      rw [← hsl] at this
      exact this
    rw [hs] at HH
    have HE : Hid (enc l = s.data.toList ++ [13, 10] ++ l ++ [13, 10]) := Lib.hid (by unfold enc; rw [if_neg h0, hn, hsl])
    have HS0 : Hid (s.data.toList ≠ []) := Lib.hid (by rw [hsl]; exact Dp.digs_ne 16 n)
    have HN := Lib.hid hn
    have H0 := Lib.hid h0
    clear hs hsl hn h0
    obtain ⟨B, hB⟩ : ∃ B, w1.heap.size = B := ⟨_, rfl⟩
    obtain ⟨W2, hW2⟩ : ∃ W2, w1.alloc (.cells #[.slice none 0 0] 73) = W2 := ⟨_, rfl⟩
    have HBW : Hid (Below w.heap.size w W2) := Lib.hid (by rw [← hW2]; exact HB1.out.alloc HB1.out.size _)
    have HBB : Hid (w.heap.size ≤ B) := Lib.hid (by rw [← hB]; exact HB1.out.size)
    have HBU : Hid (BufAt W2 B 73 (.slice none 0 0)) := Lib.hid (by rw [← hW2, ← hB]; exact Boxed.new _ _ _)
    have HR2 : Hid (BRow W2 (.slice ao n cap) l) := Lib.hid (by rw [← hW2]; exact HR.out.below ((Below.refl _ _).alloc (Nat.le_refl _) _))
    clear HR
    go_wp2_with fail
    clear hB hW2
    refine (HH.out W2 (HT.out.below HBW.out)).mono ?_
    rintro e w3 ⟨rfl, hb3⟩
    have HB3 := Lib.hid hb3
    clear hb3
    go_wp2_with fail
    obtain ⟨D, hD⟩ : ∃ D, w3.heap.size = D := ⟨_, rfl⟩
    obtain ⟨cp, hcp⟩ : ∃ c, grownCap w3 s.size 0 5 = c := ⟨_, rfl⟩
    obtain ⟨W4, hW4⟩ : ∃ W4, Lib.bytesWorld w3 5 s = W4 := ⟨_, rfl⟩
    have HS4 : Hid (BRow W4 (.slice (some ⟨D, 0, none⟩) s.size cp) s.data.toList) := Lib.hid (by
      rw [← hW4, ← hcp]
      exact brow_world w3 s _ (grownCap_ge _ _ _ _) D hD.symm)
    have HB4 : Hid (Below W2.heap.size W2 W4) := Lib.hid (by
      rw [← hW4]
      exact HB3.out.trans ((below_bytesWorld w3.heap.size w3 5 s (Nat.le_refl _)).mono HB3.out.size))
    rw [hD, hcp, hW4]
    clear hD hcp hW4
    obtain ⟨G, hG⟩ : ∃ G, W4.heap.size = G := ⟨_, rfl⟩
    obtain ⟨W5, hW5⟩ : ∃ W5, W4.alloc (.cells #[.slice (some ⟨D, 0, none⟩) s.size cp] 22) = W5 := ⟨_, rfl⟩
    have HP5 : Hid (BRows W5 (.slice (some ⟨G, 0, none⟩) 1 1) [s.data.toList]) := Lib.hid (by rw [← hW5]; exact brows_one HS4.out hG.symm)
    have HB5 : Hid (Below W2.heap.size W2 W5) := Lib.hid (by rw [← hW5]; exact HB4.out.alloc HB4.out.size _)
    rw [hG, hW5]
    clear hG hW5
    have hKlt : B < W2.heap.size := lt_of_cell HBU.out.cell
    have C1 := Lib.hid (ck_line B 73 (.slice none 0 0) (.slice (some ⟨G, 0, none⟩) 1 1) [] [s.data.toList] W5 ((HB5.out.block B hKlt).trans HBU.out) (BRow.nil _) HP5.out (fun p hp => by rw [List.mem_singleton.1 hp]; exact HS0.out) (by have : s.data.toList.length = s.size := rfl; show 0 + (s.data.toList ++ []).length ≤ _; rw [List.append_nil]; omega) (by simp))
    go_wp2_with fail
    refine C1.out.mono ?_
    rintro e w6 ⟨rfl, v6, hbu6, hrow6, hgr6⟩
    have HBU6 := Lib.hid hbu6
    have HROW6 := Lib.hid hrow6
    have HGR6 := Lib.hid hgr6
    clear hbu6 hrow6 hgr6
    have HR6 : Hid (BRow w6 (.slice ao n cap) l) := Lib.hid ((HR2.out.below HB5.out).grown ((HB5.out.block B hKlt).trans HBU.out) (fun k m e => by cases e) HGR6.out)
    have HB6 : Hid (Below w.heap.size w w6) := Lib.hid ((HBW.out.trans (HB5.out.mono HBW.out.size)).grown HGR6.out ((HBW.out.trans (HB5.out.mono HBW.out.size)).size) (fun k e => by cases e; exact HBB.out))
    obtain ⟨M, hM⟩ : ∃ M, w6.heap.size = M := ⟨_, rfl⟩
    obtain ⟨W7, hW7⟩ : ∃ W7, w6.alloc (.cells #[.slice ao n cap] 22) = W7 := ⟨_, rfl⟩
    have HP7 : Hid (BRows W7 (.slice (some ⟨M, 0, none⟩) 1 1) [l]) := Lib.hid (by rw [← hW7]; exact brows_one HR6.out hM.symm)
    have HB7 : Hid (Below w6.heap.size w6 W7) := Lib.hid (by rw [← hW7]; exact (Below.refl _ _).alloc (Nat.le_refl _) _)
    have hK6 : B < w6.heap.size := lt_of_cell HBU6.out.cell
    have C2 := Lib.hid (ck_line B 73 v6 (.slice (some ⟨M, 0, none⟩) 1 1) _ [l] W7 ((HB7.out.block B hK6).trans HBU6.out) (HROW6.out.below HB7.out) HP7.out (fun p hp => by rw [List.mem_singleton.1 hp]; exact H0.out) (by
      have h1 : s.data.toList.length = s.size := rfl
      have h2 := HN.out
      show ([] ++ cat [s.data.toList] ++ [13, 10]).length + (l ++ []).length ≤ _
      simp only [cat, List.flatten_cons, List.flatten_nil, List.append_nil, List.nil_append, List.length_append, List.length_cons, List.length_nil]
      omega) (by simp))
    go_wp2_with fail
    clear hM hW7
    refine C2.out.mono ?_
    rintro e w8 ⟨rfl, v8, hbu8, hrow8, hgr8⟩
    have c8 := hbu8.cell
    have HROW8 := Lib.hid hrow8
    have HGR8 := Lib.hid hgr8
    clear hbu8 hrow8 hgr8
    go_wp2
    go_ret
    refine ⟨_, rfl, ?_, (HB6.out.trans (HB7.out.mono HB6.out.size)).grown HGR8.out ((HB6.out.trans (HB7.out.mono HB6.out.size)).size) (fun k e => by cases e; exact HBB.out)⟩
    have h := HROW8.out
    have e1 : [] ++ cat [s.data.toList] ++ [13, 10] ++ cat [l] ++ [13, 10] = enc l := by
      rw [HE.out]
      simp [cat]
    rw [e1] at h
    exact h
end Go.Proofs.YtaekcmoogobbjaaDoor

/- The program's chunks: Last. -/
namespace Go.Proofs.YtaekcmoogobbjaaDoor
set_option linter.unusedVariables false
set_option linter.unusedSimpArgs false
open Go.RowKit Go.Shelf
set_option maxHeartbeats 2000000
set_option maxRecDepth 100000 in
theorem ck_last (w : World) :
    Calls Tryd.prog 20 #[] w fun e w' => ∃ r, e = .returned r ∧ BRow w' r [48, 13, 10, 13, 10] ∧ Below w.heap.size w w' := by
  obtain ⟨B, hB⟩ : ∃ B, w.heap.size = B := ⟨_, rfl⟩
  obtain ⟨W0, hW0⟩ : ∃ W0, w.alloc (.cells #[.slice none 0 0] 73) = W0 := ⟨_, rfl⟩
  obtain ⟨W1, hW1⟩ : ∃ W1, W0.alloc (.cells #[.int .u8 48] 5 (1, 1 + 1)) = W1 := ⟨_, rfl⟩
  obtain ⟨W5, hW5⟩ : ∃ W5, W1.alloc (.cells #[.slice (some ⟨B + 1, 0, none⟩) 1 1] 22) = W5 := ⟨_, rfl⟩
  have s0 : W0.heap.size = B + 1 := by rw [← hW0, ← hB]; exact Array.size_push ..
  have s1 : W1.heap.size = B + 1 + 1 := by rw [← hW1, ← s0]; exact Array.size_push ..
  have HBU : Hid (BufAt W0 B 73 (.slice none 0 0)) := Lib.hid (by rw [← hW0, ← hB]; exact Boxed.new w _ _)
  have HBW : Hid (Below B w W0) := Lib.hid (by rw [← hW0, ← hB]; exact (Below.refl _ w).alloc (Nat.le_refl _) _)
  have HS1 : Hid (BRow W1 (.slice (some ⟨B + 1, 0, none⟩) 1 1) [48]) := Lib.hid ⟨_, 1, rfl, Nat.le_refl _, .inr ⟨B + 1, 0, rfl, fun j hj => by
    obtain rfl : j = 0 := by simpa using hj
    rw [← hW1, ← s0]
    exact Joins.cell_alloc_mark_at W0 #[.int .u8 48] _ _ _ 0 rfl⟩⟩
  have HP5 : Hid (BRows W5 (.slice (some ⟨B + 1 + 1, 0, none⟩) 1 1) [[48]]) := Lib.hid (by rw [← hW5]; exact brows_one HS1.out s1.symm)
  have HB5 : Hid (Below W0.heap.size W0 W5) := Lib.hid (by
    rw [← hW5, ← hW1]
    have h1 : Below W0.heap.size W0 (W0.alloc (.cells #[.int .u8 48] 5 (1, 1 + 1))) := (Below.refl _ W0).alloc (Nat.le_refl _) _
    exact h1.alloc h1.size _)
  have hKlt : B < W0.heap.size := lt_of_cell HBU.out.cell
  have C1 := Lib.hid (ck_line B 73 (.slice none 0 0) (.slice (some ⟨B + 1 + 1, 0, none⟩) 1 1) [] [[48]] W5 ((HB5.out.block B hKlt).trans HBU.out) (BRow.nil _) HP5.out (fun p hp => by rw [List.mem_singleton.1 hp]; decide) (by decide) (by decide))

  have EB := Lib.hid hB
  have E0 := Lib.hid hW0
  have E1 := Lib.hid hW1
  have E5 := Lib.hid hW5
  have ES := Lib.hid s0
  have ES1 := Lib.hid s1
  clear hB hW0 hW1 hW5 s0 s1 hKlt
  have kc := fun (o : Obj) (C : Array Value) (n c : Nat) => Joins.run_convert_bytes_const_at (P := Tryd.prog) (w.alloc o) 22 5 C n c (w.heap.size + 1) (by simp) Tryd.underlying22 Tryd.underlying5
  go_enter Tryd.func20, Tryd.ntmps20
  go_wp2_with fail
  rw [EB.out, E0.out, E1.out, E5.out]
  refine C1.out.mono ?_
  rintro e w6 ⟨rfl, v6, hbu6, hrow6, hgr6⟩
  have HBU6 := Lib.hid hbu6
  have HROW6 := Lib.hid hrow6
  have HGR6 := Lib.hid hgr6
  clear hbu6 hrow6 hgr6
  have hW05 : B ≤ W0.heap.size := by have := ES.out; omega
  have hB5s : B ≤ W5.heap.size := Nat.le_trans hW05 HB5.out.size
  have HB6 : Hid (Below B w w6) := Lib.hid ((HBW.out.trans (HB5.out.mono hW05)).grown HGR6.out hB5s (fun k e => by cases e; exact Nat.le_refl _))
  have HS6 : Hid (B ≤ w6.heap.size) := Lib.hid (Nat.le_trans hB5s HGR6.out.size)
  clear hW05 hB5s
  have C2 := Lib.hid (ck_line B 73 v6 (.slice none 0 0) _ [] w6 HBU6.out HROW6.out (brows_none _) (fun p hp => by cases hp) (by decide) (by simp))
  go_wp2_with fail
  refine C2.out.mono ?_
  rintro e w8 ⟨rfl, v8, hbu8, hrow8, hgr8⟩
  have c8 := hbu8.cell
  have HROW8 := Lib.hid hrow8
  have HGR8 := Lib.hid hgr8
  clear hbu8 hrow8 hgr8
  go_wp2
  go_ret
  rw [EB.out]
  exact ⟨_, rfl, HROW8.out, HB6.out.grown HGR8.out HS6.out (fun k e => by cases e; exact Nat.le_refl _)⟩
end Go.Proofs.YtaekcmoogobbjaaDoor

/- Law 16's works: the chapter's rows. -/
namespace Go.Proofs.YtaekcmoogobbjaaDoor
set_option linter.unusedVariables false
set_option linter.unusedSimpArgs false
open Go.RowKit Go.Shelf
set_option maxHeartbeats 2000000
/-- a literal of bytes, marked -/
theorem brow_lit (w : World) (C : Array Value) (fr : Nat × Nat) (l : List UInt8) (n : Nat) (hn : n = l.length) (h : ∀ j, j < l.length → C[j]? = some (by8 (l.getD j 0))) :
    BRow (w.alloc (.cells C 5 fr)) (.slice (some ⟨w.heap.size, 0, none⟩) n n) l := by
  subst hn
  refine ⟨_, l.length, rfl, Nat.le_refl _, .inr ⟨w.heap.size, 0, rfl, fun j hj => ?_⟩⟩
  rw [Nat.zero_add, World.cell?_alloc_mark]
  exact h j hj
theorem enc_abc : enc [97, 98, 99] = [51, 13, 10, 97, 98, 99, 13, 10] := by
  unfold enc
  rw [if_neg (by decide)]
  rw [show Dp.digs 16 ([97, 98, 99] : List UInt8).length = [51] from by rw [Dp.digs_lt (by decide)]; rfl]
  rfl
theorem sz_3 : szI 3 = 8 := by
  unfold szI
  rw [if_neg (by decide), show (3 : Int).toNat = 3 from rfl, Dp.digs_lt (by decide)]
  rfl
theorem sz_16 : szI 16 = 22 := by
  unfold szI
  rw [if_neg (by decide), show (16 : Int).toNat = 16 from rfl, Dp.digs_ge (by decide) (by decide), Dp.digs_lt (by decide)]
  rfl
end Go.Proofs.YtaekcmoogobbjaaDoor

/- Slices of bytes that come in; an append of bytes that may be nil. -/
namespace Go.Proofs.YtaekcmoogobbjaaDoor
set_option linter.unusedVariables false
set_option linter.unusedSimpArgs false
open Go.RowKit Go.Shelf
set_option maxHeartbeats 2000000
theorem okWide_spot {P : Program} {w : World} {r : Reach} {base : Nat} {t e : TypeId} {a : Option Addr} {len cap : Nat} (ht : P.underlying t = some (.slice e)) (h : Value.okWide P w r base t (.slice a len cap)) : ∀ x, a = some x → x.spot = none := by
  rintro x rfl
  simp only [Value.okWide, ht, Cell.okWide, Cell.ok] at h
  exact h.2.2.2.1
/-- a slice of bytes that came in -/
def IsBytes (k : IntKind) (w : World) (a : Option Addr) (len cap : Nat) (zs : List Int) : Prop :=
  (a = none ∧ len = 0 ∧ cap = 0 ∧ zs = []) ∨
  ∃ x, a = some x ∧ x.spot = none ∧ len ≤ cap ∧ cap ≤ maxLen ∧ zs.length = cap ∧ (∀ i, i < zs.length → w.cell? (x.add i) = some (.int k (zs.getD i 0))) ∧ ∀ n ∈ zs, (Lit.int k n).wf = true
theorem IsBytes.brow {w : World} {a : Option Addr} {len cap : Nat} {zs : List Int} (h : IsBytes .u8 w a len cap zs) : ∃ l, BRow w (.slice a len cap) l ∧ l.length = len := by
  rcases h with ⟨rfl, rfl, rfl, rfl⟩ | ⟨x, rfl, hs, hl, hm, hz, hc, hw⟩
  · exact ⟨[], BRow.nil w, rfl⟩
  · obtain ⟨b, off, spot⟩ := x
    obtain rfl : spot = none := hs
    have hll : ((zs.take len).map (fun z => UInt8.ofNat z.toNat)).length = len := by rw [List.length_map, List.length_take]; omega
    refine ⟨(zs.take len).map (fun z => UInt8.ofNat z.toNat), ⟨some ⟨b, off, none⟩, cap, by rw [hll], by rw [hll]; exact hl, .inr ⟨b, off, rfl, fun j hj => ?_⟩⟩, hll⟩
    rw [hll] at hj
    have h1 := hc j (by omega)
    rw [Lib.add_plain] at h1
    rw [h1]
    have h2 : zs[j]? = some (zs.getD j 0) := by
      rw [List.getD_eq_getElem?_getD, List.getElem?_eq_getElem (by omega)]; rfl
    have h3 := hw _ (List.mem_of_getElem? h2)
    have h4 : 0 ≤ zs.getD j 0 ∧ zs.getD j 0 ≤ 255 := by simpa [Lit.wf, IntKind.min, IntKind.max, IntKind.signed, IntKind.bits] using h3
    have h5 : ((zs.take len).map (fun z => UInt8.ofNat z.toNat)).getD j 0 = UInt8.ofNat (zs.getD j 0).toNat := by
      rw [List.getD_eq_getElem?_getD, List.getElem?_map, List.getElem?_take_of_lt hj, h2]; rfl
    rw [h5]
    unfold by8
    congr 2
    rw [UInt8.toNat_ofNat']
    omega
theorem wpList_append_brow (w : World) {ops : Array Oper} {rest : List Oper} {o : Oper} {a : Act} {Q : Exit → Act → World → Prop} (hgd : o.guard = none) (s x : Operand)
    (ho : o.op = .call { callee := .builtin .append, args := #[s, x], argTypes := #[22, 22] })
    (base : Nat) (v : Value) (n : Nat) (xs : List Value) (hs : a.eval s = v) (hown : w.ownsRow base 5 1 v n xs)
    (xv : Value) (l : List UInt8) (hx : a.eval x = xv) (hb : BRow w xv l) (h63 : n + l.length ≤ 1000000) (hbase : base ≤ w.heap.size)
    (h : ∀ v' w', w'.ownsRow base 5 1 v' (n + l.length) (xs ++ l.map by8) → w.grownBy w' v.ownBlock → wpList Tryd.prog ops Q rest (a.put o.dst v') w') : wpList Tryd.prog ops Q (o :: rest) a w := by
  obtain ⟨i0, hi, hz0, hz1, hz2⟩ := info_parts info8
  obtain ⟨ao, cp, rfl, hc, hd⟩ := hb
  rcases hd with ⟨rfl, rfl, rfl⟩ | ⟨g, o2, rfl, hd⟩
  · exact wpList_append_own_none hgd s x 22 ho base 5 i0 1 Tryd.underlying22 hi v n xs hs hown hx (h v w (by simpa using hown) (grownBy_refl w))
  · refine wpList_append_own w hgd s x 22 ho base 5 i0 (.int .u8 0) 1 1 Tryd.underlying22 hi hz0 hz1 hz2 rfl (by decide) v n xs hs hown ⟨g, o2, none⟩ l.length cp (l.map by8) hx (by simp) (fun i u hu => BRow.news hd i u hu) (fun u hu => by8_one u l hu) (by unfold maxLen; omega) (by omega) hbase (fun v' w' h1 h2 _ => h v' w' h1 h2)
theorem own_head {w : World} {base n : Nat} {g cap : Nat} {l r : List UInt8} (h : w.ownsRow base 5 1 (.slice (some ⟨g, 0, none⟩) n cap) n ((l ++ r).map by8)) : l.length ≤ cap ∧ BRow w (.slice (some ⟨g, 0, none⟩) l.length cap) l ∧ (∀ x r', r = x :: r' → l.length + 1 ≤ cap ∧ w.cell? ⟨g, l.length, none⟩ = some (by8 x)) := by
  have hn : n = l.length + r.length := by have := h.1; simp at this; omega
  have hcap : n ≤ cap := by
    rcases h.2 with ⟨h0, _⟩ | ⟨g', cap', cur, e, _, _, h1, _⟩
    · cases h0
    · cases e; exact h1
  have hc := h.cells (g := g) rfl
  refine ⟨by omega, ⟨_, cap, rfl, by omega, .inr ⟨g, 0, rfl, fun j hj => ?_⟩⟩, fun x r' hr => ⟨by subst hr; simp at hn; omega, ?_⟩⟩
  · have h1 := hc j (by8 (l.getD j 0)) (by
      rw [List.getElem?_map, List.getElem?_append_left hj, List.getD_eq_getElem?_getD, List.getElem?_eq_getElem hj]; rfl)
    rw [Lib.add_plain] at h1
    exact h1
  · have h1 := hc l.length (by8 x) (by
      rw [hr, List.getElem?_map, List.getElem?_append_right (Nat.le_refl _), Nat.sub_self]; rfl)
    rw [Lib.add_plain, Nat.zero_add] at h1
    exact h1
theorem brows_two {w : World} {x y : Value} {l r : List UInt8} {B : Nat} (h : BRow w x l) (k : BRow w y r) (hB : B = w.heap.size) : BRows (w.alloc (.cells #[x, y] 22)) (.slice (some ⟨B, 0, none⟩) 2 2) [l, r] := by
  subst hB
  refine ⟨_, 2, rfl, Nat.le_refl _, .inr ⟨w.heap.size, 0, rfl, fun j hj => ?_⟩⟩
  rw [Nat.zero_add, World.cell?_alloc_new]
  match j, hj with
  | 0, _ => exact ⟨x, rfl, h.below ((Below.refl _ w).alloc (Nat.le_refl _) _)⟩
  | 1, _ => exact ⟨y, rfl, k.below ((Below.refl _ w).alloc (Nat.le_refl _) _)⟩
  | n + 2, h => exact absurd h (by simp)
theorem sz_enc (l : List UInt8) : szI (l.length : Int) = ((enc l).length : Int) := by
  unfold szI enc
  by_cases h : l = []
  · subst h; rfl
  · have h1 : 0 < l.length := List.length_pos_iff.2 h
    rw [if_neg (by omega), if_neg h, Int.toNat_natCast]
    simp only [List.length_append, List.length_cons, List.length_nil]
    omega
end Go.Proofs.YtaekcmoogobbjaaDoor

/- DechunkHolds returns true for any number and any two slices of bytes: the walk. -/
namespace Go.Proofs.YtaekcmoogobbjaaDoor
set_option linter.unusedVariables false
set_option linter.unusedSimpArgs false
open Go.RowKit Go.Shelf
set_option maxHeartbeats 8000000
set_option maxRecDepth 100000
theorem brow_mid {W : World} {g o n cap : Nat} {l : List UInt8} (h : BRow W (.slice (some ⟨g, o, none⟩) n cap) l) (i e c : Nat) (he : i + e ≤ n) (hc : e ≤ c) : BRow W (.slice (some ⟨g, o + i, none⟩) e c) ((l.drop i).take e) := by
  obtain ⟨ao, cap', h1, h2, h3⟩ := h
  cases h1
  have hlen : ((l.drop i).take e).length = e := by rw [List.length_take, List.length_drop]; omega
  refine ⟨_, c, by rw [hlen], by rw [hlen]; exact hc, .inr ⟨g, o + i, rfl, fun j hj => ?_⟩⟩
  rw [hlen] at hj
  rcases h3 with ⟨h4, _⟩ | ⟨g2, o2, h4, h5⟩
  · cases h4
  · cases h4
    have h6 := h5 (i + j) (by omega)
    rw [← Nat.add_assoc] at h6
    rw [h6]
    congr 2
    rw [List.getD_eq_getElem?_getD, List.getD_eq_getElem?_getD, List.getElem?_take_of_lt hj, List.getElem?_drop]
theorem dnew_no8 {w : World} {D cap j n : Nat} (h : DNew w D cap) : w.cell? ⟨D, j, none⟩ ≠ some (by8 n.toUInt8) := by
  intro e
  unfold DNew dcC at h
  have h2 : w.cell? ⟨D, j, none⟩ = (#[.int .i64 cap, .slice none 0 0, .bool Dn.start.cr, .int .i64 Dn.start.pt, .int .i64 Dn.start.left, .int .i64 Dn.start.many, .slice none 0 0, .slice none 0 0, .slice none 0 0, .int .i64 Dn.start.why] : Array Value)[j]? := by
    simp [World.cell?, h]
  rw [h2] at e
  match j with
  | 0 | 1 | 2 | 3 | 4 | 5 | 6 | 7 | 8 | 9 => cases e
  | j + 10 => simp at e
/-- a row of bytes, where all blocks stand as they stood but a new decoder's -/
theorem brow_keep {w2 wr : World} {D cap : Nat} {v : Value} {l : List UInt8} (hD : DNew w2 D cap) (hk : ∀ k o, k ≠ D → w2.heap[k]? = some o → wr.heap[k]? = some o) (h : BRow w2 v l) : BRow wr v l := by
  obtain ⟨p, c, rfl, hc, hd⟩ := h
  refine ⟨p, c, rfl, hc, hd.imp id ?_⟩
  rintro ⟨g, o, rfl, h⟩
  refine ⟨g, o, rfl, fun j hj => ?_⟩
  have h1 := h j hj
  by_cases hg : g = D
  · subst hg
    exfalso
    refine dnew_no8 (n := (l.getD j 0).toNat) hD (j := o + j) ?_
    rw [h1]
    simp [Nat.toUInt8]
  · have hlt := lt_of_cell h1
    have h2 : w2.heap[g]? = some w2.heap[g] := Array.getElem?_eq_getElem hlt
    exact (World.cell?_of_block (w := w2) (a := ⟨g, o + j, none⟩) ((hk g _ hg h2).trans h2.symm)).trans h1
@[reducible] def gstOf (w2 : World) (D : Nat) : Gst := ⟨fun k => if k = D then none else w2.heap[k]?⟩
theorem gst_dd {w2 : World} {D cap : Nat} (h : DNew w2 D cap) : @DD (gstOf w2 D) w2 D cap Dn.start :=
  @DNew.dd (gstOf w2 D) w2 D cap h (fun k o h => by
    change (if k = D then none else w2.heap[k]?) = some o at h
    by_cases e : k = D
    · rw [if_pos e] at h; cases h
    · rw [if_neg e] at h; exact ⟨h, e⟩)
theorem gst_keep {w2 wr : World} {D cap : Nat} {s : Dn.St} (h : @DD (gstOf w2 D) wr D cap s) (k : Nat) (o : Obj) (hk : k ≠ D) (ho : w2.heap[k]? = some o) : wr.heap[k]? = some o := by
  letI := gstOf w2 D
  obtain ⟨vt, vo, ve, vu, hd⟩ := h
  obtain ⟨xs, _, hg⟩ := hd.re
  refine (hg.gd k o ?_).1
  show (if k = D then none else w2.heap[k]?) = some o
  rw [if_neg hk]; exact ho
theorem of_any {p : Dn.St × Nat} {w : World} {e : Ending} (h : ofOut p w e) : ∃ px nx cx, ∃ n f : Nat, e = .returned (.tuple #[.slice px nx cx, .int .i64 n, .int .i64 f]) ∧ (p.1.why ≠ 0 → f = p.1.why) ∧ (p.1.why = 0 → p.1.pt ≠ 5 → f = 202) ∧ (p.1.why = 0 → p.1.pt = 5 → f = 0 ∧ n = p.2 ∧ BRow w (.slice px nx cx) p.1.out) := by
  unfold ofOut at h
  split at h
  · rename_i h1
    exact ⟨_, _, _, 0, p.1.why, h, fun _ => rfl, fun h2 => absurd h2 h1, fun h2 => absurd h2 h1⟩
  · rename_i h1
    split at h
    · rename_i h3
      exact ⟨_, _, _, 0, 202, h, fun h2 => absurd h2 h1, fun _ _ => rfl, fun _ h4 => absurd h4 h3⟩
    · rename_i h3
      obtain ⟨r, h4, h5⟩ := h
      obtain ⟨q, n, c, rfl⟩ : ∃ q n c, r = .slice q n c := by obtain ⟨q, c, rfl, _⟩ := h5; exact ⟨_, _, _, rfl⟩
      exact ⟨_, _, _, p.2, 0, h4, fun h2 => absurd h2 h1, fun _ h6 => absurd h6 h3, fun _ _ => ⟨rfl, rfl, h5⟩⟩
theorem walkDH (line : Int) (a : Option Addr) (la ca : Nat) (za : List Int) (b : Option Addr) (lb cb : Nat) (zb : List Int) (w : World) (hl : (Lit.int .i64 line).wf = true) (ha : IsBytes .u8 w a la ca za) (hb : IsBytes .u8 w b lb cb zb) :
    Calls Tryd.prog 3 #[.int .i64 line, .slice a la ca, .slice b lb cb] w fun e w' => e = .returned (.bool true) ∧ Below w.heap.size w w' := by
  have WK := Lib.hid (fun W => dl_works W)
  have HN := Lib.hid dl_num
  obtain ⟨A, hA, hAl⟩ := ha.brow
  obtain ⟨C, hC, hCl⟩ := hb.brow
  have HA := Lib.hid hA
  have HC := Lib.hid hC
  have HAL := Lib.hid hAl
  have HCL := Lib.hid hCl
  have hlb : lb ≤ 9223372036854775807 := by
    rcases hb with ⟨_, rfl, _⟩ | ⟨_, _, _, h1, h2, _⟩
    · omega
    · unfold maxLen at h2; omega
  clear ha hb hl hA hC hAl hCl
  by_cases hla : la ≤ 400
  · by_cases hcap : line < 1 ∨ 8192 < line
    · have K1 := Lib.hid (dc_New_no line w hcap)
      have K2 := Lib.hid (dc_Of_no line (.slice a la ca) w hcap)
      clear hcap
      go_enter Tryd.func3, Tryd.ntmps3
      go_wp2_with fail
      refine K1.out.mono ?_
      rintro e w1 ⟨rfl, hw⟩
      rw [hw]
      clear hw w1
      go_wp2_with fail
      refine K2.out.mono ?_
      rintro e w1 ⟨rfl, hw⟩
      rw [hw]
      clear hw w1
      go_wp2_with fail
      refine (HN.out _ _).mono ?_
      rintro e w1 ⟨rfl, hw⟩
      rw [hw]
      clear hw w1
      go_wp2_with fail
      refine (HN.out _ _).mono ?_
      rintro e w1 ⟨rfl, hw⟩
      rw [hw]
      clear hw w1
      go_wp2_with fail
      refine (HN.out _ _).mono ?_
      rintro e w1 ⟨rfl, hw⟩
      rw [hw]
      clear hw w1
      go_wp2_with fail
      refine (WK.out _).mono ?_
      rintro e w1 ⟨rfl, hb1⟩
      go_wp2_with fail
      go_ret
      exact ⟨rfl, hb1⟩
    · obtain ⟨cap, rfl⟩ : ∃ c : Nat, line = c := ⟨line.toNat, by omega⟩
      have h1 : 1 ≤ cap := by omega
      have h2 : cap ≤ 8192 := by omega
      have HC1 := Lib.hid h1
      have HC2 := Lib.hid h2
      have K1 := Lib.hid (dc_New cap w h1 h2)
      have K2 := Lib.hid (fun W (h : Below w.heap.size w W) => dc_Of cap A (.slice a la ca) W h1 h2 (HA.out.below h) (by have := HAL.out; omega))
      obtain ⟨D, hD⟩ : ∃ z, w.heap.size = z := ⟨_, rfl⟩
      have HD := Lib.hid hD
      clear hcap h1 h2
      go_enter Tryd.func3, Tryd.ntmps3
      go_wp2_with fail
      refine K1.out.mono ?_
      rintro e w1 ⟨rfl, hdn, hb1⟩
      rw [hD] at hdn ⊢
      have HB1 := Lib.hid hb1
      have HDN1 := Lib.hid hdn
      clear hdn hb1 hD K1
      go_wp2_with fail
      refine (K2.out w1 HB1.out).mono ?_
      rintro e w2 ⟨ho, hb2⟩
      obtain ⟨px, nx, cx, n, f, rfl, hf1, hf2, hf3⟩ := of_any ho
      have HDN2 := Lib.hid (HDN1.out.below hb2)
      have HB2 := Lib.hid (HB1.out.trans (hb2.mono HB1.out.size))
      have HF1 := Lib.hid hf1
      have HF2 := Lib.hid hf2
      have HF3 := Lib.hid hf3
      clear ho hf1 hf2 hf3 hb2 K2
      obtain ⟨G, hG⟩ : ∃ z : Gst, gstOf w2 D = z := ⟨_, rfl⟩
      have HDD := Lib.hid (gst_dd HDN2.out)
      have KG := Lib.hid (fun wr s (h : @DD (gstOf w2 D) wr D cap s) => gst_keep h)
      rw [hG] at HDD KG
      clear hG
      go_wp2_with fail
      refine (HN.out _ _).mono ?_
      rintro e w3 ⟨rfl, hw⟩
      rw [hw]
      clear hw w3
      go_wp2_with fail
      go_loopw [12, 13, 14, 15, 16, 17] (fun at_ us dn wy st i wr => ∃ k j : Nat, k ≤ la ∧ j ≤ 5001 ∧ at_ = .int .i64 k ∧ i = .int .i64 j ∧ us = .int .i64 (Dn.upto cap A k).2 ∧ dn = .bool (decide ((Dn.upto cap A k).1.pt = 5)) ∧ wy = .int .i64 (Dn.upto cap A k).1.why ∧ st = .string ⟨(Dn.upto cap A k).1.out.toArray⟩ ∧ (∃ o, DD wr D cap (Dn.setO (Dn.upto cap A k).1 o)) ∧ Below w.heap.size w wr) (fun _ _ _ _ _ i _ => 5001 - (intOf i).toNat)
      case atStart => exact ⟨0, 0, Nat.zero_le _, by omega, rfl, rfl, rfl, rfl, rfl, rfl, ⟨[], HDD.out⟩, HB2.out⟩
      case round =>
        obtain ⟨k, j, hk, hj, rfl, rfl, rfl, rfl, rfl, rfl, hdd, hbl⟩ := hrel
        have HDK := Lib.hid hdd
        have HBL := Lib.hid hbl
        obtain ⟨⟨S, U⟩, hSU⟩ : ∃ z, Dn.upto cap A k = z := ⟨_, rfl⟩
        have HSU := Lib.hid hSU
        rw [hSU] at HDK ⊢
        obtain ⟨sb, hsb⟩ : ∃ z : ByteArray, (⟨S.out.toArray⟩ : ByteArray) = z := ⟨_, rfl⟩
        obtain ⟨b5, hb5⟩ : ∃ z, decide (S.pt = 5) = z := ⟨_, rfl⟩
        have HSB := Lib.hid hsb
        have HB5 := Lib.hid hb5
        simp only
        rw [hsb, hb5]
        clear hdd hbl hSU hsb hb5
        by_cases hgo : k < la ∧ j ≤ 5000
        · obtain ⟨hka, hj5⟩ := hgo
          have hkI : (k : Int) < (la : Int) := by omega
          have hjI : (j : Int) ≤ 5000 := by omega
          go_upto_if 63 with (fail)
          go_cut [18] from 50 to 127 (fun s18 wx => wx = wr ∧ ∃ q : Nat, s18 = .int .i64 q ∧ q ≤ la - k ∧ q ≤ 9)
          case first =>
            by_cases hjb : j < lb
            · obtain ⟨g, o, rfl, hcel⟩ : ∃ g o, b = some ⟨g, o, none⟩ ∧ ∀ i, i < C.length → wr.cell? ⟨g, o + i, none⟩ = some (by8 (C.getD i 0)) := by
                obtain ⟨p, c, h1, _, h2⟩ := HC.out.below HBL.out
                cases h1
                rcases h2 with ⟨_, h, _⟩ | ⟨g, o, h, h3⟩
                · have := HCL.out; rw [h] at this; simp at this; omega
                · exact ⟨g, o, h, h3⟩
              have hcx := hcel j (by rw [HCL.out]; exact hjb)
              obtain ⟨x, hx⟩ : ∃ x : Int, ((C.getD j 0).toNat : Int) = x := ⟨_, rfl⟩
              have hx0 : 0 ≤ x := by omega
              have hx1 : x ≤ 255 := by have := UInt8.toNat_lt (C.getD j 0); omega
              rw [show by8 (C.getD j 0) = .int .u8 x by unfold by8; rw [hx]] at hcx
              have hjbI : (j : Int) < (lb : Int) := by omega
              clear hx hcel
              go_wp2_with fail
              go_meet
              case rel => exact ⟨rfl, (min (x % 9) ((la : Int) - k)).toNat, by rw [Int.toNat_of_nonneg (by omega)], by omega, by omega⟩
            · have hjbI : ¬ (j : Int) < (lb : Int) := by omega
              go_wp2_with fail
              go_meet
              case rel => exact ⟨rfl, 1, rfl, by omega, by omega⟩
          case rest =>
            obtain ⟨hwc, q, rfl, hq, hq9⟩ := hcut
            rw [hwc]
            clear hwc wc
            obtain ⟨ga, oa, rfl, hlc⟩ : ∃ ga oa, a = some ⟨ga, oa, none⟩ ∧ la ≤ ca := by
              obtain ⟨p, c, h1, h2, h3⟩ := HA.out
              cases h1
              rcases h3 with ⟨_, h, _⟩ | ⟨g, o, h, _⟩
              · have := HAL.out; rw [h] at this; simp at this; omega
              · exact ⟨g, o, h, by rw [← HAL.out]; exact h2⟩
            obtain ⟨o, hdo⟩ := HDK.out
            obtain ⟨⟨s1, m1⟩, hP⟩ : ∃ z, Dn.write cap ((A.drop k).take q) (Dn.setO S []) 0 = z := ⟨_, rfl⟩
            have hok : Dn.Ok cap k (Dn.setO S []) := by
              have h := Dn.upto_ok cap A k
              rw [HSU.out] at h
              exact h.setO [] (Nat.zero_le _)
            have hpl : ((A.drop k).take q).length = q := by rw [List.length_take, List.length_drop, HAL.out]; omega
            have KW := dc_Write D cap k ((A.drop k).take q) (.slice (some ⟨ga, oa + k, none⟩) q (ca - k)) (Dn.setO S o) wr hdo (fun W hW => brow_mid (HA.out.below (HBL.out.trans (HD.out.symm ▸ hW))) k q _ (by omega) (by omega)) hok HC1.out HC2.out (by rw [hpl]; omega)
            rw [show ({ Dn.setO S o with out := [] } : Dn.St) = Dn.setO S [] from rfl, hP] at KW
            unfold wrOut at KW
            simp only at KW
            have KW := Lib.hid KW
            have HNX := Lib.hid (show Dn.upto cap A (k + q) = (Dn.setO s1 (S.out ++ s1.out), U + m1) by
              have h := Dn.upto_next cap A k q
              rw [HSU.out] at h
              simp only at h
              rw [hP] at h
              exact h)
            have hm1 : m1 ≤ q := by
              have h := (Dn.write_le cap ((A.drop k).take q) (Dn.setO S []) 0).2.1
              rw [hP, hpl] at h; simpa using h
            have HST := Lib.hid (show m1 < q → Dn.stopped s1 from fun hlt => by
              have h := (Dn.write_le cap ((A.drop k).take q) (Dn.setO S []) 0).2.2
              rw [hP, hpl] at h
              exact h (by simpa using hlt))
            have hol : s1.out.length ≤ m1 := by
              have h := (Dn.write_len cap ((A.drop k).take q) (Dn.setO S []) 0).1
              rw [hP] at h
              simpa [Dn.setO] using h
            have hU : U ≤ k := by
              have h := (Dn.write_le cap (A.take k) Dn.start 0).2.1
              have h2 : Dn.write cap (A.take k) Dn.start 0 = (S, U) := HSU.out
              rw [h2, List.length_take] at h
              omega
            have hwy : s1.why ≤ 300 := by
              have h := Dn.write_ok cap ((A.drop k).take q) (Dn.setO S []) 0 k hok
              rw [hP] at h
              exact h.why
            have hsbl : sb.size ≤ k := by
              have h := hok.out
              have h2 := Dn.upto_ok cap A k
              rw [HSU.out] at h2
              have h3 := h2.out
              rw [← HSB.out]
              exact h3
            clear hdo hok hP hpl
            go_wp2_with fail
            refine KW.out.mono ?_
            rintro e w5 ⟨⟨r, rfl, hr⟩, hdd5, hbd⟩
            obtain ⟨ny, hny⟩ : ∃ z, s1.out.length = z := ⟨_, rfl⟩
            obtain ⟨py, cy, rfl⟩ : ∃ q c, r = .slice q ny c := by obtain ⟨q, c, rfl, _⟩ := hr; exact ⟨_, _, by rw [hny]⟩
            have HR5 := Lib.hid hr
            have HD5 := Lib.hid hdd5
            have HB5 := Lib.hid (HBL.out.trans (HD.out.symm ▸ hbd))
            rw [hny] at hol
            have HNY := Lib.hid hny
            obtain ⟨bs, hbs⟩ : ∃ z, decide (s1.pt = 5) = z := ⟨_, rfl⟩
            obtain ⟨wy, hwye⟩ : ∃ z, s1.why = z := ⟨_, rfl⟩
            have HBS := Lib.hid hbs
            have HWY := Lib.hid hwye
            have HSP := Lib.hid (show m1 < q → bs = true ∨ wy ≠ 0 from fun hlt => (HST.out hlt).imp (fun h => by rw [← hbs]; exact decide_eq_true h) (fun h => by rw [← hwye]; exact h))
            rw [hwye] at hwy
            rw [hbs, hwye]
            clear hr hdd5 hbd hny hbs hwye KW HST
            go_upto_region 16 with (fail)
            go_cut [114] from 50 to 127 (fun s114 wx => wx = w5 ∧ s114 = .bool false)
            case first =>
              have e0 : ¬ ((m1 : Int) < 0) := by omega
              have e1 : ¬ ((q : Int) < (m1 : Int)) := by omega
              have e2 : ¬ ((m1 : Int) < (ny : Int)) := by omega
              have d0 : decide ((m1 : Int) < 0) = false := decide_eq_false e0
              have d1 : decide ((q : Int) < (m1 : Int)) = false := decide_eq_false e1
              have d2 : decide ((m1 : Int) < (ny : Int)) = false := decide_eq_false e2
              by_cases hlt : m1 < q
              · have e3 : (m1 : Int) < (q : Int) := by omega
                have d3 : decide ((m1 : Int) < (q : Int)) = true := decide_eq_true e3
                cases bs with
                | true =>
                  go_wp2_with fail
                  go_meet
                  case rel => exact ⟨rfl, rfl⟩
                | false =>
                  have hw0 : wy ≠ 0 := (HSP.out hlt).resolve_left (by simp)
                  have hwb : ((wy : Int) == 0) = false := beq_eq_false_iff_ne.2 (by omega)
                  go_wp2_with fail
                  refine (HN.out _ _).mono ?_
                  rintro e w6 ⟨rfl, hw⟩
                  rw [hw]
                  clear hw w6
                  go_wp2_with fail
                  go_meet
                  case rel => exact ⟨rfl, congrArg Value.bool (decide_eq_false (by omega))⟩
              · have e3 : ¬ ((m1 : Int) < (q : Int)) := by omega
                have d3 : decide ((m1 : Int) < (q : Int)) = false := decide_eq_false e3
                go_wp2_with fail
                go_meet
                case rel => exact ⟨rfl, rfl⟩
            case rest =>
              obtain ⟨hwc, rfl⟩ := hcut
              rw [hwc]
              clear hwc wc
              have hcv : ∀ i, (convert 22 9 (.slice py ny cy)).run Tryd.prog (w5.drewN i) = .ok (.string ⟨s1.out.toArray⟩) (w5.drewN i) := fun i => by
                have h := conv_brow (w := w5.drewN i) (HR5.out.below ⟨rfl, rfl, rfl, Nat.le_refl _, fun _ _ => rfl⟩)
                exact h
              obtain ⟨so, hso⟩ : ∃ z : ByteArray, (⟨s1.out.toArray⟩ : ByteArray) = z := ⟨_, rfl⟩
              have HSO := Lib.hid hso
              have hsol : so.size = ny := by rw [← hso, ← HNY.out]; rfl
              rw [hso] at hcv
              have HUW := Lib.hid (show IntKind.i64.wrap ((U : Int) + (m1 : Int)) = ((U + m1 : Nat) : Int) by rw [IntKind.wrap_i64]; omega)
              clear hso
              go_wp2_with fail
              go_quiet ((go_at_call 8; exact Calls.quiet_of_same (HN.out _ _)))
              go_wp2_with fail
              go_roundw
              case rel =>
                refine ⟨k + q, j + 1, by omega, by omega, by go_num, by go_num, ?_, ?_, ?_, ?_, ?_, ?_⟩
                · rw [HNX.out]; go_num
                · rw [HNX.out, ← HBS.out]; rfl
                · rw [HNX.out, ← HWY.out]; rfl
                · rw [HNX.out, ← HSB.out, ← HSO.out]
                  refine congrArg Value.string ?_
                  apply ByteArray.ext
                  simp [Dn.setO]
                · rw [HNX.out]
                  exact ⟨s1.out, HD5.out.below ⟨rfl, rfl, rfl, Nat.le_refl _, fun _ _ => rfl⟩⟩
                · exact below_drewN HB5.out _
              case measure => simp [intOf]; omega
        · by_cases hka : k < la
          · have hkI : (k : Int) < (la : Int) := by omega
            have hjI : ¬ (j : Int) ≤ 5000 := by omega
            go_wp2_with fail
            refine (WK.out _).mono ?_
            rintro e w6 ⟨rfl, hb6⟩
            have HB6 := Lib.hid (HBL.out.trans (hb6.mono HBL.out.size))
            clear hb6
            go_wp2_with fail
            go_ret
            exact ⟨rfl, HB6.out⟩
          · obtain rfl : k = la := by omega
            obtain ⟨o, hdo⟩ := HDK.out
            have hWR : Dn.write cap A Dn.start 0 = (S, U) := by
              have h := HSU.out
              unfold Dn.upto at h
              rwa [List.take_of_length_le (by rw [HAL.out]; exact Nat.le_refl _)] at h
            have hmany : S.many = S.out.length := by
              have h := Dn.upto_many cap A k
              rw [HSU.out] at h
              exact h
            have hfin : S.pt = 5 → S.why = 0 := by
              have h := Dn.upto_ok cap A k
              rw [HSU.out] at h
              exact h.fin
            have hUl : U < k → Dn.stopped S := by
              have h := (Dn.write_le cap A Dn.start 0).2.2
              rw [hWR, HAL.out] at h
              intro h2; exact h (by simpa using h2)
            have hUk : U ≤ k := by
              have h := (Dn.write_le cap A Dn.start 0).2.1
              rw [hWR, HAL.out] at h
              simpa using h
            have hf1 := HF1.out
            have hf2 := HF2.out
            have hf3 := HF3.out
            rw [hWR] at hf1 hf2 hf3
            simp only at hf1 hf2 hf3
            have KL := Lib.hid (dc_Len D cap (Dn.setO S o) wr hdo HC1.out)
            have hsz : (Dn.setO S o).many = sb.size := by rw [← HSB.out]; exact hmany
            rw [hsz] at KL
            have HKP := Lib.hid (fun (l : List UInt8) (h : BRow w2 (.slice px nx cx) l) => brow_keep HDN2.out (fun k o hk ho => KG.out wr _ hdo k o hk ho) h)
            have hg1 : ¬ (k : Int) < (k : Int) := by omega
            clear hdo hWR hmany hsz hgo hka
            by_cases hw : S.why = 0
            · have hwb : ((S.why : Int) != 0) = false := by rw [hw]; rfl
              cases b5 with
              | true =>
                have h5 : S.pt = 5 := of_decide_eq_true HB5.out
                obtain ⟨rfl, rfl, hbr⟩ := hf3 hw h5
                have hcv := conv_brow (HKP.out _ hbr)
                rw [HSB.out] at hcv
                clear hf1 hf2 hf3 hUl hfin hbr
                go_wp2_with fail
                refine KL.out.mono ?_
                rintro e w6 ⟨rfl, hw6⟩
                rw [hw6]
                clear hw6 w6
                go_wp2_with fail
                refine (HN.out _ _).mono ?_
                rintro e w6 ⟨rfl, hw6⟩
                rw [hw6]
                clear hw6 w6
                go_wp2_with fail
                refine (WK.out _).mono ?_
                rintro e w6 ⟨rfl, hb6⟩
                have HB6 := Lib.hid (HBL.out.trans (hb6.mono HBL.out.size))
                clear hb6
                go_wp2_with fail
                go_ret
                exact ⟨rfl, HB6.out⟩
              | false =>
                have h5 : S.pt ≠ 5 := of_decide_eq_false HB5.out
                obtain rfl := hf2 hw h5
                obtain rfl : U = k := by
                  by_cases h : U < k
                  · rcases hUl h with h | h
                    · exact absurd h h5
                    · exact absurd hw h
                  · omega
                clear hf1 hf2 hf3 hUl hfin
                go_wp2_with fail
                refine KL.out.mono ?_
                rintro e w6 ⟨rfl, hw6⟩
                rw [hw6]
                clear hw6 w6
                go_wp2_with fail
                refine (HN.out _ _).mono ?_
                rintro e w6 ⟨rfl, hw6⟩
                rw [hw6]
                clear hw6 w6
                go_wp2_with fail
                refine (WK.out _).mono ?_
                rintro e w6 ⟨rfl, hb6⟩
                have HB6 := Lib.hid (HBL.out.trans (hb6.mono HBL.out.size))
                clear hb6
                go_wp2_with fail
                go_ret
                exact ⟨rfl, HB6.out⟩
            · have hwb : ((S.why : Int) != 0) = true := by simp; omega
              obtain rfl := hf1 hw
              have h5 : b5 = false := by
                rw [← HB5.out]
                exact decide_eq_false (fun h => hw (hfin h))
              subst h5
              clear hf1 hf2 hf3 hUl hfin
              go_wp2_with fail
              refine KL.out.mono ?_
              rintro e w6 ⟨rfl, hw6⟩
              rw [hw6]
              clear hw6 w6
              go_wp2_with fail
              refine (HN.out _ _).mono ?_
              rintro e w6 ⟨rfl, hw6⟩
              rw [hw6]
              clear hw6 w6
              go_wp2_with fail
              refine (WK.out _).mono ?_
              rintro e w6 ⟨rfl, hb6⟩
              have HB6 := Lib.hid (HBL.out.trans (hb6.mono HBL.out.size))
              clear hb6
              go_wp2_with fail
              go_ret
              exact ⟨rfl, HB6.out⟩
  · have hla2 : 400 < la := by omega
    have hlI : (400 : Int) < (la : Int) := by omega
    go_enter Tryd.func3, Tryd.ntmps3
    go_wp2_with fail
    refine (WK.out _).mono ?_
    rintro e w1 ⟨rfl, hb1⟩
    go_wp2_with fail
    go_ret
    exact ⟨rfl, hb1⟩
end Go.Proofs.YtaekcmoogobbjaaDoor
