/- Texts of this claim, one behind the other: ND, NH, LDB. -/
import Derived.Test.YtaekcmoogobbjaaDoorCDBm3
import Derived.Lib.ConvBytes
import Derived.Lib.SlBytesConst
import Derived.Test.YtaekcmoogobbjaaDoorCDBm4
import Derived.Sort.CutIn
import Derived.BigFrameIn
/- law 17: num, works. Printed by genND.py. -/
namespace Go.Proofs.YtaekcmoogobbjaaDoor
set_option linter.unusedVariables false
set_option linter.unusedSimpArgs false
open Go.RowKit Go.Shelf
set_option maxHeartbeats 8000000
set_option maxRecDepth 100000
theorem dl_num (n : Int) (w : World) : Calls Tryd.prog 8 #[.int .i64 n] w fun e w' => e = .returned (.int .i64 n) ∧ w' = w := by
  go_enter Tryd.func8, Tryd.ntmps8
  go_wp2
  go_ret
  exact ⟨rfl, rfl⟩
theorem brow_lit2 (w : World) (C : Array Value) (fr : Nat × Nat) (l : List UInt8) (n : Nat) (hn : n = l.length) (h : ∀ j, j < l.length → C[j]? = some (by8 (l.getD j 0))) :
    BRow (w.alloc (.cells C 5 fr)) (.slice (some ⟨w.heap.size, 0, none⟩) n n) l := by
  subst hn
  refine ⟨_, l.length, rfl, Nat.le_refl _, .inr ⟨w.heap.size, 0, rfl, fun j hj => ?_⟩⟩
  rw [Nat.zero_add, World.cell?_alloc_mark]
  exact h j hj
theorem brow_bytes (w : World) (s : ByteArray) : BRow (Lib.bytesWorld w 5 s) (.slice (some ⟨w.heap.size, 0, none⟩) s.size (grownCap w s.size 0 5)) s.data.toList :=
  ⟨_, _, rfl, grownCap_ge w s.size 0 5, .inr ⟨w.heap.size, 0, rfl, fun j hj => by rw [Nat.zero_add]; exact Lib.bytesWorld_cell w 5 s j hj⟩⟩
theorem of_ok {p : Dn.St × Nat} {w : World} {e : Ending} (h1 : p.1.why = 0) (h2 : p.1.pt = 5) (h : ofOut p w e) : ∃ r, e = .returned (.tuple #[r, .int .i64 p.2, .int .i64 0]) ∧ BRow w r p.1.out := by
  unfold ofOut at h
  rw [if_neg (by omega), if_neg (by omega)] at h
  exact h
theorem of_bad {p : Dn.St × Nat} {w : World} {e : Ending} (n : Nat) (h1 : p.1.why = n) (h2 : n ≠ 0) (h : ofOut p w e) : e = .returned (.tuple #[.slice none 0 0, .int .i64 0, .int .i64 n]) := by
  unfold ofOut at h
  rw [if_pos (by omega)] at h
  rw [h, h1]
theorem of_more {p : Dn.St × Nat} {w : World} {e : Ending} (h1 : p.1.why = 0) (h2 : p.1.pt ≠ 5) (h : ofOut p w e) : e = .returned (.tuple #[.slice none 0 0, .int .i64 0, .int .i64 202]) := by
  unfold ofOut at h
  rw [if_neg (by omega), if_pos h2] at h
  exact h
namespace Dn
def ex1 : List UInt8 := [51, 13, 10, 97, 98, 99, 13, 10, 48, 13, 10, 13, 10, 120]
def ex2 : List UInt8 := [51, 59, 97, 61, 98, 13, 10, 97, 98, 99, 13, 10, 48, 48, 13, 10, 116, 58, 32, 49, 13, 10, 13, 10]
theorem ex1_is : (write 99 ex1 start 0).1.why = 0 ∧ (write 99 ex1 start 0).1.pt = 5 ∧ (write 99 ex1 start 0).1.out = [97, 98, 99] ∧ (write 99 ex1 start 0).2 = 13 := by decide +kernel
theorem ex2_is : (write 99 ex2 start 0).1.why = 0 ∧ (write 99 ex2 start 0).1.pt = 5 ∧ (write 99 ex2 start 0).1.out = [97, 98, 99] := by decide +kernel
theorem ex3_is : (write 99 [51, 13, 10, 97, 98, 99, 100] start 0).1.why = 270 ∧ (write 99 [120, 13, 10] start 0).1.why = 270 ∧ (write 99 [51, 10] start 0).1.why = 270 ∧ (write 99 [49] start 0).1.why = 0 ∧ (write 99 [49] start 0).1.pt ≠ 5 ∧ (write 2 [48, 48, 51] start 0).1.why = 201 := by decide +kernel
end Dn
def dwF (WB k : Nat) (nw : Int) : Nat → World → Value → Prop
  | 0, _, v => v = .int .i64 nw
  | 1, _, v => v = .int .i64 nw
  | 2, _, v => v = .slice (some ⟨WB, 0, none⟩) 4 4
  | 3, _, v => v = .int .i64 k
  | 4, _, v => v = .pointer (some ⟨WB, k, none⟩)
  | 5, _, v => v = .int .i64 nw
  | 6, _, v => v = .bool false
  | _, _, _ => False
theorem ofs_bad (cap : Nat) (l : List UInt8) (v : Value) (w : World) (h1 : 1 ≤ cap) (h2 : cap ≤ 8192) (hb : BRow w v l) (hl : l.length ≤ 100000) (n : Nat) (hw : (Dn.write cap l Dn.start 0).1.why = n) (hn : n ≠ 0) :
    Calls Tryd.prog 7 #[.int .i64 cap, v] w fun e w' => e = .returned (.tuple #[.slice none 0 0, .int .i64 0, .int .i64 n]) ∧ Below w.heap.size w w' :=
  (dc_Of cap l v w h1 h2 hb hl).mono fun e w' h => ⟨of_bad n hw hn h.1, h.2⟩
theorem dl_works (w : World) :
    Calls Tryd.prog 5 #[] w fun e w' => e = .returned (.bool true) ∧ Below w.heap.size w w' := by
  have kc := fun (W : World) (C : Array Value) (n c : Nat) => Lib.run_convert_bytes_const (P := Tryd.prog) W 22 5 C n c Tryd.underlying22 Tryd.underlying5
  have hcv := fun (W : World) (s : ByteArray) => Lib.run_convert_string_bytes (P := Tryd.prog) W 9 22 5 s Tryd.underlying9 Tryd.underlying22 Tryd.underlying5
  have HN := Lib.hid dl_num
  go_enter Tryd.func5, Tryd.ntmps5
  go_wp2_with fail
  refine (dc_Of 99 Dn.ex1 _ _ (by decide) (by decide) (brow_lit2 w _ _ _ _ rfl (fun j hj => by
    match j, hj with
    | 0, _ | 1, _ | 2, _ | 3, _ | 4, _ | 5, _ | 6, _ | 7, _ | 8, _ | 9, _ | 10, _ | 11, _ | 12, _ | 13, _ => rfl
    | n + 14, h => exact absurd h (by simp [Dn.ex1]))) (by decide)).mono ?_
  rintro e w1 ⟨ho, hb1⟩
  obtain ⟨r, rfl, hr⟩ := of_ok Dn.ex1_is.1 Dn.ex1_is.2.1 ho
  rw [Dn.ex1_is.2.2.1] at hr
  rw [Dn.ex1_is.2.2.2]
  have HR1 := Lib.hid hr
  have HB1 := Lib.hid (show Below w.heap.size w w1 from ((Below.refl _ _).alloc (Nat.le_refl _) _).trans (hb1.mono (by simp)))
  obtain ⟨p1, n1, c1, rfl⟩ : ∃ p q c, r = .slice p q c := by obtain ⟨p, c, rfl, _⟩ := hr; exact ⟨_, _, _, rfl⟩
  clear ho hr hb1
  go_wp2_with fail
  refine (dc_Of 99 Dn.ex2 _ _ (by decide) (by decide) (brow_lit2 w1 _ _ _ _ rfl (fun j hj => by
    match j, hj with
    | 0, _ | 1, _ | 2, _ | 3, _ | 4, _ | 5, _ | 6, _ | 7, _ | 8, _ | 9, _ | 10, _ | 11, _ | 12, _ | 13, _ | 14, _ | 15, _ | 16, _ | 17, _ | 18, _ | 19, _ | 20, _ | 21, _ | 22, _ | 23, _ => rfl
    | n + 24, h => exact absurd h (by simp [Dn.ex2]))) (by decide)).mono ?_
  rintro e w2 ⟨ho, hb2⟩
  obtain ⟨r2, rfl, hr2⟩ := of_ok Dn.ex2_is.1 Dn.ex2_is.2.1 ho
  rw [Dn.ex2_is.2.2] at hr2
  obtain ⟨u2, hu2⟩ : ∃ z, (Dn.write 99 Dn.ex2 Dn.start 0).2 = z := ⟨_, rfl⟩
  rw [hu2]
  have hb12 : Below w1.heap.size w1 w2 := ((Below.refl _ _).alloc (Nat.le_refl _) _).trans (hb2.mono (by simp))
  have HR2 := Lib.hid hr2
  have HR1b := Lib.hid (HR1.out.below hb12)
  have HB2 := Lib.hid (HB1.out.trans (hb12.mono HB1.out.size))
  obtain ⟨p2, n2, c2, rfl⟩ : ∃ p q c, r2 = .slice p q c := by obtain ⟨p, c, rfl, _⟩ := hr2; exact ⟨_, _, _, rfl⟩
  clear ho hr2 hb2 hb12 hu2
  go_wp2_with fail
  obtain ⟨LB, hLB⟩ : ∃ z, w2.heap.size = z := ⟨_, rfl⟩
  obtain ⟨W3, hW3⟩ : ∃ Z, (w2.alloc (.cells #[.string ⟨#[51, 13, 10, 97, 98, 99, 100]⟩, .string ⟨#[120, 13, 10]⟩, .string ⟨#[51, 10]⟩, .string ⟨#[49]⟩] 9)).alloc (.cells #[.int .i64 270, .int .i64 270, .int .i64 270, .int .i64 202] 3) = Z := ⟨_, rfl⟩
  rw [hLB, hW3]
  obtain ⟨WB, hWB⟩ : ∃ z, LB + 1 = z := ⟨_, rfl⟩
  rw [hWB]
  have HG1 := Lib.hid (show W3.heap[LB]? = some (.cells #[.string ⟨#[51, 13, 10, 97, 98, 99, 100]⟩, .string ⟨#[120, 13, 10]⟩, .string ⟨#[51, 10]⟩, .string ⟨#[49]⟩] 9 (0, 0)) by
    rw [← hW3, ← hLB, Below.heap_alloc _ _ _ (by simp)]; exact World.alloc_heap_new _ _)
  have HG2 := Lib.hid (show W3.heap[WB]? = some (.cells #[.int .i64 270, .int .i64 270, .int .i64 270, .int .i64 202] 3 (0, 0)) by
    rw [← hW3, ← hWB, ← hLB]
    have h := World.alloc_heap_new (w2.alloc (.cells #[.string ⟨#[51, 13, 10, 97, 98, 99, 100]⟩, .string ⟨#[120, 13, 10]⟩, .string ⟨#[51, 10]⟩, .string ⟨#[49]⟩] 9)) (.cells #[.int .i64 270, .int .i64 270, .int .i64 270, .int .i64 202] 3)
    simpa using h)
  have HB3 := Lib.hid (show Below w2.heap.size w2 W3 by rw [← hW3]; exact ((Below.refl _ _).alloc (Nat.le_refl _) _).alloc (by simp) _)
  clear hLB hW3 hWB
  go_loopw [9] (fun i wr => ∃ k : Nat, k ≤ 4 ∧ i = .int .i64 k ∧ wr.heap[LB]? = some (.cells #[.string ⟨#[51, 13, 10, 97, 98, 99, 100]⟩, .string ⟨#[120, 13, 10]⟩, .string ⟨#[51, 10]⟩, .string ⟨#[49]⟩] 9 (0, 0)) ∧ wr.heap[WB]? = some (.cells #[.int .i64 270, .int .i64 270, .int .i64 270, .int .i64 202] 3 (0, 0)) ∧ Below w2.heap.size w2 wr) (fun i _ => 4 - (intOf i).toNat)
  case atStart => exact ⟨0, by decide, rfl, HG1.out, HG2.out, HB3.out⟩
  case round =>
    obtain ⟨k, hk, rfl, hg1, hg2, hbl⟩ := hrel
    have HBL := Lib.hid hbl
    have HGA := Lib.hid hg1
    have HGB := Lib.hid hg2
    by_cases hlt : k < 4
    · obtain ⟨sk, nw, hcl, hcw, KO0⟩ : ∃ (sk : ByteArray) (nw : Int), wr.cell? ⟨LB, k, none⟩ = some (.string sk) ∧ wr.cell? ⟨WB, k, none⟩ = some (.int .i64 nw) ∧ ∀ W v, BRow W v sk.data.toList → Calls Tryd.prog 7 #[.int .i64 99, v] W fun e w' => e = .returned (.tuple #[.slice none 0 0, .int .i64 0, .int .i64 nw]) ∧ Below W.heap.size W w' := by
        rcases (show k = 0 ∨ k = 1 ∨ k = 2 ∨ k = 3 by omega) with rfl | rfl | rfl | rfl
        · exact ⟨⟨#[51, 13, 10, 97, 98, 99, 100]⟩, 270, by simp [World.cell?, hg1], by simp [World.cell?, hg2], fun W v h => ofs_bad 99 [51, 13, 10, 97, 98, 99, 100] v W (by decide) (by decide) h (by decide) 270 Dn.ex3_is.1 (by decide)⟩
        · exact ⟨⟨#[120, 13, 10]⟩, 270, by simp [World.cell?, hg1], by simp [World.cell?, hg2], fun W v h => ofs_bad 99 [120, 13, 10] v W (by decide) (by decide) h (by decide) 270 Dn.ex3_is.2.1 (by decide)⟩
        · exact ⟨⟨#[51, 10]⟩, 270, by simp [World.cell?, hg1], by simp [World.cell?, hg2], fun W v h => ofs_bad 99 [51, 10] v W (by decide) (by decide) h (by decide) 270 Dn.ex3_is.2.2.1 (by decide)⟩
        · exact ⟨⟨#[49]⟩, 202, by simp [World.cell?, hg1], by simp [World.cell?, hg2], fun W v h => (dc_Of 99 [49] v W (by decide) (by decide) h (by decide)).mono fun e w' h => ⟨of_more Dn.ex3_is.2.2.2.1 Dn.ex3_is.2.2.2.2.1 h.1, h.2⟩⟩
      have KO := Lib.hid KO0
      have HCW := Lib.hid hcw
      clear KO0 hcw hg1 hg2 hbl
      go_wp2_with fail
      refine (KO.out _ _ (brow_bytes wr sk)).mono ?_
      rintro e w5 ⟨rfl, hb5⟩
      have hb0 : Below wr.heap.size wr w5 := (below_bytesWorld wr.heap.size wr 5 sk (Nat.le_refl _)).trans (hb5.mono (by rw [Lib.bytesWorld_size]; omega))
      have HB5 := Lib.hid hb0
      have HCW5 := HCW
      have HGA5 := Lib.hid ((hb0.block LB (Array.getElem?_eq_some_iff.1 HGA.out).1).trans HGA.out)
      have HGB5 := Lib.hid ((hb0.block WB (Array.getElem?_eq_some_iff.1 HGB.out).1).trans HGB.out)
      have HCW := Lib.hid ((hb0.cell (p := ⟨WB, k, none⟩) (lt_of_cell HCW5.out)).trans HCW5.out)
      clear hb5 hb0 hcl
      go_wp2_with fail
      refine region_slotsG (fun i => 46 + min i 6) (dwF WB k nw) (fun _ => true) (by kernel_rfl) (by kernel_rfl) (fun i => by show 46 + min i 6 < _; simp; omega) (fun i j hi hj h => by have hi : i < 7 := hi; have hj : j < 7 := hj; omega) ?mono ?dst ?gu ?ng ?skip ?step ?done
      case mono =>
        intro i W W' v h hbw
        match i, h with
        | 0, h | 1, h | 2, h | 3, h | 4, h | 5, h | 6, h => exact h
        | n + 7, h => exact h.elim
      case dst =>
        intro i o ho
        match i, ho with
        | 0, ho | 1, ho | 2, ho | 3, ho | 4, ho | 5, ho | 6, ho => cases ho; rfl
        | n + 7, ho => exact absurd ho (by simp)
      case gu =>
        intro i o g b ho hgd W v hv
        match i, ho with
        | 0, ho => cases ho; cases hgd
        | 1, ho => cases ho; cases hgd
        | 2, ho => cases ho; cases hgd
        | 3, ho => cases ho; cases hgd
        | 4, ho => cases ho; cases hgd
        | 5, ho => cases ho; cases hgd
        | 6, ho => cases ho; cases hgd
        | n + 7, ho => exact absurd ho (by simp)
      case ng =>
        intro i o ho hgd
        match i, ho with
        | 0, ho => cases ho; first | rfl | cases hgd
        | 1, ho => cases ho; first | rfl | cases hgd
        | 2, ho => cases ho; first | rfl | cases hgd
        | 3, ho => cases ho; first | rfl | cases hgd
        | 4, ho => cases ho; first | rfl | cases hgd
        | 5, ho => cases ho; first | rfl | cases hgd
        | 6, ho => cases ho; first | rfl | cases hgd
        | n + 7, ho => exact absurd ho (by simp)
      case skip =>
        intro i W hi hsel
        match i, hi, hsel with
        | 0, _, hsel => first | exact absurd hsel (by decide) | rfl
        | 1, _, hsel => first | exact absurd hsel (by decide) | rfl
        | 2, _, hsel => first | exact absurd hsel (by decide) | rfl
        | 3, _, hsel => first | exact absurd hsel (by decide) | rfl
        | 4, _, hsel => first | exact absurd hsel (by decide) | rfl
        | 5, _, hsel => first | exact absurd hsel (by decide) | rfl
        | 6, _, hsel => first | exact absurd hsel (by decide) | rfl
        | n + 7, hi, _ => exact absurd hi (by simp)
      case step =>
        intro f a' W i o ho hsel hpre hbel hrest
        match i, ho, hsel with
        | 0, ho, _ =>
          cases ho
          have q12 : a'.tmps.getD 12 undef = .int .i64 nw := (hrest 12 (by intro i hi; have hi : i < 7 := hi; show 46 + min i 6 ≠ _; omega))
          have e12 := rg_ev q12
          exact rg_same (.int .i64 nw) (by unfold Oper.wp execOp; go_simp; all_goals ((try simp only [e12]); (try go_simp); (try rw [if_pos (by omega)]); (try rw [if_neg (by omega)]); first | done | rfl | exact ⟨rfl, rfl⟩ | trivial)) rfl
        | 1, ho, _ =>
          cases ho
          have q46 : a'.tmps.getD 46 undef = .int .i64 nw := (hpre { on := 0, ground := .data } (by simp) rfl)
          exact rg_call 46 8 _ _ _ rfl q46 (enters_of Tryd.func8 (by kernel_rfl) rfl) (dl_num nw W) (fun e w' h => ⟨_, h.1, _, rfl, rfl, by rw [h.2]; exact Below.refl _ _⟩)
        | 2, ho, _ =>
          cases ho
          have q8 : a'.tmps.getD 8 undef = .slice (some ⟨WB, 0, none⟩) 4 4 := (hrest 8 (by intro i hi; have hi : i < 7 := hi; show 46 + min i 6 ≠ _; omega))
          have e8 := rg_ev q8
          exact rg_same (.slice (some ⟨WB, 0, none⟩) 4 4) (by unfold Oper.wp execOp; go_simp; all_goals ((try simp only [e8]); (try go_simp); (try rw [if_pos (by omega)]); (try rw [if_neg (by omega)]); first | done | rfl | exact ⟨rfl, rfl⟩ | trivial)) rfl
        | 3, ho, _ =>
          cases ho
          have q9 : a'.tmps.getD 9 undef = .int .i64 k := (hrest 9 (by intro i hi; have hi : i < 7 := hi; show 46 + min i 6 ≠ _; omega))
          have e9 := rg_ev q9
          exact rg_same (.int .i64 k) (by unfold Oper.wp execOp; go_simp; all_goals ((try simp only [e9]); (try go_simp); (try rw [if_pos (by omega)]); (try rw [if_neg (by omega)]); first | done | rfl | exact ⟨rfl, rfl⟩ | trivial)) rfl
        | 4, ho, _ =>
          cases ho
          have q48 : a'.tmps.getD 48 undef = .slice (some ⟨WB, 0, none⟩) 4 4 := (hpre { on := 2, ground := .data } (by simp) rfl)
          have q49 : a'.tmps.getD 49 undef = .int .i64 k := (hpre { on := 3, ground := .data } (by simp) rfl)
          have e48 := rg_ev q48
          have e49 := rg_ev q49
          exact rg_same (.pointer (some ⟨WB, k, none⟩)) (by unfold Oper.wp execOp; go_simp; all_goals ((try simp only [e48, e49]); (try go_simp); (try rw [if_pos (by omega)]); (try rw [if_neg (by omega)]); first | done | rfl | exact ⟨rfl, rfl⟩ | trivial)) rfl
        | 5, ho, _ =>
          cases ho
          have q50 : a'.tmps.getD 50 undef = .pointer (some ⟨WB, k, none⟩) := (hpre { on := 4, ground := .data } (by simp) rfl)
          have hcw := (hbel.cell (p := ⟨WB, k, none⟩) (lt_of_cell HCW.out)).trans HCW.out
          have e50 := rg_ev q50
          exact rg_same (.int .i64 nw) (by unfold Oper.wp execOp; go_simp; all_goals ((try simp only [e50]); (try go_simp); (try rw [if_pos (by omega)]); (try rw [if_neg (by omega)]); first | done | rfl | exact ⟨rfl, rfl⟩ | trivial)) rfl
        | 6, ho, _ =>
          cases ho
          have q47 : a'.tmps.getD 47 undef = .int .i64 nw := (hpre { on := 1, ground := .data } (by simp) rfl)
          have q51 : a'.tmps.getD 51 undef = .int .i64 nw := (hpre { on := 5, ground := .data } (by simp) rfl)
          have hnn : (nw != nw) = false := by simp
          have e47 := rg_ev q47
          have e51 := rg_ev q51
          exact rg_same (.bool false) (by unfold Oper.wp execOp; go_simp; all_goals ((try simp only [e47, e51]); (try go_simp); (try rw [if_pos (by omega)]); (try rw [if_neg (by omega)]); first | done | rfl | exact ⟨rfl, rfl⟩ | trivial)) rfl
        | n + 7, ho, _ => exact absurd ho (by simp)
      case done =>
        intro vs W hbel hvs
        have v0 : vs 0 = .int .i64 nw := hvs 0 (by decide)
        have v1 : vs 1 = .int .i64 nw := hvs 1 (by decide)
        have v2 : vs 2 = .slice (some ⟨WB, 0, none⟩) 4 4 := hvs 2 (by decide)
        have v3 : vs 3 = .int .i64 k := hvs 3 (by decide)
        have v4 : vs 4 = .pointer (some ⟨WB, k, none⟩) := hvs 4 (by decide)
        have v5 : vs 5 = .int .i64 nw := hvs 5 (by decide)
        have v6 : vs 6 = .bool false := hvs 6 (by decide)
        have HBR := Lib.hid hbel
        simp only [fillN, List.size_toArray, List.length_cons, List.length_nil, Nat.reduceAdd, show List.range 7 = [0, 1, 2, 3, 4, 5, 6] from rfl, List.foldl_cons, List.foldl_nil, show 46 + min 0 6 = 46 from rfl, show 46 + min 1 6 = 47 from rfl, show 46 + min 2 6 = 48 from rfl, show 46 + min 3 6 = 49 from rfl, show 46 + min 4 6 = 50 from rfl, show 46 + min 5 6 = 51 from rfl, show 46 + min 6 6 = 52 from rfl, v0, v1, v2, v3, v4, v5, v6]
        clear v0 v1 v2 v3 v4 v5 v6 hvs hbel
        go_simp
        go_wp2_with fail
        go_roundw
        case rel => exact ⟨k + 1, hlt, by go_num, (HBR.out.block LB (Array.getElem?_eq_some_iff.1 HGA5.out).1).trans HGA5.out, (HBR.out.block WB (Array.getElem?_eq_some_iff.1 HGB5.out).1).trans HGB5.out, HBL.out.trans ((HB5.out.trans (HBR.out.mono HB5.out.size)).mono HBL.out.size)⟩
        case measure => simp [intOf]; omega
    · clear hg1 hg2 hbl
      go_wp2_with fail
      refine (ofs_bad 2 [48, 48, 51] _ _ (by decide) (by decide) (brow_lit2 wr _ _ _ _ rfl (fun j hj => by
        match j, hj with
        | 0, _ | 1, _ | 2, _ => rfl
        | n + 3, h => exact absurd h (by simp))) (by decide) 201 Dn.ex3_is.2.2.2.2.2 (by decide)).mono ?_
      rintro e w6 ⟨rfl, hb6⟩
      have HB6 := Lib.hid (show Below w.heap.size w w6 from HB2.out.trans ((HBL.out.trans ((((Below.refl _ _).alloc (Nat.le_refl _) _).trans (hb6.mono (by simp))).mono HBL.out.size)).mono HB2.out.size))
      have h26 : Below w2.heap.size w2 w6 := HBL.out.trans ((((Below.refl _ _).alloc (Nat.le_refl _) _).trans (hb6.mono (by simp))).mono HBL.out.size)
      have cv1 : (convert 22 9 (.slice p1 n1 c1)).run Tryd.prog w6 = .ok (.string ⟨#[97, 98, 99]⟩) w6 := conv_brow (HR1b.out.below h26)
      have cv2 : (convert 22 9 (.slice p2 n2 c2)).run Tryd.prog w6 = .ok (.string ⟨#[97, 98, 99]⟩) w6 := conv_brow (HR2.out.below h26)
      clear hb6 h26
      go_wp2_with fail
      refine (HN.out _ _).mono ?_
      rintro e w7 ⟨rfl, rfl⟩
      go_wp2_with fail
      refine (HN.out _ _).mono ?_
      rintro e w8 ⟨rfl, rfl⟩
      go_wp2_with fail
      refine (HN.out _ _).mono ?_
      rintro e w9 ⟨rfl, rfl⟩
      go_wp2_with fail
      go_ret
      exact ⟨rfl, HB6.out⟩
end Go.Proofs.YtaekcmoogobbjaaDoor

/- DechunkBack: what the law's calls find. -/
namespace Go.Proofs.YtaekcmoogobbjaaDoor
set_option linter.unusedVariables false
set_option linter.unusedSimpArgs false
open Go.RowKit Go.Shelf
set_option maxHeartbeats 2000000
theorem pien_ex2 (len M : Nat) (h : 1 ≤ M) : ∃ N, PieN len M N := by
  refine ⟨(len + M - 1) / M, fun k => ?_⟩
  rw [show k < (len + M - 1) / M ↔ k + 1 ≤ (len + M - 1) / M from Iff.rfl, Nat.le_div_iff_mul_le (by omega), Nat.add_mul]
  omega
/-- what the law's calls find -/
structure CutFind (A : List UInt8) (w : World) (v : Value) (most : Int) (L : List (List UInt8)) (no : Int) : Prop where
  no_ : no = 0 ∨ no = 2
  len : L.length ≤ 300
  each : ∀ p ∈ L, p.length ≤ 300
  tot : (encs L).length ≤ 7000
  good : no = 0 → cat L = A ∧ ∀ p ∈ L, p ≠ []
  cut : ∀ W, Below w.heap.size w W → Calls Tryd.prog 17 #[v, .int .i64 most] W fun e w' => ∃ r, e = .returned (.tuple #[r, .int .i64 no]) ∧ BRows w' r L ∧ Below W.heap.size W w'
  rcut : ∀ W, Below w.heap.size w W → Calls Tryd.prog 12 #[v, .int .i64 most] W fun e w' => ∃ r, e = .returned (.tuple #[r, .int .i64 no]) ∧ BRows w' r L ∧ Below W.heap.size W w'
  all : ∀ W, Below w.heap.size w W → Calls Tryd.prog 11 #[v, .int .i64 most] W fun e w' => ∃ r, e = .returned (.tuple #[r, .int .i64 no]) ∧ BRow w' r (encs L ++ if no = 0 then [48, 13, 10, 13, 10] else []) ∧ Below W.heap.size W w'
theorem cut_find (ao : Option Addr) (n cap : Nat) (l : List UInt8) (most : Int) (w : World) (h : BRow w (.slice ao n cap) l) (hn : n ≤ 300) (ht : Tabs w) : ∃ L no, CutFind l w (.slice ao n cap) most L no := by
  by_cases hm : most < 1
  · refine ⟨[], 2, .inr rfl, by simp, by simp, by simp [encs, cat], fun h => absurd h (by decide), fun W hb => ?_, fun W hb => ?_, fun W hb => ?_⟩
    · exact (ck_cut_wrong _ most W hm).mono fun e w' ⟨h1, h2⟩ => ⟨_, h1, brows_none _, h2⟩
    · exact (rch_cut_wrong _ most W hm).mono fun e w' ⟨h1, h2⟩ => ⟨_, h1, brows_none _, by rw [h2]; exact Below.refl _ _⟩
    · exact (ck_all_wrong _ most W hm).mono fun e w' ⟨h1, h2⟩ => ⟨_, h1, BRow.nil _, h2⟩
  · obtain ⟨M, hM⟩ : ∃ M : Nat, min most ((n : Int) + 1) = M := ⟨(min most ((n : Int) + 1)).toNat, by omega⟩
    have hM1 : 1 ≤ M := by omega
    obtain ⟨N, hN⟩ := pien_ex2 n M hM1
    have hln : l.length = n := by obtain ⟨_, _, e, _⟩ := h; cases e; rfl
    have hcat : cat (pies M N l) = l := pies_cat (by rw [hln]; exact hN)
    have hNn : N ≤ n := by
      rcases Nat.eq_zero_or_pos N with h0 | h0
      · omega
      · have h1 := (hN (N - 1)).2 (by omega)
        have h2 : N - 1 ≤ (N - 1) * M := Nat.le_mul_of_pos_right _ (by omega)
        omega
    have hea : ∀ p ∈ pies M N l, p.length ≤ 300 := by
      intro p hp
      obtain ⟨k, hk, rfl⟩ := List.mem_map.1 hp
      rw [List.length_take, List.length_drop]; omega
    have hlen : (encs (pies M N l)).length ≤ 7000 := by
      have := encs_len (pies M N l) (fun x hx => by have := hea x hx; omega)
      rw [hcat, pies_len] at this
      omega
    have hne : ∀ p ∈ pies M N l, p ≠ [] := by
      intro p hp
      obtain ⟨k, hk, rfl⟩ := List.mem_map.1 hp
      have h1 := (hN k).2 (List.mem_range.1 hk)
      intro h
      have h2 := congrArg List.length h
      rw [List.length_take, List.length_drop] at h2
      simp only [List.length_nil] at h2
      omega
    refine ⟨pies M N l, 0, .inl rfl, by rw [pies_len]; omega, hea, hlen, fun _ => ⟨hcat, hne⟩, fun W hb => ?_, fun W hb => ?_, fun W hb => ?_⟩
    · exact ck_cut ao n cap M N l most W (h.below hb) (by omega) hm hM hN
    · exact rch_cut ao n cap M N l most W (h.below hb) (by omega) hm hM hN
    · exact ck_all ao n cap M N l most W (h.below hb) hn hm hM hN (by rw [hcat]; omega) (by omega) hea (ht.below hb)


end Go.Proofs.YtaekcmoogobbjaaDoor

/- DechunkBack returns true for any two slices of bytes and any number: the walk. The tables of the library read as they are laid. -/
namespace Go.Proofs.YtaekcmoogobbjaaDoor
set_option linter.unusedVariables false
set_option linter.unusedSimpArgs false
open Go.RowKit Go.Shelf
attribute [local go_sem] Oper.semAt_some
set_option maxHeartbeats 8000000
set_option maxRecDepth 100000
/-- the loop over an iterator, by the frame ahead of it -/
theorem rg_break_a {F : Fence} {n : Nat} {P : Program} {g : Operand} {ps : Array Tmp} {assign body : Code} {Q : Exit → Act → World → Prop} {id : Nat} {a : Act} {w : World}
    (hro : F.round = none) (h1 : 1 ≤ n) {gf : Nat} {lb : Array Value} (hg : a.eval g = .func (.func gf) #[] lb) (hFg : F.fn gf) (eg : ∀ args w, (callFunc gf args).run P w = .ok (.enter gf args) w)
    {Enc : Nat → Array Value → World → Prop} {N : Nat} {own : Nat → Prop} {Kp : World → World → Prop} (hps : ∀ k a X, Enc k a X → a.size = ps.size) (hrow : ∀ b, own b → b ≠ w.heap.size ∧ b ≠ w.heap.size + 1)
    (hit : ∀ W, Below w.heap.size w W → W.heap.size = w.heap.size + 2 → IterG F (n - 1) P gf lb Enc N own Kp W)
    (hKt : ∀ {A B C : World}, Kp A B → Kp B C → Kp A C) (hKb : ∀ (W : World) (o o' : Obj), W.heap[w.heap.size + 1]? = some o → o.isCells = false → Kp W (W.putObj (w.heap.size + 1) o'))
    (I : Nat → World → Prop) (IE : World → Prop) (hI : ∀ k X Y, I k X → Turn w.heap.size own X Y → I k Y) (hIE : ∀ X Y, IE X → Turn w.heap.size own X Y → IE Y) (h0 : I 0 w)
    (Ax : Act → Nat → Act → World → Prop) (hAx : ∀ k b X Y, Ax a k b X → Turn w.heap.size own X Y → Ax a k b Y)
    (hassign : ∀ (l k : Nat) (args : Array Value) (W : World) (K : Act → World → Prop), k < N → I k W → Enc k args W → (∀ b W', KeepsFrom w.heap.size W W' → Kp W W' → I k W' → Ax a k b W' → K b W') →
      assign.wpIn (F.inRound l) (n - 1 - 1) P (Exit.then K (fun _ _ _ => False)) { tmps := (ps.zip args).foldl (fun t (p, v) => t.setIfInBounds p v) a.tmps, defers := [] } W)
    (hbody : ∀ (l k : Nat) (b : Act) (W : World), w.heap.size ≤ l → (∃ r, W.heap[l]? = some (.loop r)) → k < N → I k W → Ax a k b W → body.wpIn (F.inRound l) (n - 1 - 1) P (rfPost w.heap.size Kp (I (k + 1)) (fun c X => c = .exit id ∧ IE X) W) b W)
    (hall : ∀ W, I N W → IE W) (hend : ∀ (D : Nat) (W : World), w.heap.size ≤ D → IE W → W.heap[D]? = some (.deferred (some [])) → Q .normal { a with defers := { target := .collected D, args := #[] } :: a.defers } W) :
    (Code.rangeFunc g ps assign body).wpIn F n P (Exit.inBlock id Q) a w :=
  rg_break hro h1 hg hFg eg hps hrow hit hKt hKb I IE hI hIE h0 (Ax a) hAx hassign hbody hall hend
theorem db_nil (fn : Fn) (f c : Array Value) (W : World) : (binOp BinOp.eql 41 (.func fn f c) .nilFunc).run Tryd.prog W = .ok (.bool false) W := by kernel_rfl
theorem walkDB (a : Option Addr) (la ca : Nat) (za : List Int) (most : Int) (b : Option Addr) (lb cb : Nat) (zb : List Int) (w : World) (ha : IsBytes .u8 w a la ca za) (hm : (Lit.int .i64 most).wf = true) (hb : IsBytes .u8 w b lb cb zb) (ht : Tabs w) :
    Calls Tryd.prog 4 #[.slice a la ca, .int .i64 most, .slice b lb cb] w fun e w' => e = .returned (.bool true) ∧ Below w.heap.size w w' := by
  have WK := Lib.hid (fun W => dl_works W)
  have HNU := Lib.hid dl_num
  obtain ⟨A, hA, hAl⟩ := ha.brow
  obtain ⟨Z, hZ, hZl⟩ := hb.brow
  have HA := Lib.hid hA
  have HZ := Lib.hid hZ
  have HAL := Lib.hid hAl
  have HZL := Lib.hid hZl
  have HZ0 := HZ
  clear ha hb hm hZ
  refine callsIn_wide.1 (callsIn_of_wp_marks (F := Fence.wide) (n := 9) Tryd.func4 rfl trivial ?_ rfl)
  simp only [Tryd.ntmps4, List.size_toArray, List.length_cons, List.length_nil, Nat.reduceAdd, Nat.reduceSub, Array.replicate_succ, Array.replicate_zero, List.push_toArray, List.append_toArray, List.nil_append, List.cons_append]
  obtain ⟨B, hB⟩ : ∃ B, w.heap.size = B := ⟨_, rfl⟩
  have HB := Lib.hid hB
  obtain ⟨W0, hW0⟩ : ∃ W0, w.alloc (.cells #[.bool false] 4) = W0 := ⟨_, rfl⟩
  have HB0 : Hid (Below w.heap.size w W0) := Lib.hid (by rw [← hW0]; exact (Below.refl _ w).alloc (Nat.le_refl _) _)
  have HR0 : Hid (Boxed W0 B 4 (.bool false)) := Lib.hid (by rw [← hW0, ← hB]; exact Boxed.new w 4 (.bool false))
  by_cases hlab : la ≤ 300 ∧ lb ≤ 40
  · obtain ⟨hla, hlb⟩ := hlab
    obtain ⟨L, no, hF⟩ := cut_find a la ca A most w hA hla ht
    have HF := Lib.hid hF
    clear hF ht hA hAl hZl
    have K1 := Lib.hid (HF.out.all W0 HB0.out)
    obtain ⟨X, hX⟩ : ∃ X, (encs L ++ if no = 0 then [48, 13, 10, 13, 10] else []) = X := ⟨_, rfl⟩
    rw [hX] at K1
    have HX := Lib.hid hX
    have hXl : X.length ≤ 7005 := by
      have := HF.out.tot
      rw [← hX, List.length_append]
      split
      · simp; omega
      · simp; omega
    clear hX
    gi_wp2_with fail
    clear hW0
    refine ⟨trivial, (callsIn_wide.2 K1.out).mono ?_⟩
    rintro e w1 ⟨r1, rfl, hr1, hb1⟩
    have HR1 := Lib.hid hr1
    have HB1 : Hid (Below w.heap.size w w1) := Lib.hid (HB0.out.trans (hb1.mono HB0.out.size))
    have HX1 : Hid (Boxed w1 B 4 (.bool false)) := Lib.hid ((hb1.block _ HR0.out.lt).trans HR0.out)
    obtain ⟨qX, hqX⟩ : ∃ q, X.length = q := ⟨_, rfl⟩
    obtain ⟨p1, c1, rfl⟩ : ∃ p c, r1 = .slice p qX c := by obtain ⟨p, c, rfl, _⟩ := hr1; exact ⟨_, _, by rw [hqX]⟩
    have HQX := Lib.hid hqX
    rw [hqX] at hXl
    clear hb1 hr1 K1 hqX
    gi_wp2_with fail
    refine ⟨trivial, (callsIn_wide.2 (HNU.out no _)).mono ?_⟩
    rintro e w2 ⟨rfl, hw2⟩
    rw [hw2]
    clear hw2 w2
    rcases HF.out.no_ with h0 | h0
    · have hn0 : (no != 0) = false := by rw [h0]; rfl
      obtain ⟨hcat, hne⟩ := HF.out.good h0
      have hXX : X = encs L ++ [48, 13, 10, 13, 10] := by rw [← HX.out, if_pos h0]
      have HCAT := Lib.hid hcat
      have HNE := Lib.hid hne
      have HXX := Lib.hid hXX
      have HBK := Lib.hid (fun T => Dn.back L T (fun p hp => ⟨hne p hp, HF.out.each p hp⟩))
      clear hcat hne hXX
      gi_upto_region 6 with (fail)
      refine wpIn_wide.2 ?_
      have hmk : ∀ W : World, (W.alloc (.cells #[] 5)).ownsRow W.heap.size 5 1 (.slice (some ⟨W.heap.size, 0, none⟩) 0 0) 0 [] := fun W =>
        ⟨rfl, .inr ⟨W.heap.size, 0, #[], rfl, Nat.le_refl _, World.alloc_heap_new W _, Nat.le_refl _, Nat.zero_le _, rfl, rfl⟩⟩
      have HMK := Lib.hid hmk
      clear hmk
      go_wp2_with (at_builtin; refine wpList_append_brow _ rfl _ _ rfl w1.heap.size _ _ _ rfl (HMK.out w1) _ X rfl (HR1.out.below ((Below.refl _ w1).alloc (Nat.le_refl _) _)) ?c1 ?c2 ?_)
      case c1 => have := HQX.out; omega
      case c2 => simp
      intro v4 w4 hown4 hgr4
      have HB14 : Hid (Below w1.heap.size w1 w4) := Lib.hid (((Below.refl _ w1).alloc (Nat.le_refl _) _).grown hgr4 (by simp) (fun k hk => by simp [Value.ownBlock] at hk; omega))
      have HO4 := Lib.hid hown4
      clear hown4 hgr4
      go_wp2_with (at_builtin; refine wpList_append_brow _ rfl _ _ rfl w1.heap.size _ _ _ rfl HO4.out _ Z rfl ((HZ0.out.below HB1.out).below HB14.out) ?c1 ?c2 ?_)
      case c1 => have := HQX.out; have := HZL.out; omega
      case c2 => exact HB14.out.size
      intro v5 w5 hown5 hgr5
      have HB15 : Hid (Below w1.heap.size w1 w5) := Lib.hid (HB14.out.grown hgr5 HB14.out.size (fun k hk => own8_ge HO4.out k hk))
      have hown5 : w5.ownsRow w1.heap.size 5 1 v5 (X ++ Z).length ((X ++ Z).map by8) := by
        rw [List.map_append, List.length_append]
        simpa using hown5
      have K5 := Lib.hid (dc_Of 7 (X ++ Z) v5 w5 (by decide) (by decide) (BRow.of_own hown5) (by have := HQX.out; have := HZL.out; rw [List.length_append]; omega))
      clear hown5 hgr5 HO4 HMK
      go_wp2_with fail
      refine K5.out.mono ?_
      rintro e w6 ⟨ho, hb6⟩
      have hbk := HBK.out Z
      rw [← HXX.out] at hbk
      rw [hbk] at ho
      obtain ⟨r6, rfl, hr6⟩ := of_ok rfl rfl ho
      have HR6 := Lib.hid (show BRow w6 r6 A by have h := hr6; rw [show (Dn.St.out ⟨[], false, 5, 0, (cat L).length, cat L, L, [], 0⟩) = cat L from rfl, HCAT.out] at h; exact h)
      have HB16 := Lib.hid (HB15.out.trans (hb6.mono HB15.out.size))
      have hqn : (encs L).length + 5 = qX := by rw [← HQX.out, HXX.out, List.length_append]; rfl
      simp only [hqn]
      clear ho hb6 hbk hr6 K5 hqn
      obtain ⟨p6, n6, c6, rfl⟩ : ∃ p n c, r6 = .slice p n c := by obtain ⟨p, c, rfl, _⟩ := HR6.out; exact ⟨_, _, _, rfl⟩
      go_wp2_with fail
      have HB6 : Hid (Below w.heap.size w w6) := Lib.hid (HB1.out.trans (HB16.out.mono HB1.out.size))
      have K7 := Lib.hid (HF.out.rcut w6 HB6.out)
      obtain ⟨N, hN⟩ : ∃ N, L.length = N := ⟨_, rfl⟩
      have HN := Lib.hid hN
      clear hN
      gi_wp2_with fail
      refine ⟨trivial, (callsIn_wide.2 K7.out).mono ?_⟩
      rintro e w7 ⟨r2, rfl, hr2, hb7⟩
      have HR2 := Lib.hid hr2
      have HB67 := Lib.hid hb7
      have HB7 : Hid (Below w.heap.size w w7) := Lib.hid (HB6.out.trans (hb7.mono HB6.out.size))
      obtain ⟨p2, c2, rfl⟩ : ∃ p c, r2 = .slice p N c := by obtain ⟨p, c, rfl, _⟩ := hr2; exact ⟨_, _, by rw [HN.out]⟩
      clear hb7 hr2 K7
      obtain ⟨G, hG⟩ : ∃ G, w7.heap.size = G := ⟨_, rfl⟩
      obtain ⟨W8, hW8⟩ : ∃ Z, w7.alloc (.cells #[.slice p2 N c2] 37) = Z := ⟨_, rfl⟩
      have HB78 : Hid (Below w7.heap.size w7 W8) := Lib.hid (by rw [← hW8]; exact (Below.refl _ _).alloc (Nat.le_refl _) _)
      have HB8 : Hid (Below w.heap.size w W8) := Lib.hid (HB7.out.trans (HB78.out.mono HB7.out.size))
      have HG8 : Hid (Boxed W8 G 37 (.slice p2 N c2)) := Lib.hid (by rw [← hW8, ← hG]; exact Boxed.new _ _ _)
      have HB18 : Hid (Below w1.heap.size w1 W8) := Lib.hid (HB16.out.trans ((HB67.out.trans (HB78.out.mono HB67.out.size)).mono HB16.out.size))
      have K9 := Lib.hid (show Calls Tryd.prog 13 #[.int .i64 7, .slice p1 qX c1] W8 fun e w' => ∃ B r, e = .returned (.func (.func 23) #[] #[.pointer (some ⟨B, 0, none⟩)]) ∧ Boxed w' B 37 r ∧ BRows w' r L ∧ W8.heap.size ≤ B ∧ Below W8.heap.size W8 w' from by
        have h := dc_Each 7 X (.slice p1 qX c1) W8 (by decide) (by decide) (HR1.out.below HB18.out) (by rw [HQX.out]; omega) (by
          have hbk := HBK.out []
          rw [List.append_nil, ← HXX.out] at hbk
          rw [hbk]
          have := HF.out.len
          show L.length ≤ 1000
          omega)
        have hbk := HBK.out []
        rw [List.append_nil, ← HXX.out] at hbk
        rw [hbk] at h
        exact h)
      gi_wp2_with fail
      clear hG hW8
      refine ⟨trivial, (callsIn_wide.2 K9.out).mono ?_⟩
      rintro e w9 ⟨P, r5, rfl, hbx5, hr5, hP5, hb9⟩
      have HR5 := Lib.hid hr5
      have HX5 := Lib.hid hbx5
      have HP5 := Lib.hid hP5
      have HB89 := Lib.hid hb9
      have HB9 : Hid (Below w.heap.size w w9) := Lib.hid (HB8.out.trans (hb9.mono HB8.out.size))
      clear hb9 K9 hr5 hbx5 hP5
      have hnil := db_nil
      gi_wp2_with fail
      clear hnil
      obtain ⟨C, hC⟩ : ∃ z, w9.heap.size = z := ⟨_, rfl⟩
      obtain ⟨V, hV⟩ : ∃ Z, w9.alloc (.cells #[.int .i64 0] 3) = Z := ⟨_, rfl⟩
      have hb9V : Below w9.heap.size w9 V := by rw [← hV]; exact (Below.refl _ _).alloc (Nat.le_refl _) _
      have HB9V := Lib.hid hb9V
      have HBC : Hid (Boxed V C 3 (.int .i64 0)) := Lib.hid (by rw [← hV, ← hC]; exact Boxed.new _ _ _)
      have HVS : Hid (V.heap.size = C + 1) := Lib.hid (by rw [← hV, ← hC]; simp)
      clear hb9V
      have HCW := Lib.hid hC
      rw [hC, hV]
      clear hC hV
      have hs : V.heap.size = C + 1 := HVS.out
      have hw9 : w9.heap.size = C := HCW.out
      have HROW : Hid (∀ Y, Below w9.heap.size w9 Y → ∀ k, k < N → ∃ g2 o2, p2 = some ⟨g2, o2, none⟩ ∧ ∃ x2, Y.cell? ⟨g2, o2 + k, none⟩ = some x2 ∧ BRow Y x2 (L.getD k [])) := Lib.hid (fun Y hY k hk => by
        have h79 : Below w7.heap.size w7 Y := HB78.out.trans ((HB89.out.trans (hY.mono HB89.out.size)).mono HB78.out.size)
        obtain ⟨p2', _, e2, _, h2a⟩ := HR2.out.below h79
        have e3 : p2' = p2 := by injection e2 with e2 _ _; exact e2.symm
        subst e3
        obtain ⟨g2, o2, rfl, h2⟩ := h2a.resolve_left (by rintro ⟨_, e, _⟩; have := HN.out; rw [e] at this; simp at this; omega)
        obtain ⟨x2, c2, r2⟩ := h2 k (by rw [HN.out]; exact hk)
        exact ⟨g2, o2, rfl, x2, c2, r2⟩)
      have HG9 : Hid (∀ Y, Below w9.heap.size w9 Y → Boxed Y G 37 (.slice p2 N c2)) := Lib.hid (fun Y hY => by
        have h2 : Boxed w9 G 37 (.slice p2 N c2) := (HB89.out.block _ HG8.out.lt).trans HG8.out
        exact (hY.block _ h2.lt).trans h2)
      refine rg_break_a (N := N) (own := fun _ => False) (Kp := KeepB w9.heap.size (C + 3)) (Enc := fun k args X => ∃ x, args = #[.int .i64 k, x] ∧ BRow X x (L.getD k [])) rfl (by omega) (gf := 23) (lb := #[.pointer (some ⟨P, 0, none⟩)]) rfl trivial (enters_of Tryd.func23 (by kernel_rfl) rfl)
        (fun k a X h => by obtain ⟨x, rfl, _⟩ := h; rfl) (fun b hb => hb.elim)
        (fun Y hY hs' => by
          have h := dceach_it L r5 P (C + 3) (KeepB w9.heap.size (C + 3)) w9 (fun _ _ h => h) Y (by omega) (Agree.of (HB9V.out.trans (hY.mono (by omega)))) (by have := HF.out.len; omega) (fun p hp => by have := HF.out.each p hp; omega) HX5.out HR5.out
          rw [HN.out] at h
          exact h.any _)
        KeepB.trans (fun X o o' h2 h3 => KeepB.putObj _ _ (by omega))
        (fun k Y => Below w9.heap.size w9 Y ∧ Boxed Y C 3 (.int .i64 (k : Int)))
        (fun Y => Below w9.heap.size w9 Y ∧ Boxed Y C 3 (.int .i64 (N : Int)))
        (fun k X Y hs' ht => ⟨hs'.1.trans (ht.below (by omega) hs'.1.size (fun b hb => hb.elim)), ht.boxed hs'.2 id⟩)
        (fun X Y hs' ht => ⟨hs'.1.trans (ht.below (by omega) hs'.1.size (fun b hb => hb.elim)), ht.boxed hs'.2 id⟩)
        ⟨HB9V.out, HBC.out⟩
        (fun a k b Y => ∃ x, b = { tmps := ((a.tmps.setIfInBounds 58 (.int .i64 (k : Int))).setIfInBounds 59 x).setIfInBounds 17 x, defers := [] } ∧ BRow Y x (L.getD k []))
        (fun k b X Y hs' ht => by obtain ⟨x, h1, h2⟩ := hs'; exact ⟨x, h1, turn_brow ht h2 (fun _ h => h)⟩) ?assign ?body (fun Y h => h) ?fin
      case assign =>
        rintro l' k args Y K hk hi ⟨x, rfl, hx⟩ hK
        gi_wp2
        exact hK _ _ (KeepsFrom.refl _ _) (KeepB.refl _ _ _) hi ⟨x, rfl, hx⟩
      case body =>
        rintro l' k b Y hl' ⟨r, hr⟩ hk ⟨hbl, bn⟩ hax
        obtain ⟨x, hb, hxe⟩ := hax
        subst hb
        obtain ⟨g2, o2, hp2, x2, hc2, hx2⟩ := HROW.out Y hbl k hk
        have hkI : ¬ (N : Int) ≤ (k : Int) := by omega
        have hkI2 : (k : Int) < (N : Int) := by omega
        have hkd : decide ((N : Int) ≤ (k : Int)) = false := decide_eq_false hkI
        have hkd2 : decide (N ≤ k) = false := decide_eq_false (by omega)
        have hN3 : N ≤ 300 := by have := HF.out.len; have := HN.out; omega
        have hk63 : (k : Int) + 1 ≤ 9223372036854775807 := by omega
        have BWX := fun d os => below_regrown Y d os
        have hcC : ∀ d os, (Go.Sort.grow (redrawn Y d) os).cell? ⟨C, 0, none⟩ = some (.int .i64 (k : Int)) := fun d os => cell_regrown bn.cell d os
        have hcG : ∀ d os, (Go.Sort.grow (redrawn Y d) os).cell? ⟨G, 0, none⟩ = some (.slice p2 N c2) := fun d os => cell_regrown (HG9.out Y hbl).cell d os
        subst hp2
        obtain ⟨q, hq⟩ : ∃ q, L.getD k [] = q := ⟨_, rfl⟩
        rw [hq] at hxe hx2
        obtain ⟨Zq, hZq⟩ : ∃ Z : ByteArray, (⟨q.toArray⟩ : ByteArray) = Z := ⟨_, rfl⟩
        have cvx : ∀ d os, (convert 22 9 x).run Tryd.prog (Go.Sort.grow (redrawn Y d) os) = .ok (.string Zq) (Go.Sort.grow (redrawn Y d) os) := fun d os => by rw [← hZq]; exact conv_brow (hxe.below (BWX d os))
        have cvy : ∀ d os, (convert 22 9 x2).run Tryd.prog (Go.Sort.grow (redrawn Y d) os) = .ok (.string Zq) (Go.Sort.grow (redrawn Y d) os) := fun d os => by rw [← hZq]; exact conv_brow (hx2.below (BWX d os))
        obtain ⟨lq, hlq⟩ : ∃ e, q.length = e := ⟨_, rfl⟩
        obtain ⟨a2, d2, rfl⟩ : ∃ a d, x2 = .slice a lq d := by obtain ⟨a, d, rfl, _⟩ := hx2; exact ⟨_, _, by rw [hlq]⟩
        obtain ⟨ax, dx, rfl⟩ : ∃ a d, x = .slice a lq d := by obtain ⟨a, d, rfl, _⟩ := hxe; exact ⟨_, _, by rw [hlq]⟩
        have hc2g : ∀ d os, (Go.Sort.grow (redrawn Y d) os).cell? ⟨g2, o2 + k, none⟩ = some (.slice a2 lq d2) := fun d os => cell_regrown hc2 d os
        have HBN := Lib.hid bn
        have HY := Lib.hid hbl
        clear hc2 hx2 hxe hq hZq hlq bn hbl
        go_simp
        gi_wp2_with fail
        refine wpR_region_below (by kernel_rfl) (by kernel_rfl) (by kernel_rfl) ?_
        repeat (go_big_quiet_step (fail))
        refine wpQuiet_nil ?_
        intro _ hw'
        obtain ⟨⟨dq, osq⟩, hw''⟩ := hw'
        subst hw''
        have hbY := below_regrown Y dq osq
        obtain ⟨Y1, hY1⟩ : ∃ Y1, Go.Sort.grow (redrawn Y dq) osq = Y1 := ⟨_, rfl⟩
        rw [hY1] at hbY ⊢
        have bn1 : Boxed Y1 C 3 (.int .i64 (k : Int)) := (hbY.block _ HBN.out.lt).trans HBN.out
        have hb1 : Below w9.heap.size w9 Y1 := HY.out.trans (hbY.mono HY.out.size)
        have cn := bn1.cell
        have fn := bn1.frozen
        have HB1' := Lib.hid hb1
        have Hbn1 := Lib.hid bn1
        have HbY := Lib.hid hbY
        have KP : Hid (∀ v, KeepB w9.heap.size (C + 3) Y (Y1.setCell ⟨C, 0, none⟩ v)) := Lib.hid (fun v => (KeepB.below HbY.out).trans (KeepB.setCell _ _ (by omega)))
        clear hkI hkI2 hkd hkd2 hcC hcG cvx cvy hc2g BWX hY1 bn1 hb1 hbY
        gi_wp2_with fail
        have h1 := HB1'.out.setCell (p := ⟨C, 0, none⟩) (by show w9.heap.size ≤ C; omega) (.int .i64 ((k : Int) + 1))
        have h2 := KP.out (.int .i64 ((k : Int) + 1))
        rw [hw9] at h1 h2
        change KeepsFrom _ _ _ ∧ _ ∧ _
        exact ⟨(keeps_of_below HbY.out).trans ((KeepsOthers.setCell _ _ _).from _), h2, h1, Hbn1.out.set _⟩
      case fin =>
        rintro D1 Y hD1 ⟨hbl, bn⟩ hK1
        have cn := bn.cell
        have cG := (HG9.out Y hbl).cell
        have h69 : Below w6.heap.size w6 Y := HB67.out.trans ((HB78.out.trans ((HB89.out.trans (hbl.mono HB89.out.size)).mono HB78.out.size)).mono HB67.out.size)
        obtain ⟨Zq, hZq⟩ : ∃ Z : ByteArray, (⟨A.toArray⟩ : ByteArray) = Z := ⟨_, rfl⟩
        have cvx : (convert 22 9 (.slice p6 n6 c6)).run Tryd.prog Y = .ok (.string Zq) Y := by rw [← hZq]; exact conv_brow (HR6.out.below h69)
        have cvy : (convert 22 9 (.slice a la ca)).run Tryd.prog Y = .ok (.string Zq) Y := by rw [← hZq]; exact conv_brow (HA.out.below (HB6.out.trans (h69.mono HB6.out.size)))
        have HK1 := Lib.hid hK1
        have HBL := Lib.hid hbl
        have HD1 := Lib.hid hD1
        clear hK1 hbl bn h69 hZq hs hw9
        gi_wp2_with fail
        refine ⟨trivial, (callsIn_wide.2 (HNU.out _ _)).mono ?_⟩
        rintro e w10 ⟨rfl, hw10⟩
        rw [hw10]
        clear hw10 w10
        gi_wp2_with fail
        refine ⟨trivial, (callsIn_wide.2 (WK.out _)).mono ?_⟩
        rintro e U ⟨rfl, hbU⟩
        have HB1Y : Below w1.heap.size w1 Y := HB18.out.trans ((HB89.out.trans (HBL.out.mono HB89.out.size)).mono HB18.out.size)
        have hb1U : Below w1.heap.size w1 U := HB1Y.trans (hbU.mono HB1Y.size)
        have bR : Boxed U B 4 (.bool false) := (hb1U.block _ HX1.out.lt).trans HX1.out
        have K8 : U.heap[D1]? = some (.deferred (some [])) := (hbU.block _ (Array.getElem?_eq_some_iff.1 HK1.out).1).trans HK1.out
        have bV : Below w.heap.size w U := HB1.out.trans (hb1U.mono HB1.out.size)
        have cR := bR.cell
        have fR := bR.frozen
        have HK8 := Lib.hid K8
        have HbR := Lib.hid bR
        have HbV := Lib.hid bV
        have hBD : B < D1 := by have h1 := HX1.out.lt; have h2 := HD1.out; have h3 := HB1Y.size; have h4 := HB18.out.size; have h5 := HB89.out.size; have h6 := HB9V.out.size; omega
        clear bR K8 bV hb1U hbU HB1Y cvx cvy cn cG
        gi_wp2
        have hBw := HB.out
        have L9 : (U.setCell ⟨B, 0, none⟩ (.bool true)).heap[D1]? = some (.deferred (some [])) := (Below.heap_setCell _ _ _ _ (by show D1 ≠ B; omega)).trans HK8.out
        have L0 : Boxed ((U.setCell ⟨B, 0, none⟩ (.bool true)).putObj D1 (.deferred none)) B 4 (.bool true) := (World.putObj_heap_other (by omega)).trans (HbR.out.set _)
        have c0 := L0.cell
        refine ⟨by simp, .inl ⟨_, _, rfl, run_takeDeferred L9, ?_⟩⟩
        refine ⟨.bool true, ?_, rfl, ?_⟩
        · simp [results, Tryd.results4, go_sem, c0]
        · refine (HbV.out.setCell (p := ⟨B, 0, none⟩) (by show w.heap.size ≤ B; omega) _).trans (belowK_b (w := w) (Nat.le_refl _) _ D1 _ _ (by omega) L9 rfl rfl)
    · have hn0 : (no != 0) = true := by rw [h0]; rfl
      gi_wp2_with fail
      refine ⟨trivial, (callsIn_wide.2 (WK.out _)).mono ?_⟩
      rintro e w3 ⟨rfl, hb3⟩
      have hr1 : Boxed w3 B 4 (.bool false) := (hb3.block _ HX1.out.lt).trans HX1.out
      have cr := hr1.cell
      have fr := hr1.frozen
      have HB3 : Hid (Below w.heap.size w w3) := Lib.hid (HB1.out.trans (hb3.mono HB1.out.size))
      have hBB : w.heap.size ≤ B := by have := HB.out; omega
      clear hb3
      gi_wp2
      have c0 := (hr1.set (.bool true)).cell
      refine ⟨.bool true, ?_, rfl, HB3.out.setCell (p := ⟨B, 0, none⟩) hBB _⟩
      simp [results, Tryd.results4, go_sem, c0]
  · have hWK : ∀ (d : Bool), (decide (300 < (la : Int)) || d) = true ∨ la ≤ 300 := fun d => by
      by_cases h : la ≤ 300
      · exact .inr h
      · exact .inl (by rw [decide_eq_true (by omega)]; rfl)
    by_cases hla : la ≤ 300
    · have hlb : (40 : Int) < (lb : Int) := by omega
      clear hWK
      gi_wp2_with fail
      clear hW0
      refine ⟨trivial, (callsIn_wide.2 (WK.out _)).mono ?_⟩
      rintro e w1 ⟨rfl, hb1⟩
      have hr1 : Boxed w1 B 4 (.bool false) := (hb1.block _ HR0.out.lt).trans HR0.out
      have cr := hr1.cell
      have fr := hr1.frozen
      have HB1 : Hid (Below w.heap.size w w1) := Lib.hid (HB0.out.trans (hb1.mono HB0.out.size))
      have hBB : w.heap.size ≤ B := by have := HB.out; omega
      clear hb1
      gi_wp2
      have c0 := (hr1.set (.bool true)).cell
      refine ⟨.bool true, ?_, rfl, HB1.out.setCell (p := ⟨B, 0, none⟩) hBB _⟩
      simp [results, Tryd.results4, go_sem, c0]
    · have hla2 : (300 : Int) < (la : Int) := by omega
      clear hWK
      gi_wp2_with fail
      clear hW0
      refine ⟨trivial, (callsIn_wide.2 (WK.out _)).mono ?_⟩
      rintro e w1 ⟨rfl, hb1⟩
      have hr1 : Boxed w1 B 4 (.bool false) := (hb1.block _ HR0.out.lt).trans HR0.out
      have cr := hr1.cell
      have fr := hr1.frozen
      have HB1 : Hid (Below w.heap.size w w1) := Lib.hid (HB0.out.trans (hb1.mono HB0.out.size))
      have hBB : w.heap.size ≤ B := by have := HB.out; omega
      clear hb1
      gi_wp2
      have c0 := (hr1.set (.bool true)).cell
      refine ⟨.bool true, ?_, rfl, HB1.out.setCell (p := ⟨B, 0, none⟩) hBB _⟩
      simp [results, Tryd.results4, go_sem, c0]
end Go.Proofs.YtaekcmoogobbjaaDoor
