/- Texts of this claim, one behind the other: Hj, Hg, Dt, Du, Hk, Hl, Hi, Hh, Hm, Hn, Ho, LAT. -/
import Derived.Test.YthfdnlcalefjeaaDoorCATm2
import Derived.Test.YthfdnlcalefjeaaDoorCATm1
import Derived.Lib.Repeat
import Derived.Lib.Case
/- The reference's bytes of a head. -/
namespace Go.Proofs.YthfdnlcalefjeaaDoor
set_option linter.unusedVariables false
set_option linter.unusedSimpArgs false
open Go.RowKit Go.Shelf
set_option maxHeartbeats 8000000
set_option maxRecDepth 100000
def byF (H g1 o1 N c k : Nat) (sb nb vb : ByteArray) : Nat → World → Value → Prop
  | 0, _, v => v = .string sb
  | 1, _, v => v = .pointer (some ⟨H, 1, none⟩)
  | 2, _, v => v = .slice (some ⟨g1, o1, none⟩) N c
  | 3, _, v => v = .int .i64 k
  | 4, _, v => v = .pointer (some ⟨g1, o1 + k * 2, none⟩)
  | 5, _, v => v = .pointer (some ⟨g1, o1 + k * 2, none⟩)
  | 6, _, v => v = .string nb
  | 7, _, v => v = .string (sb ++ nb)
  | 8, _, v => v = .string (sb ++ nb ++ (⟨#[58, 32]⟩ : ByteArray))
  | 9, _, v => v = .pointer (some ⟨H, 1, none⟩)
  | 10, _, v => v = .slice (some ⟨g1, o1, none⟩) N c
  | 11, _, v => v = .int .i64 k
  | 12, _, v => v = .pointer (some ⟨g1, o1 + k * 2, none⟩)
  | 13, _, v => v = .pointer (some ⟨g1, o1 + k * 2 + 1, none⟩)
  | 14, _, v => v = .string vb
  | 15, _, v => v = .string (sb ++ nb ++ (⟨#[58, 32]⟩ : ByteArray) ++ vb)
  | 16, _, v => v = .string ((sb ++ nb ++ (⟨#[58, 32]⟩ : ByteArray) ++ vb) ++ (⟨#[13, 10]⟩ : ByteArray))
  | _, _, _ => False
def byT (w1 : World) (_ : Nat → Bool) (w : World) : Prop := w = w1
theorem lines_snoc (fs : List Hp.Hd) (f : Hp.Hd) : Hp.lines (fs ++ [f]) = Hp.lines fs ++ (f.1 ++ [58, 32] ++ f.2 ++ [13, 10]) := by unfold Hp.lines Hp.fld; rw [List.flatMap_append]; simp
theorem ref_Bytes (F : List UInt8) (v : Value) (fs : List Hp.Hd) (w : World) (hv : HS w v fs) (hF : F.length ≤ 100000) (hl : fs.length ≤ 1000) (hs : ∀ f ∈ fs, f.1.length ≤ 100000 ∧ f.2.length ≤ 100000) :
    Calls Tryd.prog 32 #[.agg #[Hp.sx F, v]] w fun e w' => e = .returned (.string ⟨(Hp.hbytes F fs).toArray⟩) ∧ Below w.heap.size w w' := by
  obtain ⟨p, c, rfl⟩ := hv.slice
  obtain ⟨N, hN⟩ : ∃ N, fs.length = N := ⟨_, rfl⟩
  rw [hN] at hv hl ⊢
  unfold Hp.sx
  have HST := Lib.hid (show (⟨F.toArray⟩ : ByteArray) ++ ⟨#[13, 10]⟩ = ⟨(F ++ [13, 10]).toArray⟩ by apply ByteArray.ext; apply Array.ext'; simp)
  have hFs := (show (⟨F.toArray⟩ : ByteArray).size = F.length by simp [ByteArray.size])
  obtain ⟨fb, hfb⟩ : ∃ z : ByteArray, (⟨F.toArray⟩ : ByteArray) = z := ⟨_, rfl⟩
  rw [hfb] at HST hFs ⊢
  have hfs2 : fb.size ≤ 100000 := by omega
  obtain ⟨H, hH⟩ : ∃ H, w.heap.size = H := ⟨_, rfl⟩
  obtain ⟨W1, hW1⟩ : ∃ Z, w.alloc (.cells #[.string fb, .slice p N c] 45) = Z := ⟨_, rfl⟩
  have HB1 := Lib.hid (show Below H w W1 by rw [← hW1, ← hH]; exact (Below.refl _ _).alloc (Nat.le_refl _) _)
  have HG1 := Lib.hid (show W1.heap[H]? = some (.cells #[.string fb, .slice p N c] 45 (0, 0)) by rw [← hW1, ← hH]; exact World.alloc_heap_new _ _)
  have HV1 := Lib.hid (hv.below (by rw [hH]; exact HB1.out))
  have HW1 := Lib.hid hW1
  have HHH := Lib.hid hH
  have HNN := Lib.hid hN
  have HSZ := Lib.hid hs
  have HFF := Lib.hid hF
  have a0 : W1.cell? ⟨H, 0, none⟩ = some (.string fb) := by simp [World.cell?, HG1.out]
  have a1 : W1.cell? ⟨H, 1, none⟩ = some (.slice p N c) := by simp [World.cell?, HG1.out]
  clear hv hs hN hfb hH hW1 hFs hF
  go_enter Tryd.func32, Tryd.ntmps32
  go_wp2_with fail
  rw [HHH.out, HW1.out]
  go_wp2_with fail
  go_loopw [3, 4] (fun v3 i wr => ∃ (k n : Nat), k ≤ N ∧ i = .int .i64 k ∧ v3 = .string ⟨(F ++ [13, 10] ++ Hp.lines (fs.take k)).toArray⟩ ∧ wr = W1.drewN n) (fun _ i _ => N - (intOf i).toNat)
  case atStart => exact ⟨0, 0, Nat.zero_le _, rfl, by rw [HST.out]; simp [Hp.lines], rfl⟩
  case round =>
    obtain ⟨k, n, hk, rfl, rfl, rfl⟩ := hrel
    by_cases hlt : k < N
    · obtain ⟨g1, o1, rfl, hc1⟩ := HV1.out.cells (k := k) (by rw [HNN.out]; exact hlt)
      obtain ⟨hx, hy⟩ := hc1 k (by rw [HNN.out]; exact hlt)
      have HTK := Lib.hid (show fs.take (k + 1) = fs.take k ++ [fs.getD k ([], [])] by
        rw [List.take_succ_eq_append_getElem (by rw [HNN.out]; exact hlt), List.getD_eq_getElem?_getD, List.getElem?_eq_getElem (by rw [HNN.out]; exact hlt)]; rfl)
      have hln := sumfld (fs.take k) (fun f hf => HSZ.out f (List.mem_of_mem_take hf))
      have hln2 : (fs.take k).length ≤ 1000 := by rw [List.length_take, HNN.out]; omega
      have hln3 : (fs.take k).length * 200004 ≤ 1000 * 200004 := Nat.mul_le_mul_right _ hln2
      obtain ⟨⟨n0, v0⟩, hf⟩ : ∃ x, fs.getD k ([], []) = x := ⟨_, rfl⟩
      have hszf := HSZ.out (n0, v0) (by rw [← hf, List.getD_eq_getElem?_getD, List.getElem?_eq_getElem (by rw [HNN.out]; exact hlt)]; exact List.getElem_mem _)
      rw [hf] at hx hy HTK
      unfold Hp.sx at hx hy
      simp only at hx hy hszf
      have hns := (show (⟨n0.toArray⟩ : ByteArray).size = n0.length by simp [ByteArray.size])
      have hvs := (show (⟨v0.toArray⟩ : ByteArray).size = v0.length by simp [ByteArray.size])
      have hss := (show (⟨(F ++ [13, 10] ++ Hp.lines (fs.take k)).toArray⟩ : ByteArray).size = F.length + 2 + (Hp.lines (fs.take k)).length by simp [ByteArray.size]; omega)
      have HQ := Lib.hid (show (⟨(F ++ [13, 10] ++ Hp.lines (fs.take k)).toArray⟩ : ByteArray) ++ ⟨n0.toArray⟩ ++ ⟨#[58, 32]⟩ ++ ⟨v0.toArray⟩ ++ ⟨#[13, 10]⟩ = ⟨(F ++ [13, 10] ++ Hp.lines (fs.take (k + 1))).toArray⟩ by
        rw [HTK.out, lines_snoc]
        apply ByteArray.ext; apply Array.ext'; simp)
      obtain ⟨nb, hnb⟩ : ∃ z : ByteArray, (⟨n0.toArray⟩ : ByteArray) = z := ⟨_, rfl⟩
      obtain ⟨vb, hvb⟩ : ∃ z : ByteArray, (⟨v0.toArray⟩ : ByteArray) = z := ⟨_, rfl⟩
      obtain ⟨sb, hsb⟩ : ∃ z : ByteArray, (⟨(F ++ [13, 10] ++ Hp.lines (fs.take k)).toArray⟩ : ByteArray) = z := ⟨_, rfl⟩
      rw [hnb] at hx hns HQ
      rw [hvb] at hy hvs HQ
      rw [hsb] at hss HQ ⊢
      have hFF := HFF.out
      have hnl : nb.size ≤ 100000 := by omega
      have hvl : vb.size ≤ 100000 := by omega
      have hsl : sb.size ≤ 300000000 := by omega
      have z1 : (sb ++ nb).size ≤ 301000000 := by rw [ByteArray.size_append]; omega
      have z2 : (sb ++ nb ++ (⟨#[58, 32]⟩ : ByteArray)).size ≤ 302000000 := by rw [ByteArray.size_append]; have : (⟨#[58, 32]⟩ : ByteArray).size = 2 := rfl; omega
      have z3 : (sb ++ nb ++ (⟨#[58, 32]⟩ : ByteArray) ++ vb).size ≤ 303000000 := by rw [ByteArray.size_append]; omega
      have HX := Lib.hid hx
      have HY := Lib.hid hy
      have HA1 := Lib.hid (show W1.cell? ⟨H, 1, none⟩ = some (.slice (some ⟨g1, o1, none⟩) N c) from a1)
      clear hf hnb hvb hsb hc1 hns hvs hss hszf hln hln2 hln3 hFF hx hy
      go_wp2_with fail
      refine region_last2 17 (fun i => 15 + min i 16) (byF H g1 o1 N c k sb nb vb) (byT (W1.drewN n).drew) (by kernel_rfl) (by kernel_rfl) rfl (by kernel_rfl) (fun i => by show 15 + min i 16 < _; simp; omega) (fun i j hi hj h => by have h : 15 + min i 16 = 15 + min j 16 := h; omega) ?start ?dst ?step ?last
      case dst =>
        intro i o hi ho
        match i, hi, ho with
        | 0, _, ho => cases ho; rfl
        | 1, _, ho => cases ho; rfl
        | 2, _, ho => cases ho; rfl
        | 3, _, ho => cases ho; rfl
        | 4, _, ho => cases ho; rfl
        | 5, _, ho => cases ho; rfl
        | 6, _, ho => cases ho; rfl
        | 7, _, ho => cases ho; rfl
        | 8, _, ho => cases ho; rfl
        | 9, _, ho => cases ho; rfl
        | 10, _, ho => cases ho; rfl
        | 11, _, ho => cases ho; rfl
        | 12, _, ho => cases ho; rfl
        | 13, _, ho => cases ho; rfl
        | 14, _, ho => cases ho; rfl
        | 15, _, ho => cases ho; rfl
        | 16, _, ho => cases ho; rfl
        | n + 17, hi, _ => exact absurd hi (by omega)
      case step =>
        intro f a' W i o hib ho hfi hpre hT hrest
        match i, hib, ho with
        | 0, _, ho =>
          cases ho
          have q3 : a'.tmps.getD 3 undef = .string sb := (hrest 3 (by intro i hi; show 15 + min i 16 ≠ _; omega))
          have e3 := rg_ev q3
          exact rg_same2 (.string sb) (by unfold Oper.wp execOp; go_simp; all_goals ((try simp only [e3]); (try go_simp); (try rw [if_pos (by omega)]); (try rw [if_neg (by omega)]); first | done | rfl | exact ⟨rfl, rfl⟩ | trivial)) rfl (hT)
        | 1, _, ho =>
          cases ho
          have q1 : a'.tmps.getD 1 undef = .pointer (some ⟨H, 0, none⟩) := (hrest 1 (by intro i hi; show 15 + min i 16 ≠ _; omega))
          have e1 := rg_ev q1
          exact rg_same2 (.pointer (some ⟨H, 1, none⟩)) (by unfold Oper.wp execOp; go_simp; all_goals ((try simp only [e1]); (try go_simp); (try rw [if_pos (by omega)]); (try rw [if_neg (by omega)]); first | done | rfl | exact ⟨rfl, rfl⟩ | trivial)) rfl (hT)
        | 2, _, ho =>
          cases ho
          have f16 := (hpre { on := 1, ground := .data } (by simp) rfl).1
          have q16 : a'.tmps.getD 16 undef = .pointer (some ⟨H, 1, none⟩) := (hpre { on := 1, ground := .data } (by simp) rfl).2
          have cH : W.cell? ⟨H, 1, none⟩ = some (.slice (some ⟨g1, o1, none⟩) N c) := by rw [hT]; exact HA1.out
          have e16 := rg_ev q16
          exact rg_same2 (.slice (some ⟨g1, o1, none⟩) N c) (by unfold Oper.wp execOp; go_simp; all_goals ((try simp only [e16]); (try go_simp); (try rw [if_pos (by omega)]); (try rw [if_neg (by omega)]); first | done | rfl | exact ⟨rfl, rfl⟩ | trivial)) rfl (hT)
        | 3, _, ho =>
          cases ho
          have q4 : a'.tmps.getD 4 undef = .int .i64 k := (hrest 4 (by intro i hi; show 15 + min i 16 ≠ _; omega))
          have e4 := rg_ev q4
          exact rg_same2 (.int .i64 k) (by unfold Oper.wp execOp; go_simp; all_goals ((try simp only [e4]); (try go_simp); (try rw [if_pos (by omega)]); (try rw [if_neg (by omega)]); first | done | rfl | exact ⟨rfl, rfl⟩ | trivial)) rfl (hT)
        | 4, _, ho =>
          cases ho
          have f17 := (hpre { on := 2, ground := .data } (by simp) rfl).1
          have q17 : a'.tmps.getD 17 undef = .slice (some ⟨g1, o1, none⟩) N c := (hpre { on := 2, ground := .data } (by simp) rfl).2
          have f18 := (hpre { on := 3, ground := .data } (by simp) rfl).1
          have q18 : a'.tmps.getD 18 undef = .int .i64 k := (hpre { on := 3, ground := .data } (by simp) rfl).2
          have e17 := rg_ev q17
          have e18 := rg_ev q18
          exact rg_same2 (.pointer (some ⟨g1, o1 + k * 2, none⟩)) (by unfold Oper.wp execOp; go_simp; all_goals ((try simp only [e17, e18]); (try go_simp); (try rw [if_pos (by omega)]); (try rw [if_neg (by omega)]); first | done | rfl | exact ⟨rfl, rfl⟩ | trivial)) rfl (hT)
        | 5, _, ho =>
          cases ho
          have f19 := (hpre { on := 4, ground := .data } (by simp) rfl).1
          have q19 : a'.tmps.getD 19 undef = .pointer (some ⟨g1, o1 + k * 2, none⟩) := (hpre { on := 4, ground := .data } (by simp) rfl).2
          have e19 := rg_ev q19
          exact rg_same2 (.pointer (some ⟨g1, o1 + k * 2, none⟩)) (by unfold Oper.wp execOp; go_simp; all_goals ((try simp only [e19]); (try go_simp); (try rw [if_pos (by omega)]); (try rw [if_neg (by omega)]); first | done | rfl | exact ⟨rfl, rfl⟩ | trivial)) rfl (hT)
        | 6, _, ho =>
          cases ho
          have f20 := (hpre { on := 5, ground := .data } (by simp) rfl).1
          have q20 : a'.tmps.getD 20 undef = .pointer (some ⟨g1, o1 + k * 2, none⟩) := (hpre { on := 5, ground := .data } (by simp) rfl).2
          have cX : W.cell? ⟨g1, o1 + k * 2, none⟩ = some (.string nb) := by rw [hT]; exact HX.out
          have e20 := rg_ev q20
          exact rg_same2 (.string nb) (by unfold Oper.wp execOp; go_simp; all_goals ((try simp only [e20]); (try go_simp); (try rw [if_pos (by omega)]); (try rw [if_neg (by omega)]); first | done | rfl | exact ⟨rfl, rfl⟩ | trivial)) rfl (hT)
        | 7, _, ho =>
          cases ho
          have f15 := (hpre { on := 0, ground := .data } (by simp) rfl).1
          have q15 : a'.tmps.getD 15 undef = .string sb := (hpre { on := 0, ground := .data } (by simp) rfl).2
          have f21 := (hpre { on := 6, ground := .data } (by simp) rfl).1
          have q21 : a'.tmps.getD 21 undef = .string nb := (hpre { on := 6, ground := .data } (by simp) rfl).2
          have e15 := rg_ev q15
          have e21 := rg_ev q21
          exact rg_same2 (.string (sb ++ nb)) (by unfold Oper.wp execOp; go_simp; all_goals ((try simp only [e15, e21]); (try go_simp); (try rw [if_pos (by omega)]); (try rw [if_neg (by omega)]); first | done | rfl | exact ⟨rfl, rfl⟩ | trivial)) rfl (hT)
        | 8, _, ho =>
          cases ho
          have f22 := (hpre { on := 7, ground := .data } (by simp) rfl).1
          have q22 : a'.tmps.getD 22 undef = .string (sb ++ nb) := (hpre { on := 7, ground := .data } (by simp) rfl).2
          have e22 := rg_ev q22
          exact rg_same2 (.string (sb ++ nb ++ (⟨#[58, 32]⟩ : ByteArray))) (by unfold Oper.wp execOp; go_simp; all_goals ((try simp only [e22]); (try go_simp); (try rw [if_pos (by omega)]); (try rw [if_neg (by omega)]); first | done | rfl | exact ⟨rfl, rfl⟩ | trivial)) rfl (hT)
        | 9, _, ho =>
          cases ho
          have q1 : a'.tmps.getD 1 undef = .pointer (some ⟨H, 0, none⟩) := (hrest 1 (by intro i hi; show 15 + min i 16 ≠ _; omega))
          have e1 := rg_ev q1
          exact rg_same2 (.pointer (some ⟨H, 1, none⟩)) (by unfold Oper.wp execOp; go_simp; all_goals ((try simp only [e1]); (try go_simp); (try rw [if_pos (by omega)]); (try rw [if_neg (by omega)]); first | done | rfl | exact ⟨rfl, rfl⟩ | trivial)) rfl (hT)
        | 10, _, ho =>
          cases ho
          have f24 := (hpre { on := 9, ground := .data } (by simp) rfl).1
          have q24 : a'.tmps.getD 24 undef = .pointer (some ⟨H, 1, none⟩) := (hpre { on := 9, ground := .data } (by simp) rfl).2
          have cH : W.cell? ⟨H, 1, none⟩ = some (.slice (some ⟨g1, o1, none⟩) N c) := by rw [hT]; exact HA1.out
          have e24 := rg_ev q24
          exact rg_same2 (.slice (some ⟨g1, o1, none⟩) N c) (by unfold Oper.wp execOp; go_simp; all_goals ((try simp only [e24]); (try go_simp); (try rw [if_pos (by omega)]); (try rw [if_neg (by omega)]); first | done | rfl | exact ⟨rfl, rfl⟩ | trivial)) rfl (hT)
        | 11, _, ho =>
          cases ho
          have q4 : a'.tmps.getD 4 undef = .int .i64 k := (hrest 4 (by intro i hi; show 15 + min i 16 ≠ _; omega))
          have e4 := rg_ev q4
          exact rg_same2 (.int .i64 k) (by unfold Oper.wp execOp; go_simp; all_goals ((try simp only [e4]); (try go_simp); (try rw [if_pos (by omega)]); (try rw [if_neg (by omega)]); first | done | rfl | exact ⟨rfl, rfl⟩ | trivial)) rfl (hT)
        | 12, _, ho =>
          cases ho
          have f25 := (hpre { on := 10, ground := .data } (by simp) rfl).1
          have q25 : a'.tmps.getD 25 undef = .slice (some ⟨g1, o1, none⟩) N c := (hpre { on := 10, ground := .data } (by simp) rfl).2
          have f26 := (hpre { on := 11, ground := .data } (by simp) rfl).1
          have q26 : a'.tmps.getD 26 undef = .int .i64 k := (hpre { on := 11, ground := .data } (by simp) rfl).2
          have e25 := rg_ev q25
          have e26 := rg_ev q26
          exact rg_same2 (.pointer (some ⟨g1, o1 + k * 2, none⟩)) (by unfold Oper.wp execOp; go_simp; all_goals ((try simp only [e25, e26]); (try go_simp); (try rw [if_pos (by omega)]); (try rw [if_neg (by omega)]); first | done | rfl | exact ⟨rfl, rfl⟩ | trivial)) rfl (hT)
        | 13, _, ho =>
          cases ho
          have f27 := (hpre { on := 12, ground := .data } (by simp) rfl).1
          have q27 : a'.tmps.getD 27 undef = .pointer (some ⟨g1, o1 + k * 2, none⟩) := (hpre { on := 12, ground := .data } (by simp) rfl).2
          have e27 := rg_ev q27
          exact rg_same2 (.pointer (some ⟨g1, o1 + k * 2 + 1, none⟩)) (by unfold Oper.wp execOp; go_simp; all_goals ((try simp only [e27]); (try go_simp); (try rw [if_pos (by omega)]); (try rw [if_neg (by omega)]); first | done | rfl | exact ⟨rfl, rfl⟩ | trivial)) rfl (hT)
        | 14, _, ho =>
          cases ho
          have f28 := (hpre { on := 13, ground := .data } (by simp) rfl).1
          have q28 : a'.tmps.getD 28 undef = .pointer (some ⟨g1, o1 + k * 2 + 1, none⟩) := (hpre { on := 13, ground := .data } (by simp) rfl).2
          have cY : W.cell? ⟨g1, o1 + k * 2 + 1, none⟩ = some (.string vb) := by rw [hT]; exact HY.out
          have e28 := rg_ev q28
          exact rg_same2 (.string vb) (by unfold Oper.wp execOp; go_simp; all_goals ((try simp only [e28]); (try go_simp); (try rw [if_pos (by omega)]); (try rw [if_neg (by omega)]); first | done | rfl | exact ⟨rfl, rfl⟩ | trivial)) rfl (hT)
        | 15, _, ho =>
          cases ho
          have f23 := (hpre { on := 8, ground := .data } (by simp) rfl).1
          have q23 : a'.tmps.getD 23 undef = .string (sb ++ nb ++ (⟨#[58, 32]⟩ : ByteArray)) := (hpre { on := 8, ground := .data } (by simp) rfl).2
          have f29 := (hpre { on := 14, ground := .data } (by simp) rfl).1
          have q29 : a'.tmps.getD 29 undef = .string vb := (hpre { on := 14, ground := .data } (by simp) rfl).2
          have e23 := rg_ev q23
          have e29 := rg_ev q29
          exact rg_same2 (.string (sb ++ nb ++ (⟨#[58, 32]⟩ : ByteArray) ++ vb)) (by unfold Oper.wp execOp; go_simp; all_goals ((try simp only [e23, e29]); (try go_simp); (try rw [if_pos (by omega)]); (try rw [if_neg (by omega)]); first | done | rfl | exact ⟨rfl, rfl⟩ | trivial)) rfl (hT)
        | 16, _, ho =>
          cases ho
          have f30 := (hpre { on := 15, ground := .data } (by simp) rfl).1
          have q30 : a'.tmps.getD 30 undef = .string (sb ++ nb ++ (⟨#[58, 32]⟩ : ByteArray) ++ vb) := (hpre { on := 15, ground := .data } (by simp) rfl).2
          have e30 := rg_ev q30
          exact rg_same2 (.string ((sb ++ nb ++ (⟨#[58, 32]⟩ : ByteArray) ++ vb) ++ (⟨#[13, 10]⟩ : ByteArray))) (by unfold Oper.wp execOp; go_simp; all_goals ((try simp only [e30]); (try go_simp); (try rw [if_pos (by omega)]); (try rw [if_neg (by omega)]); first | done | rfl | exact ⟨rfl, rfl⟩ | trivial)) rfl (hT)
        | n + 17, hib, _ => exact absurd hib (by omega)
      case last =>
        intro f vs W oL ho hall hT hvs
        have hopL : oL.op = Op.assign (.tmp 31) := by cases ho; rfl
        have hdsL : oL.dst = some 3 := by cases ho; rfl
        clear ho hall
        have v0 : vs 0 = .string sb := hvs 0 (by decide)
        have v1 : vs 1 = .pointer (some ⟨H, 1, none⟩) := hvs 1 (by decide)
        have v2 : vs 2 = .slice (some ⟨g1, o1, none⟩) N c := hvs 2 (by decide)
        have v3 : vs 3 = .int .i64 k := hvs 3 (by decide)
        have v4 : vs 4 = .pointer (some ⟨g1, o1 + k * 2, none⟩) := hvs 4 (by decide)
        have v5 : vs 5 = .pointer (some ⟨g1, o1 + k * 2, none⟩) := hvs 5 (by decide)
        have v6 : vs 6 = .string nb := hvs 6 (by decide)
        have v7 : vs 7 = .string (sb ++ nb) := hvs 7 (by decide)
        have v8 : vs 8 = .string (sb ++ nb ++ (⟨#[58, 32]⟩ : ByteArray)) := hvs 8 (by decide)
        have v9 : vs 9 = .pointer (some ⟨H, 1, none⟩) := hvs 9 (by decide)
        have v10 : vs 10 = .slice (some ⟨g1, o1, none⟩) N c := hvs 10 (by decide)
        have v11 : vs 11 = .int .i64 k := hvs 11 (by decide)
        have v12 : vs 12 = .pointer (some ⟨g1, o1 + k * 2, none⟩) := hvs 12 (by decide)
        have v13 : vs 13 = .pointer (some ⟨g1, o1 + k * 2 + 1, none⟩) := hvs 13 (by decide)
        have v14 : vs 14 = .string vb := hvs 14 (by decide)
        have v15 : vs 15 = .string (sb ++ nb ++ (⟨#[58, 32]⟩ : ByteArray) ++ vb) := hvs 15 (by decide)
        have v16 : vs 16 = .string ((sb ++ nb ++ (⟨#[58, 32]⟩ : ByteArray) ++ vb) ++ (⟨#[13, 10]⟩ : ByteArray)) := hvs 16 (by decide)
        simp only [fillN, List.size_toArray, List.length_cons, List.length_nil, Nat.reduceAdd, show List.range 17 = [0, 1, 2, 3, 4, 5, 6, 7, 8, 9, 10, 11, 12, 13, 14, 15, 16] from rfl, List.foldl_cons, List.foldl_nil, show 15 + min 0 16 = 15 from rfl, show 15 + min 1 16 = 16 from rfl, show 15 + min 2 16 = 17 from rfl, show 15 + min 3 16 = 18 from rfl, show 15 + min 4 16 = 19 from rfl, show 15 + min 5 16 = 20 from rfl, show 15 + min 6 16 = 21 from rfl, show 15 + min 7 16 = 22 from rfl, show 15 + min 8 16 = 23 from rfl, show 15 + min 9 16 = 24 from rfl, show 15 + min 10 16 = 25 from rfl, show 15 + min 11 16 = 26 from rfl, show 15 + min 12 16 = 27 from rfl, show 15 + min 13 16 = 28 from rfl, show 15 + min 14 16 = 29 from rfl, show 15 + min 15 16 = 30 from rfl, show 15 + min 16 16 = 31 from rfl, v0, v1, v2, v3, v4, v5, v6, v7, v8, v9, v10, v11, v12, v13, v14, v15, v16]
        clear v0 v1 v2 v3 v4 v5 v6 v7 v8 v9 v10 v11 v12 v13 v14 v15 v16 hvs
        have hT' : W = W1.drewN (n + 1) := hT
        clear hT
        unfold Oper.wp execOp
        simp only [hopL]
        go_simp
        rw [HQ.out]
        clear hopL hdsL
        go_wp2_with fail
        go_roundw
        case rel => exact ⟨k + 1, n + 1, by omega, by go_num, rfl, rfl⟩
        case measure => simp [intOf]; omega
      case start => rfl
    · have HTF := Lib.hid (show fs.take k = fs by rw [List.take_of_length_le (by rw [HNN.out]; omega)])
      have hln := sumfld (fs.take k) (fun f hf => HSZ.out f (List.mem_of_mem_take hf))
      have hln2 : (fs.take k).length ≤ 1000 := by rw [List.length_take, HNN.out]; omega
      have hln3 : (fs.take k).length * 200004 ≤ 1000 * 200004 := Nat.mul_le_mul_right _ hln2
      have hss := (show (⟨(F ++ [13, 10] ++ Hp.lines (fs.take k)).toArray⟩ : ByteArray).size = F.length + 2 + (Hp.lines (fs.take k)).length by simp [ByteArray.size]; omega)
      have HQ := Lib.hid (show (⟨(F ++ [13, 10] ++ Hp.lines (fs.take k)).toArray⟩ : ByteArray) ++ ⟨#[13, 10]⟩ = ⟨(Hp.hbytes F fs).toArray⟩ by
        rw [HTF.out]
        apply ByteArray.ext; apply Array.ext'; simp [Hp.hbytes])
      obtain ⟨sb, hsb⟩ : ∃ z : ByteArray, (⟨(F ++ [13, 10] ++ Hp.lines (fs.take k)).toArray⟩ : ByteArray) = z := ⟨_, rfl⟩
      rw [hsb] at hss HQ ⊢
      have hFF := HFF.out
      have hsl : sb.size ≤ 300000000 := by omega
      have HBe := Lib.hid (show Below w.heap.size w (W1.drewN n) from HHH.out ▸ (HB1.out.trans ⟨rfl, rfl, rfl, Nat.le_refl _, fun _ _ => rfl⟩))
      clear hln hln2 hln3 hss hsb hFF
      go_wp2_with fail
      go_ret
      exact ⟨by rw [HQ.out]; rfl, HBe.out⟩
end Go.Proofs.YthfdnlcalefjeaaDoor

/- answer: Refusal, Health, Stream. -/
namespace Go.Proofs.YthfdnlcalefjeaaDoor
set_option linter.unusedVariables false
set_option linter.unusedSimpArgs false
open Go.RowKit Go.Shelf
set_option maxHeartbeats 8000000
set_option maxRecDepth 100000
def erOf (o : Option (List UInt8)) : Int := if o.isSome then 0 else 2
/-- what is told: bytes, or none -/
def AnOut (w : World) (o : Option (List UInt8)) (e : Ending) : Prop := ∃ r, e = .returned (.tuple #[r, .int .i64 (erOf o)]) ∧ BRow w r (o.getD [])
theorem anOut_of {w : World} {o : Option (List UInt8)} {e : Ending} (h : PlOut w o e) : AnOut w o e := by
  cases o with
  | none => exact ⟨_, h, BRow.nil w⟩
  | some l => obtain ⟨r, h1, h2⟩ := h; exact ⟨r, h1, h2⟩
theorem plain_any (n : Int) (text : ByteArray) (w : World) (hn : -9223372036854775808 ≤ n ∧ n ≤ 9223372036854775807) (ht : text.size ≤ 9223372036854775807) (htb : Tabs w) :
    Calls Tryd.prog 9 #[.int .i64 n, .string text] w fun e w' => AnOut w' (Hp.plain n text.data.toList) e ∧ Below w.heap.size w w' :=
  (ans_Plain n text w hn ht htb).mono fun e w' h => ⟨anOut_of h.1, h.2⟩
theorem digs_lenk (k : Nat) : ∀ n, n < 10 ^ (k + 1) → (Dp.digs 10 n).length ≤ k + 1 := by
  induction k with
  | zero => intro n hn; rw [Dp.digs_lt (by simpa using hn)]; simp
  | succ k ih =>
    intro n hn
    by_cases h : n < 10
    · rw [Dp.digs_lt h]; simp
    · rw [Dp.digs_ge (by omega) h, List.length_append, List.length_singleton]
      have := ih (n / 10) (by rw [Nat.div_lt_iff_lt_mul (by omega), ← Nat.pow_succ]; exact hn)
      omega
theorem digs_len64 (n : Nat) (h : n ≤ 9223372036854775807) : (Dp.digs 10 n).length ≤ 20 := digs_lenk 19 n (by omega)
theorem ans_Refusal (n : Int) (w : World) (hn : -9223372036854775808 ≤ n ∧ n ≤ 9223372036854775807) (htb : Tabs w) :
    Calls Tryd.prog 10 #[.int .i64 n] w fun e w' => AnOut w' (Hp.refusal n) e ∧ Below w.heap.size w w' := by
  have HTB := Lib.hid htb
  have KR := Lib.hid (ans_Reason n w)
  obtain ⟨o, ho⟩ : ∃ o, Hp.reason n = o := ⟨_, rfl⟩
  rw [ho] at KR
  clear htb
  cases o with
  | none =>
    have HPL := Lib.hid (show Hp.refusal n = none by unfold Hp.refusal; rw [ho])
    unfold Hp.reaOut at KR
    clear ho
    go_enter Tryd.func10, Tryd.ntmps10
    go_wp2_with fail
    refine KR.out.mono ?_
    rintro e w2 ⟨rfl, hb2⟩
    have HB2 := Lib.hid hb2
    clear hb2
    go_wp2_with fail
    go_ret2
    exact ⟨by rw [HPL.out]; exact ⟨_, rfl, BRow.nil _⟩, HB2.out⟩
  | some r =>
    have hok := Hp.reason_ok ho
    unfold Hp.reaOut Hp.sx at KR
    simp only at KR
    by_cases h2 : n = 200
    · have HPL := Lib.hid (show Hp.refusal n = none by unfold Hp.refusal; rw [ho]; simp only; rw [if_pos h2])
      have he : (n == 200) = true := beq_iff_eq.2 h2
      clear ho hok h2
      go_enter Tryd.func10, Tryd.ntmps10
      go_wp2_with fail
      refine KR.out.mono ?_
      rintro e w2 ⟨rfl, hb2⟩
      have HB2 := Lib.hid hb2
      clear hb2
      go_wp2_with fail
      go_ret2
      exact ⟨by rw [HPL.out]; exact ⟨_, rfl, BRow.nil _⟩, HB2.out⟩
    · have he : (n == 200) = false := beq_eq_false_iff_ne.2 h2
      obtain ⟨m, rfl⟩ : ∃ m : Nat, n = (m : Int) := ⟨n.toNat, by omega⟩
      have hm1 : 200 ≤ m ∧ m ≤ 505 := by omega
      have HPL := Lib.hid (show Hp.refusal m = Hp.plain m (Dp.digs 10 m ++ 32 :: Tp.lower r) by unfold Hp.refusal; rw [ho]; simp only; rw [if_neg h2]; simp)
      have KD := Lib.hid (fun W (h : Tabs W) => dec_text m W (by omega) h)
      have hrd : (⟨r.toArray⟩ : ByteArray).data.toList = r := by simp
      have hrs := (show (⟨r.toArray⟩ : ByteArray).size = r.length by simp [ByteArray.size])
      have hds := (show (⟨(Dp.digs 10 m).toArray⟩ : ByteArray).size = (Dp.digs 10 m).length by simp [ByteArray.size])
      have hls := (show (⟨(Tp.lower r).toArray⟩ : ByteArray).size = r.length by simp [ByteArray.size, Tp.lower])
      have hcat : ((⟨(Dp.digs 10 m).toArray⟩ : ByteArray) ++ ⟨#[32]⟩ ++ ⟨(Tp.lower r).toArray⟩).data.toList = Dp.digs 10 m ++ 32 :: Tp.lower r := by simp
      obtain ⟨rb, hrb⟩ : ∃ z : ByteArray, (⟨r.toArray⟩ : ByteArray) = z := ⟨_, rfl⟩
      rw [hrb] at KR hrd hrs
      have KL := Lib.hid (fun W => tok_lower rb W (by omega))
      rw [hrd] at KL
      obtain ⟨db, hdb⟩ : ∃ z : ByteArray, (⟨(Dp.digs 10 m).toArray⟩ : ByteArray) = z := ⟨_, rfl⟩
      obtain ⟨lb, hlb⟩ : ∃ z : ByteArray, (⟨(Tp.lower r).toArray⟩ : ByteArray) = z := ⟨_, rfl⟩
      rw [hdb] at KD hds hcat
      rw [hlb] at KL hls hcat
      have hdl := digs_len_le m
      have hdb2 : db.size ≤ 506 := by omega
      have hlb2 : lb.size ≤ 31 := by omega
      obtain ⟨xb, hxb⟩ : ∃ z : ByteArray, db ++ ⟨#[32]⟩ ++ lb = z := ⟨_, rfl⟩
      have hxs : xb.size ≤ 1000 := by
        rw [← hxb, ByteArray.size_append, ByteArray.size_append]
        have : (⟨#[32]⟩ : ByteArray).size = 1 := rfl
        omega
      rw [hxb] at hcat
      have KP := Lib.hid (fun W (h : Tabs W) => plain_any m xb W (by omega) (by omega) h)
      rw [hcat, ← HPL.out] at KP
      clear ho hok h2 hrd hrs hds hls hrb hdb hlb hdl hcat hxs
      go_enter Tryd.func10, Tryd.ntmps10
      go_wp2_with fail
      refine KR.out.mono ?_
      rintro e w2 ⟨rfl, hb2⟩
      have HB2 := Lib.hid hb2
      clear hb2
      go_wp2_with fail
      refine (KD.out w2 (HTB.out.bel HB2.out)).mono ?_
      rintro e w3 ⟨rfl, hb3⟩
      have HB3 := Lib.hid (HB2.out.trans (hb3.mono HB2.out.size))
      clear hb3
      go_wp2_with fail
      refine (KL.out w3).mono ?_
      rintro e w4 ⟨rfl, hb4⟩
      have HB4 := Lib.hid (HB3.out.trans (hb4.mono HB3.out.size))
      clear hb4
      go_wp2_with fail
      refine (KP.out w4 (HTB.out.bel HB4.out)).mono ?_
      rintro e w5 ⟨⟨v5, rfl, hv5⟩, hb5⟩
      have HV5 := Lib.hid hv5
      have HB5 := Lib.hid (HB4.out.trans (hb5.mono HB4.out.size))
      clear hb5 hv5
      go_wp2_with fail
      go_ret2
      exact ⟨⟨_, rfl, HV5.out⟩, HB5.out⟩
end Go.Proofs.YthfdnlcalefjeaaDoor

/- A number's digits, read back, are that number: with noughts ahead, or in capitals, too. No program in sight. -/
namespace Go.Proofs.YthfdnlcalefjeaaDoor
set_option linter.unusedVariables false
set_option linter.unusedSimpArgs false
namespace Dp
theorem rd_append (b : Int) : ∀ (l r : List UInt8) (n : Int), (rd b l n).2 = 0 → rd b (l ++ r) n = rd b r (rd b l n).1
  | [], r, n, _ => rfl
  | c :: l, r, n, h => by
    simp only [rd, List.cons_append] at h ⊢
    by_cases h1 : mulE n b ≠ 0
    · rw [if_pos h1] at h; simp at h
    · rw [if_neg h1] at h ⊢
      by_cases h2 : addE (mulN n b) (digV c.toNat) ≠ 0
      · rw [if_pos h2] at h; simp at h
      · rw [if_neg h2] at h ⊢
        rw [rd_append b l r _ h, if_neg h1, if_neg h2]
theorem rd_one {b n : Int} {c : UInt8} (h0 : 0 ≤ n * b) (h : n * b + digV c.toNat < 18446744073709551616) : rd b [c] n = (n * b + digV c.toNat, 0) := by
  have hd := digV_lo (c.toNat : Int)
  have e1 : mulE n b = 0 := by unfold mulE; rw [if_pos (by omega)]
  have e2 : mulN n b = n * b := by unfold mulN; rw [if_pos (by omega)]
  have e3 : addE (n * b) (digV c.toNat) = 0 := by unfold addE; rw [if_pos h]
  have e4 : addN (n * b) (digV c.toNat) = n * b + digV c.toNat := by unfold addN; rw [if_pos h]
  simp only [rd]
  rw [if_neg (by rw [e1]; decide), e2, if_neg (by rw [e3]; decide), e4]
theorem dg_val : ∀ i : Fin 16, digV ((dg i.val).toNat : Int) = i.val := by decide +kernel
/-- digits that f turns into digits of the same value -/
theorem rd_digs {b : Nat} (hb : 2 ≤ b) (hb' : b ≤ 16) (f : UInt8 → UInt8) (hf : ∀ i : Fin 16, digV ((f (dg i.val)).toNat : Int) = i.val) :
    ∀ n : Nat, n < 18446744073709551616 → rd b ((digs b n).map f) 0 = ((n : Int), 0) := by
  intro n
  induction n using Nat.strongRecOn with
  | _ n ih =>
    intro hn
    by_cases h : n < b
    · rw [digs_lt h]
      have h1 := hf ⟨n, by omega⟩
      have h2 := rd_one (b := b) (n := 0) (c := f (dg n)) (by simp) (by rw [h1]; simp; omega)
      rw [h1] at h2
      simpa using h2
    · rw [digs_ge hb h, List.map_append]
      have hlt : n / b < n := Nat.div_lt_self (by omega) (by omega)
      have h3 := ih (n / b) hlt (by omega)
      have hm : n % b < b := Nat.mod_lt _ (by omega)
      have h1 := hf ⟨n % b, by omega⟩
      have hq : ((n / b : Nat) : Int) * (b : Int) + ((n % b : Nat) : Int) = (n : Int) := by
        have := Nat.div_add_mod n b
        rw [Nat.mul_comm] at this
        exact_mod_cast this
      have h2 := rd_one (b := b) (n := ((n / b : Nat) : Int)) (c := f (dg (n % b))) (Int.mul_nonneg (Int.natCast_nonneg _) (Int.natCast_nonneg _)) (by rw [h1]; simp only; rw [hq]; omega)
      rw [h1] at h2
      simp only at h2
      rw [hq] at h2
      rw [rd_append _ _ _ _ (by rw [h3]), h3]
      exact h2
theorem all_digs {b : Nat} (hb : 2 ≤ b) (hb' : b ≤ 16) (f : UInt8 → UInt8) (hf : ∀ i : Fin 16, digV ((f (dg i.val)).toNat : Int) = i.val) :
    ∀ n : Nat, allD b ((digs b n).map f) = true := by
  intro n
  induction n using Nat.strongRecOn with
  | _ n ih =>
    by_cases h : n < b
    · rw [digs_lt h]
      have h1 := hf ⟨n, by omega⟩
      simp only at h1
      simp [allD, h1]; omega
    · rw [digs_ge hb h, List.map_append]
      have hlt : n / b < n := Nat.div_lt_self (by omega) (by omega)
      have h3 := ih (n / b) hlt
      have hm : n % b < b := Nat.mod_lt _ (by omega)
      have h1 := hf ⟨n % b, by omega⟩
      simp only at h1
      unfold allD at h3 ⊢
      rw [List.all_append, h3]
      simp [h1]; omega
theorem num_map {b : Nat} (hb : 2 ≤ b) (hb' : b ≤ 16) (f : UInt8 → UInt8) (hf : ∀ i : Fin 16, digV ((f (dg i.val)).toNat : Int) = i.val) (n : Nat) (hn : n < 18446744073709551616) :
    numN b ((digs b n).map f) = n ∧ numE b ((digs b n).map f) = 0 := by
  have h1 := all_digs hb hb' f hf n
  have h2 := rd_digs hb hb' f hf n hn
  have h3 : ¬ ((digs b n).map f = [] ∨ allD b ((digs b n).map f) = false) := by
    rw [h1]
    have := digs_ne b n
    simpa using this
  unfold numN numE
  rw [if_neg h3, if_neg h3, h2]
  exact ⟨rfl, rfl⟩
theorem num_digs {b : Nat} (hb : 2 ≤ b) (hb' : b ≤ 16) (n : Nat) (hn : n < 18446744073709551616) : numN b (digs b n) = n ∧ numE b (digs b n) = 0 := by
  have := num_map hb hb' id (fun i => dg_val i) n hn
  rwa [List.map_id] at this
theorem digs_head {b : Nat} (hb : 2 ≤ b) (hb' : b ≤ 16) : ∀ n : Nat, 1 ≤ n → (digs b n).head? ≠ some 48 := by
  intro n
  induction n using Nat.strongRecOn with
  | _ n ih =>
    intro h1
    by_cases h : n < b
    · rw [digs_lt h]
      have : ∀ i : Fin 16, 1 ≤ i.val → dg i.val ≠ 48 := by decide +kernel
      intro e
      exact this ⟨n, by omega⟩ h1 (by simpa using e)
    · rw [digs_ge hb h]
      have hlt : n / b < n := Nat.div_lt_self (by omega) (by omega)
      have hp : 1 ≤ n / b := (Nat.le_div_iff_mul_le (by omega)).2 (by omega)
      have h3 := ih (n / b) hlt hp
      have h4 := digs_ne b (n / b)
      cases hd : digs b (n / b) with
      | nil => exact absurd hd h4
      | cons c l => rw [hd] at h3; exact h3
theorem par_digs (n : Nat) (hn : n < 18446744073709551616) : parN (digs 10 n) = n ∧ parE (digs 10 n) = 0 := by
  have h := num_digs (b := 10) (by omega) (by omega) n hn
  have h2 : ¬ (1 < (digs 10 n).length ∧ (digs 10 n).head? = some 48) := by
    rintro ⟨h1, h2⟩
    by_cases h0 : 1 ≤ n
    · exact digs_head (b := 10) (by omega) (by omega) n h0 h2
    · rw [digs_lt (by omega)] at h1
      simp at h1
  unfold parN parE
  rw [if_neg h2, if_neg h2]
  exact h
theorem rd_noughts (b : Int) (l : List UInt8) : ∀ k, rd b (List.replicate k 48 ++ l) 0 = rd b l 0
  | 0 => rfl
  | k + 1 => by
    have e1 : mulE 0 b = 0 := by unfold mulE; rw [if_pos (by omega)]
    have e2 : mulN 0 b = 0 := by unfold mulN; rw [if_pos (by omega)]; omega
    have e5 : digV (((48 : UInt8).toNat : Nat) : Int) = 0 := by decide
    have e3 : addE 0 0 = 0 := by decide
    have e4 : addN 0 0 = 0 := by decide
    rw [List.replicate_succ, List.cons_append]
    show (if mulE 0 b ≠ 0 then _ else _) = _
    rw [if_neg (by rw [e1]; decide), e2, e5, if_neg (by rw [e3]; decide), e4]
    exact rd_noughts b l k
theorem num_noughts (l : List UInt8) (k : Nat) (h0 : l ≠ []) (ha : allD 10 l = true) : numN 10 (List.replicate k 48 ++ l) = numN 10 l ∧ numE 10 (List.replicate k 48 ++ l) = numE 10 l := by
  have h1 : allD 10 (List.replicate k 48 ++ l) = true := by
    unfold allD at ha ⊢
    rw [List.all_append, ha, Bool.and_true, List.all_eq_true]
    intro c hc
    have := List.eq_of_mem_replicate hc
    subst this
    decide
  have h2 : ¬ (List.replicate k 48 ++ l = [] ∨ allD 10 (List.replicate k 48 ++ l) = false) := by
    rw [h1]; simp [h0]
  have h3 : ¬ (l = [] ∨ allD 10 l = false) := by rw [ha]; simp [h0]
  unfold numN numE
  rw [if_neg h2, if_neg h2, if_neg h3, if_neg h3, rd_noughts]
  exact ⟨rfl, rfl⟩
theorem digs_noughts (n k : Nat) (hn : n < 18446744073709551616) : numN 10 (List.replicate k 48 ++ digs 10 n) = n ∧ numE 10 (List.replicate k 48 ++ digs 10 n) = 0 := by
  have h := num_noughts (digs 10 n) k (digs_ne 10 n) (by have := all_digs (b := 10) (by omega) (by omega) id (fun i => dg_val i) n; rwa [List.map_id] at this)
  have h2 := num_digs (b := 10) (by omega) (by omega) n hn
  rw [h.1, h.2]
  exact h2
theorem digs_length_le {b : Nat} (hb : 2 ≤ b) : ∀ (k n : Nat), n < b ^ k → 1 ≤ k → (digs b n).length ≤ k
  | 0, n, _, h => absurd h (by omega)
  | k + 1, n, h, _ => by
    by_cases hl : n < b
    · rw [digs_lt hl]; simp
    · rw [digs_ge hb hl, List.length_append]
      have h1 : n / b < b ^ k := by rw [Nat.div_lt_iff_lt_mul (by omega)]; rwa [← Nat.pow_succ]
      have hk : 1 ≤ k := by
        cases k with
        | zero => exact absurd h (by simpa using hl)
        | succ k => omega
      have := digs_length_le hb k (n / b) h1 hk
      simp; omega
end Dp
end Go.Proofs.YthfdnlcalefjeaaDoor

/- The reference's texts of a number are its digits. -/
namespace Go.Proofs.YthfdnlcalefjeaaDoor
set_option linter.unusedVariables false
set_option linter.unusedSimpArgs false
open Go.RowKit
set_option maxHeartbeats 1000000
theorem hex_slice (r : Nat) (h : r < 16) (w : World) : (Instr.slice 9 (.string ⟨#[48, 49, 50, 51, 52, 53, 54, 55, 56, 57, 97, 98, 99, 100, 101, 102]⟩) (some (.int .u64 (r : Int))) (some (.int .u64 ((r : Int) + 1))) none).run Tryd.prog w = .ok (.string ⟨#[Dp.dg r]⟩) w :=
  match r, h with
  | 0, _ => by kernel_rfl
  | 1, _ => by kernel_rfl
  | 2, _ => by kernel_rfl
  | 3, _ => by kernel_rfl
  | 4, _ => by kernel_rfl
  | 5, _ => by kernel_rfl
  | 6, _ => by kernel_rfl
  | 7, _ => by kernel_rfl
  | 8, _ => by kernel_rfl
  | 9, _ => by kernel_rfl
  | 10, _ => by kernel_rfl
  | 11, _ => by kernel_rfl
  | 12, _ => by kernel_rfl
  | 13, _ => by kernel_rfl
  | 14, _ => by kernel_rfl
  | 15, _ => by kernel_rfl
  | n + 16, h => absurd h (by omega)
theorem cons_bytes (c : UInt8) (l : List UInt8) : ((⟨#[c]⟩ : ByteArray) ++ ⟨l.toArray⟩) = ⟨(c :: l).toArray⟩ := by
  apply ByteArray.ext
  rw [ByteArray.data_append]
  simp
set_option maxRecDepth 100000 in
theorem ref_told10 (u : Nat) (hu : u < 18446744073709551616) (w : World) :
    Calls Tryd.prog 36 #[.int .u64 (u : Int), .int .u64 10] w fun e w' => e = .returned (.string ⟨(Dp.digs 10 u).toArray⟩) ∧ w = w' := by
  have HS := Lib.hid (fun r (h : r < 16) => hex_slice r h w)
  go_enter Tryd.func36, Tryd.ntmps36
  go_wp2_with fail
  go_loop [0, 5] (fun n s => ∃ (m : Nat) (l : List UInt8), n = .int .u64 m ∧ s = .string ⟨l.toArray⟩ ∧ m < 18446744073709551616 ∧ Hid (Dp.digs 10 u = Dp.digs 10 m ++ l)) (fun n _ => (intOf n).toNat)
  case atStart => exact ⟨u, [], rfl, rfl, hu, Lib.hid (by rw [List.append_nil])⟩
  case round =>
    obtain ⟨m, l, rfl, rfl, hm, HD⟩ := hrel
    have hl : l.length ≤ 20 := by
      have h1 := congrArg List.length HD.out
      have h2 := Dp.digs_length_le (b := 10) (by omega) 20 u (by omega) (by omega)
      rw [List.length_append] at h1
      omega
    obtain ⟨r, hr⟩ : ∃ r : Nat, m % 10 = r := ⟨_, rfl⟩
    obtain ⟨q, hq⟩ : ∃ r : Nat, m / 10 = r := ⟨_, rfl⟩
    have er : (m : Int) % 10 = (r : Int) := by rw [← hr]; rfl
    have eq : (m : Int) / 10 = (q : Int) := by rw [← hq]; rfl
    have hr16 : r < 16 := by omega
    have hs := HS.out r hr16
    have HR := Lib.hid hr
    have HQ := Lib.hid hq
    have HQM := Lib.hid (show q ≤ m by rw [← hq]; exact Nat.div_le_self _ _)
    clear hr hq
    obtain ⟨y, hy⟩ : ∃ y : ByteArray, (⟨#[Dp.dg r]⟩ : ByteArray) ++ ⟨l.toArray⟩ = y := ⟨_, rfl⟩
    have HY := Lib.hid hy
    by_cases h0 : q = 0
    · subst h0
      go_wp2
      go_ret
      have h1 := HQ.out
      have h2 := HR.out
      refine ⟨ret_str ?_, rfl⟩
      rw [HD.out, ← HY.out, cons_bytes, Dp.digs_lt (by omega), show m = r by omega]
      rfl
    · go_wp2
      go_round
      case rel =>
        have h1 := HQ.out
        refine ⟨q, Dp.dg r :: l, rfl, by rw [← HY.out, cons_bytes], by have := HQM.out; omega, Lib.hid ?_⟩
        rw [HD.out, Dp.digs_ge (by omega) (by omega), HR.out, HQ.out, List.append_assoc]
        rfl
      case measure => have h1 := HQ.out; simp [intOf]; omega
set_option maxRecDepth 100000 in
theorem ref_told16 (u : Nat) (hu : u < 18446744073709551616) (w : World) :
    Calls Tryd.prog 36 #[.int .u64 (u : Int), .int .u64 16] w fun e w' => e = .returned (.string ⟨(Dp.digs 16 u).toArray⟩) ∧ w = w' := by
  have HS := Lib.hid (fun r (h : r < 16) => hex_slice r h w)
  go_enter Tryd.func36, Tryd.ntmps36
  go_wp2_with fail
  go_loop [0, 5] (fun n s => ∃ (m : Nat) (l : List UInt8), n = .int .u64 m ∧ s = .string ⟨l.toArray⟩ ∧ m < 18446744073709551616 ∧ Hid (Dp.digs 16 u = Dp.digs 16 m ++ l)) (fun n _ => (intOf n).toNat)
  case atStart => exact ⟨u, [], rfl, rfl, hu, Lib.hid (by rw [List.append_nil])⟩
  case round =>
    obtain ⟨m, l, rfl, rfl, hm, HD⟩ := hrel
    have hl : l.length ≤ 20 := by
      have h1 := congrArg List.length HD.out
      have h2 := Dp.digs_length_le (b := 16) (by omega) 16 u (by omega) (by omega)
      rw [List.length_append] at h1
      omega
    obtain ⟨r, hr⟩ : ∃ r : Nat, m % 16 = r := ⟨_, rfl⟩
    obtain ⟨q, hq⟩ : ∃ r : Nat, m / 16 = r := ⟨_, rfl⟩
    have er : (m : Int) % 16 = (r : Int) := by rw [← hr]; rfl
    have eq : (m : Int) / 16 = (q : Int) := by rw [← hq]; rfl
    have hr16 : r < 16 := by omega
    have hs := HS.out r hr16
    have HR := Lib.hid hr
    have HQ := Lib.hid hq
    have HQM := Lib.hid (show q ≤ m by rw [← hq]; exact Nat.div_le_self _ _)
    clear hr hq
    obtain ⟨y, hy⟩ : ∃ y : ByteArray, (⟨#[Dp.dg r]⟩ : ByteArray) ++ ⟨l.toArray⟩ = y := ⟨_, rfl⟩
    have HY := Lib.hid hy
    by_cases h0 : q = 0
    · subst h0
      go_wp2
      go_ret
      have h1 := HQ.out
      have h2 := HR.out
      refine ⟨ret_str ?_, rfl⟩
      rw [HD.out, ← HY.out, cons_bytes, Dp.digs_lt (by omega), show m = r by omega]
      rfl
    · go_wp2
      go_round
      case rel =>
        have h1 := HQ.out
        refine ⟨q, Dp.dg r :: l, rfl, by rw [← HY.out, cons_bytes], by have := HQM.out; omega, Lib.hid ?_⟩
        rw [HD.out, Dp.digs_ge (by omega) (by omega), HR.out, HQ.out, List.append_assoc]
        rfl
      case measure => have h1 := HQ.out; simp [intOf]; omega
theorem ref_text (u : Nat) (hu : u < 18446744073709551616) (w : World) :
    Calls Tryd.prog 21 #[.int .u64 (u : Int)] w fun e w' => e = .returned (.string ⟨(Dp.digs 10 u).toArray⟩) ∧ w = w' := by
  have K := Lib.hid (ref_told10 u hu w)
  clear hu
  go_enter Tryd.func21, Tryd.ntmps21
  go_wp2_with fail
  refine K.out.mono ?_
  rintro e w' ⟨rfl, rfl⟩
  go_wp2
  go_ret
  exact ⟨rfl, rfl⟩
end Go.Proofs.YthfdnlcalefjeaaDoor

/- The reference's reasons and answers. -/
namespace Go.Proofs.YthfdnlcalefjeaaDoor
set_option linter.unusedVariables false
set_option linter.unusedSimpArgs false
open Go.RowKit Go.Shelf
set_option maxHeartbeats 8000000
set_option maxRecDepth 100000
namespace Hp
def stI : List Value := stats.map fun s => .int .i64 s.1
def stR : List Value := stats.map fun s => sx s.2
theorem st_at : ∀ j, j < 8 → stI[j]? = some (.int .i64 (st j).1) ∧ stR[j]? = some (sx (st j).2) := by
  intro j hj
  match j, hj with
  | 0, _ | 1, _ | 2, _ | 3, _ | 4, _ | 5, _ | 6, _ | 7, _ => exact ⟨rfl, rfl⟩
end Hp
theorem ref_Statuses (w : World) : Calls Tryd.prog 22 #[] w fun e w' => e = .returned (.slice (some ⟨w.heap.size, 0, none⟩) 8 8) ∧ w' = w.alloc (.cells Hp.stI.toArray 3) := by
  go_enter Tryd.func22, Tryd.ntmps22
  go_wp2_with fail
  go_ret
  exact ⟨rfl, rfl⟩
theorem ref_Reasons (w : World) : Calls Tryd.prog 23 #[] w fun e w' => e = .returned (.slice (some ⟨w.heap.size, 0, none⟩) 8 8) ∧ w' = w.alloc (.cells Hp.stR.toArray 9) := by
  go_enter Tryd.func23, Tryd.ntmps23
  go_wp2_with fail
  go_ret
  exact ⟨rfl, rfl⟩
theorem ref_Reason (n : Int) (w : World) :
    Calls Tryd.prog 11 #[.int .i64 n] w fun e w' => e = .returned (Hp.reaOut (Hp.reason n)) ∧ Below w.heap.size w w' := by
  obtain ⟨S, hS⟩ : ∃ S, w.heap.size = S := ⟨_, rfl⟩
  obtain ⟨W1, hW1⟩ : ∃ Z, w.alloc (.cells Hp.stI.toArray 3) = Z := ⟨_, rfl⟩
  have HB1 := Lib.hid (show Below w.heap.size w W1 by rw [← hW1]; exact (Below.refl _ _).alloc (Nat.le_refl _) _)
  have HG1 := Lib.hid (show W1.heap[S]? = some (.cells Hp.stI.toArray 3 (0, 0)) by rw [← hW1, ← hS]; exact World.alloc_heap_new _ _)
  have HK := Lib.hid (ref_Statuses w)
  have HSS := Lib.hid hS
  have HW1 := Lib.hid hW1
  have HRS := Lib.hid (ref_Reasons W1)
  clear hS hW1
  go_enter Tryd.func11, Tryd.ntmps11
  go_wp2_with fail
  refine HK.out.mono ?_
  rintro e w1 ⟨rfl, rfl⟩
  rw [HW1.out, HSS.out]
  go_wp2_with fail
  go_loop [5] (fun i => ∃ k : Nat, k ≤ 8 ∧ i = .int .i64 k ∧ Hp.NoS n k) (fun i => 8 - (intOf i).toNat)
  case atStart => exact ⟨0, Nat.zero_le _, rfl, fun s hs => by simp at hs⟩
  case round =>
    obtain ⟨k, hk, rfl, hall⟩ := hrel
    have HA := Lib.hid hall
    clear hall
    by_cases hlt : k < 8
    · obtain ⟨h1, h2⟩ := Hp.st_at k hlt
      have hc : W1.cell? ⟨S, k, none⟩ = some (.int .i64 (Hp.st k).1) := by simp only [World.cell?, HG1.out, List.getElem?_toArray, h1]; rfl
      obtain ⟨a, ha⟩ : ∃ a, (Hp.st k).1 = a := ⟨_, rfl⟩
      rw [ha] at hc
      have HAA := Lib.hid ha
      clear ha
      by_cases he : a = n
      · have HR := Lib.hid (Hp.noS_hit HA.out hlt (HAA.out.trans he))
        have e1 : (a == n) = true := beq_iff_eq.2 he
        obtain ⟨R, hR⟩ : ∃ R, W1.heap.size = R := ⟨_, rfl⟩
        obtain ⟨W2, hW2⟩ : ∃ Z, W1.alloc (.cells Hp.stR.toArray 9) = Z := ⟨_, rfl⟩
        have HB2 := Lib.hid (show Below w.heap.size w W2 by rw [← hW2]; exact HB1.out.alloc HB1.out.size _)
        have hg2 : W2.heap[R]? = some (.cells Hp.stR.toArray 9 (0, 0)) := by rw [← hW2, ← hR]; exact World.alloc_heap_new _ _
        have hc2 : W2.cell? ⟨R, k, none⟩ = some (Hp.sx (Hp.st k).2) := by simp only [World.cell?, hg2, List.getElem?_toArray, h2]; rfl
        obtain ⟨x, hx⟩ : ∃ x, Hp.sx (Hp.st k).2 = x := ⟨_, rfl⟩
        rw [hx] at hc2
        have HX := Lib.hid hx
        have HW2 := Lib.hid hW2
        have HRR := Lib.hid hR
        clear he h1 h2 hg2 hx hW2 hR
        go_wp2_with fail
        refine HRS.out.mono ?_
        rintro e w3 ⟨rfl, hw3⟩
        rw [HW2.out] at hw3
        subst hw3
        rw [HRR.out]
        go_wp2_with fail
        go_ret2
        exact ⟨by rw [HR.out, ← HX.out]; rfl, HB2.out⟩
      · have HN := Lib.hid (Hp.noS_next HA.out hlt (by rw [HAA.out]; exact he))
        have e1 : (a == n) = false := beq_eq_false_iff_ne.2 he
        clear he h1 h2
        go_wp2_with fail
        go_round
        case rel => exact ⟨k + 1, by omega, by go_num, HN.out⟩
        case measure => simp [intOf]; omega
    · have HF := Lib.hid (Hp.noS_end (n := n) (by have := HA.out; rwa [show k = 8 by omega] at this))
      go_wp2_with fail
      go_ret2
      exact ⟨by rw [HF.out]; rfl, HB1.out⟩
/-- a head that the reference puts together -/
def RSt (w0 : World) (A B : Nat) (F : ByteArray) (fs : List Hp.Hd) (w : World) : Prop := ∃ V, w.heap[A]? = some (.cells #[.string F, V] 45 (0, 0)) ∧ w.ownsRow B 74 2 V fs.length (hds fs) ∧ B ≤ w.heap.size ∧ w0.heap.size ≤ B ∧ w0.heap.size ≤ A ∧ Below w0.heap.size w0 w
theorem rst_put {w0 w w' : World} {A B : Nat} {F : ByteArray} {fs : List Hp.Hd} {V v' : Value} (hA : w.heap[A]? = some (.cells #[.string F, V] 45 (0, 0))) (hO : w.ownsRow B 74 2 V fs.length (hds fs)) (hB : B ≤ w.heap.size) (h0 : w0.heap.size ≤ B) (hA0 : w0.heap.size ≤ A) (hb : Below w0.heap.size w0 w)
    (p : Hp.Hd) (ob : Obj) (hown : w'.ownsRow B 74 2 v' (fs.length + 1) (hds fs ++ [Hp.sx p.1, Hp.sx p.2])) (hg : (w.alloc ob).grownBy w' V.ownBlock) :
    w'.heap[A]? = some (.cells #[.string F, V] 45 (0, 0)) ∧ RSt w0 A B F (fs ++ [p]) (w'.setCell ⟨A, 1, none⟩ v') := by
  have hA2 := heap_alloc_old' ob hA
  have h1 : w'.heap[A]? = some (.cells #[.string F, V] 45 (0, 0)) := (hg.block A (Array.getElem?_eq_some_iff.1 hA2).1 (own_ne hO hA (by decide))).trans hA2
  refine ⟨h1, v', heap_setCell_same _ _ 1 _ _ _ h1, ?_, ?_, h0, hA0, ?_⟩
  · rw [hds_snoc, List.length_append]
    refine ⟨hown.1, hown.2.imp id ?_⟩
    rintro ⟨g, cap, cur, e1, e2, e3, e4⟩
    refine ⟨g, cap, cur, e1, e2, ?_, e4⟩
    rw [Below.heap_setCell _ _ _ _ (fun e => by
      have e5 : g = A := e
      rw [e5, h1] at e3
      injection Option.some.inj e3 with _ h5 _
      exact absurd h5 (by decide))]
    exact e3
  · have := hg.size
    simp at this ⊢
    omega
  · exact (Below.grown (hb.alloc (Nat.le_trans h0 hB) _) hg (by simp; omega) (fun k hk => Nat.le_trans h0 (own_geH hO k hk))).setCell (p := ⟨A, 1, none⟩) hA0 _
/-- what the reference tells -/
def RfOut (o : Option (List UInt8)) : Value := .tuple #[Hp.sx (o.getD []), .int .i64 (erOf o)]
theorem rst_bytes {w0 w : World} {A B : Nat} {F : List UInt8} {fs : List Hp.Hd} (h : RSt w0 A B ⟨F.toArray⟩ fs w) (hF : F.length ≤ 100000) (hl : fs.length ≤ 1000) (hs : ∀ f ∈ fs, f.1.length ≤ 100000 ∧ f.2.length ≤ 100000) :
    ∃ V, w.cell? ⟨A, 0, none⟩ = some (.string ⟨F.toArray⟩) ∧ w.cell? ⟨A, 1, none⟩ = some V ∧ Calls Tryd.prog 32 #[.agg #[.string ⟨F.toArray⟩, V]] w fun e w' => e = .returned (.string ⟨(Hp.hbytes F fs).toArray⟩) ∧ Below w0.heap.size w0 w' := by
  obtain ⟨V, hA, hO, hB, h0, hA0, hb⟩ := h
  refine ⟨V, by simp [World.cell?, hA], by simp [World.cell?, hA], (ref_Bytes F V fs w (HS.own hO) hF hl hs).mono ?_⟩
  rintro e w' ⟨rfl, hb2⟩
  exact ⟨rfl, hb.trans (hb2.mono hb.size)⟩
end Go.Proofs.YthfdnlcalefjeaaDoor

/- The reference's plain answers. -/
namespace Go.Proofs.YthfdnlcalefjeaaDoor
set_option linter.unusedVariables false
set_option linter.unusedSimpArgs false
open Go.RowKit Go.Shelf
set_option maxHeartbeats 8000000
set_option maxRecDepth 100000
theorem ba_len (l : List UInt8) : (⟨l.toArray⟩ : ByteArray).size = l.length := by simp [ByteArray.size]
theorem ref_Plain (n : Int) (text : ByteArray) (w : World) (hn : -9223372036854775808 ≤ n ∧ n ≤ 9223372036854775807) (ht : text.size ≤ 9223372036854775807) :
    Calls Tryd.prog 12 #[.int .i64 n, .string text] w fun e w' => e = .returned (RfOut (Hp.plain n text.data.toList)) ∧ Below w.heap.size w w' := by
  obtain ⟨i0, hi, hz0, hz1, hz2⟩ := info_parts (show (Tryd.prog.info? 74).map (fun i => (i.zero, i.size, i.bytes)) = some (some (.agg #[.string ByteArray.empty, .string ByteArray.empty]), 2, 32) by kernel_rfl)
  have KR := Lib.hid (ref_Reason n w)
  have HTS := Lib.hid (show text.data.toList.length = text.size from rfl)
  obtain ⟨o, ho⟩ : ∃ o, Hp.reason n = o := ⟨_, rfl⟩
  rw [ho] at KR
  cases o with
  | none =>
    have HPL := Lib.hid (show Hp.plain n text.data.toList = none by unfold Hp.plain; rw [ho])
    unfold Hp.reaOut at KR
    clear ho
    go_enter Tryd.func12, Tryd.ntmps12
    go_wp2_with fail
    refine KR.out.mono ?_
    rintro e w2 ⟨rfl, hb2⟩
    have HB2 := Lib.hid hb2
    clear hb2
    go_wp2_with fail
    go_ret2
    exact ⟨by rw [HPL.out]; rfl, HB2.out⟩
  | some r =>
    have hok := Hp.reason_ok ho
    by_cases hlen : text.size ≤ 1000
    · obtain ⟨m, rfl⟩ : ∃ m : Nat, n = (m : Int) := ⟨n.toNat, by omega⟩
      have HPL := Lib.hid (show Hp.plain m text.data.toList = some (Hp.hbytes (Hp.first m r) (Hp.fields m text.size) ++ text.data.toList ++ [10]) by
        unfold Hp.plain; rw [ho]; simp only [HTS.out]; rw [if_pos hlen])
      have KD := Lib.hid (fun W => ref_text m (by omega) W)
      have KE := Lib.hid (fun W => ref_text (text.size + 1) (by omega) W)
      rw [show ((text.size + 1 : Nat) : Int) = (text.size : Int) + 1 by omega] at KE
      have hm1 : 200 ≤ m ∧ m ≤ 505 := by omega
      unfold Hp.reaOut Hp.sx at KR
      simp only at KR
      have hrs := (show (⟨r.toArray⟩ : ByteArray).size = r.length by simp [ByteArray.size])
      have hds' := (show (⟨(Dp.digs 10 m).toArray⟩ : ByteArray).size = (Dp.digs 10 m).length by simp [ByteArray.size])
      have hfirst : (⟨#[72, 84, 84, 80, 47, 49, 46, 49, 32]⟩ : ByteArray) ++ ⟨(Dp.digs 10 m).toArray⟩ ++ ⟨#[32]⟩ ++ ⟨r.toArray⟩ = ⟨(Hp.first m r).toArray⟩ := by
        apply ByteArray.ext; apply Array.ext'; simp [Hp.first, Hp.http]
      obtain ⟨rb, hrb⟩ : ∃ z : ByteArray, (⟨r.toArray⟩ : ByteArray) = z := ⟨_, rfl⟩
      obtain ⟨db, hdb⟩ : ∃ z : ByteArray, (⟨(Dp.digs 10 m).toArray⟩ : ByteArray) = z := ⟨_, rfl⟩
      rw [hrb] at KR hfirst hrs
      rw [hdb] at KD hfirst hds'
      have hrs2 : rb.size ≤ 31 := by omega
      have hdl := digs_len_le m
      have hdb2 : db.size ≤ 506 := by omega
      obtain ⟨fb, hfb⟩ : ∃ z : ByteArray, (⟨(Hp.first m r).toArray⟩ : ByteArray) = z := ⟨_, rfl⟩
      rw [hfb] at hfirst
      have HFB := Lib.hid hfb
      have HFL := Lib.hid (show (Hp.first m r).length ≤ 1000 by
        have h1 := hok.2.2.2
        unfold Hp.first Hp.http
        simp only [List.length_append, List.length_cons, List.length_nil, Int.toNat_natCast]
        omega)
      have HFS := Lib.hid (fields_sz m text.size hlen)
      have HTL := Lib.hid (hbytes_len (Hp.first m r) (Hp.fields m text.size) (by have := HFL.out; omega) (fields_len _ _) HFS.out)
      clear ho hok hrs hds' hrb hdb hdl hfb
      go_enter Tryd.func12, Tryd.ntmps12
      go_wp2_with fail
      refine KR.out.mono ?_
      rintro e w2 ⟨rfl, hb2⟩
      have HB2 := Lib.hid hb2
      clear hb2
      go_wp2_with fail
      refine (KD.out w2).mono ?_
      rintro e w3 ⟨rfl, rfl⟩
      go_wp2_with fail
      refine (KE.out w2).mono ?_
      rintro e w3 ⟨rfl, rfl⟩
      obtain ⟨B, hB⟩ : ∃ B, w2.heap.size = B := ⟨_, rfl⟩
      obtain ⟨w4, hw4⟩ : ∃ Z, (w2.alloc (.cells #[.string ⟨#[99, 111, 110, 116, 101, 110, 116, 45, 116, 121, 112, 101]⟩, .string ⟨#[116, 101, 120, 116, 47, 112, 108, 97, 105, 110]⟩, .string ⟨#[99, 111, 110, 116, 101, 110, 116, 45, 108, 101, 110, 103, 116, 104]⟩, .string ⟨(Dp.digs 10 (text.size + 1)).toArray⟩] 74)).alloc (.cells #[.string fb, .slice (some ⟨w2.heap.size, 0, none⟩) 2 2] 45) = Z := ⟨_, rfl⟩
      obtain ⟨A, hA⟩ : ∃ A, B + 1 = A := ⟨_, rfl⟩
      have h1 := HB2.out.size
      have h3 := World.ownsRow_lit (base := B) (size := 2) (e := 74) w2 #[.string ⟨#[99, 111, 110, 116, 101, 110, 116, 45, 116, 121, 112, 101]⟩, .string ⟨#[116, 101, 120, 116, 47, 112, 108, 97, 105, 110]⟩, .string ⟨#[99, 111, 110, 116, 101, 110, 116, 45, 108, 101, 110, 103, 116, 104]⟩, .string ⟨(Dp.digs 10 (text.size + 1)).toArray⟩] 2 (by omega) (by unfold maxLen; omega) rfl
      have hA4 : w4.heap[A]? = some (.cells #[.string fb, .slice (some ⟨B, 0, none⟩) 2 2] 45 (0, 0)) := by
        rw [← hw4, ← hA, ← hB]
        have := World.alloc_heap_new (w2.alloc (.cells #[.string ⟨#[99, 111, 110, 116, 101, 110, 116, 45, 116, 121, 112, 101]⟩, .string ⟨#[116, 101, 120, 116, 47, 112, 108, 97, 105, 110]⟩, .string ⟨#[99, 111, 110, 116, 101, 110, 116, 45, 108, 101, 110, 103, 116, 104]⟩, .string ⟨(Dp.digs 10 (text.size + 1)).toArray⟩] 74)) (.cells #[.string fb, .slice (some ⟨w2.heap.size, 0, none⟩) 2 2] 45)
        simpa using this
      have hO4 : w4.ownsRow B 74 2 (.slice (some ⟨B, 0, none⟩) 2 2) [(Hp.ct, Hp.tp), (Hp.cl, Dp.digs 10 (text.size + 1))].length (hds [(Hp.ct, Hp.tp), (Hp.cl, Dp.digs 10 (text.size + 1))]) := by
        rw [← hw4]
        rw [hB] at h3
        exact h3.alloc _
      have hB4 : B ≤ w4.heap.size := by rw [← hw4]; simp; omega
      have h04 : w.heap.size ≤ B := by omega
      have hA04 : w.heap.size ≤ A := by omega
      have hb4 : Below w.heap.size w w4 := by rw [← hw4]; exact (HB2.out.alloc h1 _).alloc (by simp; omega) _
      have HZ4 := Lib.hid (show w4.heap.size = A + 1 by rw [← hw4]; simp; omega)
      have HW4 := Lib.hid hw4
      have HBB := Lib.hid hB
      have HAA := Lib.hid hA
      clear hw4 hB hA h1 h3
      by_cases h5 : (m : Int) = 405
      · have he5 : ((m : Int) == 405) = true := beq_iff_eq.2 h5
        have HMO := Lib.hid (show Hp.more m = [(Hp.al, Hp.gt)] by unfold Hp.more; rw [if_pos h5])
        have he6 : ((m : Int) == 503) = false := beq_eq_false_iff_ne.2 (by omega)
        clear h5
        have HA4 := Lib.hid hA4
        have HO4 := Lib.hid hO4
        have HB4 := Lib.hid hB4
        have HQ4 := Lib.hid (And.intro h04 (And.intro hA04 hb4))
        clear hA4 hO4 hB4 h04 hA04 hb4
        go_wp2_with (at_builtin; rw [HW4.out, HBB.out, HAA.out]; refine wpList_append_own _ rfl _ _ 43 rfl B 74 i0 (.agg #[.string ByteArray.empty, .string ByteArray.empty]) 2 32 Tryd.underlying43 hi hz0 hz1 hz2 rfl (by decide) (.slice (some ⟨B, 0, none⟩) 2 2) _ _ rfl (HO4.out.alloc _) ⟨A + 1, 0, none⟩ 1 1 [Hp.sx Hp.al, Hp.sx Hp.gt] rfl rfl ?c41 ?c42 ?c43 ?c44 ?c45 ?_)
        case c41 =>
          intro j u hj
          rw [← HZ4.out]
          match j, hj with
          | 0, hj => simp at hj; subst hj; simp [Addr.add]; rfl
          | 1, hj => simp at hj; subst hj; simp [Addr.add]; rfl
        case c42 => intro u hu; simp at hu; rcases hu with rfl | rfl <;> rfl
        case c43 => simp; unfold maxLen; omega
        case c44 => simp
        case c45 => have := HB4.out; simp; omega
        intro v' w' hown' hgrow _
        obtain ⟨hAn, hSn⟩ := rst_put HA4.out HO4.out HB4.out HQ4.out.1 HQ4.out.2.1 HQ4.out.2.2 (Hp.al, Hp.gt) _ hown' hgrow
        have cB4 : w'.cell? ⟨A, 1, none⟩ = some (.slice (some ⟨B, 0, none⟩) 2 2) := by simp [World.cell?, hAn]
        have zB4 : w'.frozen? ⟨A, 1, none⟩ = false := frozen_of_row _ _ _ _ _ hAn
        obtain ⟨w5, hw5⟩ : ∃ Z, w'.setCell ⟨A, 1, none⟩ v' = Z := ⟨_, rfl⟩
        rw [hw5] at hSn
        obtain ⟨g4, k4, rfl⟩ := Go.Joins.ownsRow_form hown' (by simp)
        have HS5 := Lib.hid hSn
        clear hown' hgrow hAn hSn
        obtain ⟨V5, hA5, hO5, hB5, h05, hA05, hb5⟩ := HS5.out
        have cA5 : w5.cell? ⟨A, 1, none⟩ = some V5 := by simp [World.cell?, hA5]
        have HA5 := Lib.hid hA5
        have HO5 := Lib.hid hO5
        have HB5 := Lib.hid hB5
        have HQ5 := Lib.hid (And.intro h05 (And.intro hA05 hb5))
        clear hA5 hO5 hB5 h05 hA05 hb5
        go_wp2_with (at_builtin; refine wpList_append_own _ rfl _ _ 43 rfl B 74 i0 (.agg #[.string ByteArray.empty, .string ByteArray.empty]) 2 32 Tryd.underlying43 hi hz0 hz1 hz2 rfl (by decide) V5 _ _ rfl (HO5.out.alloc _) ⟨w5.heap.size, 0, none⟩ 1 1 [Hp.sx Hp.cn, Hp.sx Hp.cs] rfl rfl ?c51 ?c52 ?c53 ?c54 ?c55 ?_)
        case c51 =>
          intro j u hj
          match j, hj with
          | 0, hj => simp at hj; subst hj; simp [Addr.add]; rfl
          | 1, hj => simp at hj; subst hj; simp [Addr.add]; rfl
        case c52 => intro u hu; simp at hu; rcases hu with rfl | rfl <;> rfl
        case c53 => simp; unfold maxLen; omega
        case c54 => simp
        case c55 => have := HB5.out; simp; omega
        intro v' w' hown' hgrow _
        obtain ⟨hAn, hSn⟩ := rst_put HA5.out HO5.out HB5.out HQ5.out.1 HQ5.out.2.1 HQ5.out.2.2 (Hp.cn, Hp.cs) _ hown' hgrow
        have cB5 : w'.cell? ⟨A, 1, none⟩ = some V5 := by simp [World.cell?, hAn]
        have zB5 : w'.frozen? ⟨A, 1, none⟩ = false := frozen_of_row _ _ _ _ _ hAn
        obtain ⟨w6, hw6⟩ : ∃ Z, w'.setCell ⟨A, 1, none⟩ v' = Z := ⟨_, rfl⟩
        rw [hw6] at hSn
        obtain ⟨g5, k5, rfl⟩ := Go.Joins.ownsRow_form hown' (by simp)
        have HS6 := Lib.hid hSn
        clear hown' hgrow hAn hSn cA5
        have HS8 := Lib.hid (show RSt w A B ⟨(Hp.first m r).toArray⟩ (Hp.fields m text.size) w6 by
          rw [HFB.out]
          have e : Hp.fields m text.size = [(Hp.ct, Hp.tp), (Hp.cl, Dp.digs 10 (text.size + 1))] ++ [(Hp.al, Hp.gt)] ++ [(Hp.cn, Hp.cs)] := by unfold Hp.fields; rw [HMO.out]; try rfl
          rw [e]
          exact HS6.out)
        obtain ⟨V8, c80, c81, K8⟩ := rst_bytes HS8.out (by have := HFL.out; omega) (fields_len _ _) HFS.out
        have K8 := Lib.hid K8
        rw [HFB.out] at c80 K8
        go_wp2_with fail
        refine K8.out.mono ?_
        rintro e w9 ⟨rfl, hb9⟩
        have HB9 := Lib.hid hb9
        clear hb9 c80 c81 hw6
        have hbs := ba_len (Hp.hbytes (Hp.first m r) (Hp.fields m text.size))
        have HQ := Lib.hid (show (⟨(Hp.hbytes (Hp.first m r) (Hp.fields m text.size)).toArray⟩ : ByteArray) ++ text ++ ⟨#[10]⟩ = ⟨(Hp.hbytes (Hp.first m r) (Hp.fields m text.size) ++ text.data.toList ++ [10]).toArray⟩ by
          apply ByteArray.ext; apply Array.ext'; simp)
        obtain ⟨hb, hhb⟩ : ∃ z : ByteArray, (⟨(Hp.hbytes (Hp.first m r) (Hp.fields m text.size)).toArray⟩ : ByteArray) = z := ⟨_, rfl⟩
        rw [hhb] at hbs HQ ⊢
        have hbs2 : hb.size ≤ 1000000000 := by rw [hbs]; exact HTL.out
        have hbs3 : (hb ++ text).size ≤ 1100000000 := by rw [ByteArray.size_append]; omega
        clear hhb hbs
        go_wp2_with fail
        go_ret2
        refine ⟨?_, HB9.out⟩
        rw [HPL.out, HQ.out]; rfl
      · have he5 : ((m : Int) == 405) = false := beq_eq_false_iff_ne.2 h5
        by_cases h6 : (m : Int) = 503
        · have he6 : ((m : Int) == 503) = true := beq_iff_eq.2 h6
          have HMO := Lib.hid (show Hp.more m = [(Hp.ra, [49])] by unfold Hp.more; rw [if_neg h5, if_pos h6])
          clear h5 h6
          have HA4 := Lib.hid hA4
          have HO4 := Lib.hid hO4
          have HB4 := Lib.hid hB4
          have HQ4 := Lib.hid (And.intro h04 (And.intro hA04 hb4))
          clear hA4 hO4 hB4 h04 hA04 hb4
          go_wp2_with (at_builtin; rw [HW4.out, HBB.out, HAA.out]; refine wpList_append_own _ rfl _ _ 43 rfl B 74 i0 (.agg #[.string ByteArray.empty, .string ByteArray.empty]) 2 32 Tryd.underlying43 hi hz0 hz1 hz2 rfl (by decide) (.slice (some ⟨B, 0, none⟩) 2 2) _ _ rfl (HO4.out.alloc _) ⟨A + 1, 0, none⟩ 1 1 [Hp.sx Hp.ra, Hp.sx [49]] rfl rfl ?c41 ?c42 ?c43 ?c44 ?c45 ?_)
          case c41 =>
            intro j u hj
            rw [← HZ4.out]
            match j, hj with
            | 0, hj => simp at hj; subst hj; simp [Addr.add]; rfl
            | 1, hj => simp at hj; subst hj; simp [Addr.add]; rfl
          case c42 => intro u hu; simp at hu; rcases hu with rfl | rfl <;> rfl
          case c43 => simp; unfold maxLen; omega
          case c44 => simp
          case c45 => have := HB4.out; simp; omega
          intro v' w' hown' hgrow _
          obtain ⟨hAn, hSn⟩ := rst_put HA4.out HO4.out HB4.out HQ4.out.1 HQ4.out.2.1 HQ4.out.2.2 (Hp.ra, [49]) _ hown' hgrow
          have cB4 : w'.cell? ⟨A, 1, none⟩ = some (.slice (some ⟨B, 0, none⟩) 2 2) := by simp [World.cell?, hAn]
          have zB4 : w'.frozen? ⟨A, 1, none⟩ = false := frozen_of_row _ _ _ _ _ hAn
          obtain ⟨w5, hw5⟩ : ∃ Z, w'.setCell ⟨A, 1, none⟩ v' = Z := ⟨_, rfl⟩
          rw [hw5] at hSn
          obtain ⟨g4, k4, rfl⟩ := Go.Joins.ownsRow_form hown' (by simp)
          have HS5 := Lib.hid hSn
          clear hown' hgrow hAn hSn
          obtain ⟨V5, hA5, hO5, hB5, h05, hA05, hb5⟩ := HS5.out
          have cA5 : w5.cell? ⟨A, 1, none⟩ = some V5 := by simp [World.cell?, hA5]
          have HA5 := Lib.hid hA5
          have HO5 := Lib.hid hO5
          have HB5 := Lib.hid hB5
          have HQ5 := Lib.hid (And.intro h05 (And.intro hA05 hb5))
          clear hA5 hO5 hB5 h05 hA05 hb5
          go_wp2_with (at_builtin; refine wpList_append_own _ rfl _ _ 43 rfl B 74 i0 (.agg #[.string ByteArray.empty, .string ByteArray.empty]) 2 32 Tryd.underlying43 hi hz0 hz1 hz2 rfl (by decide) V5 _ _ rfl (HO5.out.alloc _) ⟨w5.heap.size, 0, none⟩ 1 1 [Hp.sx Hp.cn, Hp.sx Hp.cs] rfl rfl ?c51 ?c52 ?c53 ?c54 ?c55 ?_)
          case c51 =>
            intro j u hj
            match j, hj with
            | 0, hj => simp at hj; subst hj; simp [Addr.add]; rfl
            | 1, hj => simp at hj; subst hj; simp [Addr.add]; rfl
          case c52 => intro u hu; simp at hu; rcases hu with rfl | rfl <;> rfl
          case c53 => simp; unfold maxLen; omega
          case c54 => simp
          case c55 => have := HB5.out; simp; omega
          intro v' w' hown' hgrow _
          obtain ⟨hAn, hSn⟩ := rst_put HA5.out HO5.out HB5.out HQ5.out.1 HQ5.out.2.1 HQ5.out.2.2 (Hp.cn, Hp.cs) _ hown' hgrow
          have cB5 : w'.cell? ⟨A, 1, none⟩ = some V5 := by simp [World.cell?, hAn]
          have zB5 : w'.frozen? ⟨A, 1, none⟩ = false := frozen_of_row _ _ _ _ _ hAn
          obtain ⟨w6, hw6⟩ : ∃ Z, w'.setCell ⟨A, 1, none⟩ v' = Z := ⟨_, rfl⟩
          rw [hw6] at hSn
          obtain ⟨g5, k5, rfl⟩ := Go.Joins.ownsRow_form hown' (by simp)
          have HS6 := Lib.hid hSn
          clear hown' hgrow hAn hSn cA5
          have HS8 := Lib.hid (show RSt w A B ⟨(Hp.first m r).toArray⟩ (Hp.fields m text.size) w6 by
            rw [HFB.out]
            have e : Hp.fields m text.size = [(Hp.ct, Hp.tp), (Hp.cl, Dp.digs 10 (text.size + 1))] ++ [(Hp.ra, [49])] ++ [(Hp.cn, Hp.cs)] := by unfold Hp.fields; rw [HMO.out]; try rfl
            rw [e]
            exact HS6.out)
          obtain ⟨V8, c80, c81, K8⟩ := rst_bytes HS8.out (by have := HFL.out; omega) (fields_len _ _) HFS.out
          have K8 := Lib.hid K8
          rw [HFB.out] at c80 K8
          go_wp2_with fail
          refine K8.out.mono ?_
          rintro e w9 ⟨rfl, hb9⟩
          have HB9 := Lib.hid hb9
          clear hb9 c80 c81 hw6
          have hbs := ba_len (Hp.hbytes (Hp.first m r) (Hp.fields m text.size))
          have HQ := Lib.hid (show (⟨(Hp.hbytes (Hp.first m r) (Hp.fields m text.size)).toArray⟩ : ByteArray) ++ text ++ ⟨#[10]⟩ = ⟨(Hp.hbytes (Hp.first m r) (Hp.fields m text.size) ++ text.data.toList ++ [10]).toArray⟩ by
            apply ByteArray.ext; apply Array.ext'; simp)
          obtain ⟨hb, hhb⟩ : ∃ z : ByteArray, (⟨(Hp.hbytes (Hp.first m r) (Hp.fields m text.size)).toArray⟩ : ByteArray) = z := ⟨_, rfl⟩
          rw [hhb] at hbs HQ ⊢
          have hbs2 : hb.size ≤ 1000000000 := by rw [hbs]; exact HTL.out
          have hbs3 : (hb ++ text).size ≤ 1100000000 := by rw [ByteArray.size_append]; omega
          clear hhb hbs
          go_wp2_with fail
          go_ret2
          refine ⟨?_, HB9.out⟩
          rw [HPL.out, HQ.out]; rfl
        · have he6 : ((m : Int) == 503) = false := beq_eq_false_iff_ne.2 h6
          have HMO := Lib.hid (show Hp.more m = [] by unfold Hp.more; rw [if_neg h5, if_neg h6])
          clear h5 h6
          have HA4 := Lib.hid hA4
          have HO4 := Lib.hid hO4
          have HB4 := Lib.hid hB4
          have HQ4 := Lib.hid (And.intro h04 (And.intro hA04 hb4))
          clear hA4 hO4 hB4 h04 hA04 hb4
          go_wp2_with (at_builtin; rw [HW4.out, HBB.out, HAA.out]; refine wpList_append_own _ rfl _ _ 43 rfl B 74 i0 (.agg #[.string ByteArray.empty, .string ByteArray.empty]) 2 32 Tryd.underlying43 hi hz0 hz1 hz2 rfl (by decide) (.slice (some ⟨B, 0, none⟩) 2 2) _ _ rfl (HO4.out.alloc _) ⟨A + 1, 0, none⟩ 1 1 [Hp.sx Hp.cn, Hp.sx Hp.cs] rfl rfl ?c41 ?c42 ?c43 ?c44 ?c45 ?_)
          case c41 =>
            intro j u hj
            rw [← HZ4.out]
            match j, hj with
            | 0, hj => simp at hj; subst hj; simp [Addr.add]; rfl
            | 1, hj => simp at hj; subst hj; simp [Addr.add]; rfl
          case c42 => intro u hu; simp at hu; rcases hu with rfl | rfl <;> rfl
          case c43 => simp; unfold maxLen; omega
          case c44 => simp
          case c45 => have := HB4.out; simp; omega
          intro v' w' hown' hgrow _
          obtain ⟨hAn, hSn⟩ := rst_put HA4.out HO4.out HB4.out HQ4.out.1 HQ4.out.2.1 HQ4.out.2.2 (Hp.cn, Hp.cs) _ hown' hgrow
          have cB4 : w'.cell? ⟨A, 1, none⟩ = some (.slice (some ⟨B, 0, none⟩) 2 2) := by simp [World.cell?, hAn]
          have zB4 : w'.frozen? ⟨A, 1, none⟩ = false := frozen_of_row _ _ _ _ _ hAn
          obtain ⟨w5, hw5⟩ : ∃ Z, w'.setCell ⟨A, 1, none⟩ v' = Z := ⟨_, rfl⟩
          rw [hw5] at hSn
          obtain ⟨g4, k4, rfl⟩ := Go.Joins.ownsRow_form hown' (by simp)
          have HS5 := Lib.hid hSn
          clear hown' hgrow hAn hSn
          have HS8 := Lib.hid (show RSt w A B ⟨(Hp.first m r).toArray⟩ (Hp.fields m text.size) w5 by
            rw [HFB.out]
            have e : Hp.fields m text.size = [(Hp.ct, Hp.tp), (Hp.cl, Dp.digs 10 (text.size + 1))] ++ [(Hp.cn, Hp.cs)] := by unfold Hp.fields; rw [HMO.out]; try rfl
            rw [e]
            exact HS5.out)
          obtain ⟨V8, c80, c81, K8⟩ := rst_bytes HS8.out (by have := HFL.out; omega) (fields_len _ _) HFS.out
          have K8 := Lib.hid K8
          rw [HFB.out] at c80 K8
          go_wp2_with fail
          refine K8.out.mono ?_
          rintro e w9 ⟨rfl, hb9⟩
          have HB9 := Lib.hid hb9
          clear hb9 c80 c81 hw5
          have hbs := ba_len (Hp.hbytes (Hp.first m r) (Hp.fields m text.size))
          have HQ := Lib.hid (show (⟨(Hp.hbytes (Hp.first m r) (Hp.fields m text.size)).toArray⟩ : ByteArray) ++ text ++ ⟨#[10]⟩ = ⟨(Hp.hbytes (Hp.first m r) (Hp.fields m text.size) ++ text.data.toList ++ [10]).toArray⟩ by
            apply ByteArray.ext; apply Array.ext'; simp)
          obtain ⟨hb, hhb⟩ : ∃ z : ByteArray, (⟨(Hp.hbytes (Hp.first m r) (Hp.fields m text.size)).toArray⟩ : ByteArray) = z := ⟨_, rfl⟩
          rw [hhb] at hbs HQ ⊢
          have hbs2 : hb.size ≤ 1000000000 := by rw [hbs]; exact HTL.out
          have hbs3 : (hb ++ text).size ≤ 1100000000 := by rw [ByteArray.size_append]; omega
          clear hhb hbs
          go_wp2_with fail
          go_ret2
          refine ⟨?_, HB9.out⟩
          rw [HPL.out, HQ.out]; rfl
    · have HPL := Lib.hid (show Hp.plain n text.data.toList = none by unfold Hp.plain; rw [ho]; simp only [HTS.out]; rw [if_neg hlen])
      unfold Hp.reaOut at KR
      clear ho hok
      go_enter Tryd.func12, Tryd.ntmps12
      go_wp2_with fail
      refine KR.out.mono ?_
      rintro e w2 ⟨rfl, hb2⟩
      have HB2 := Lib.hid hb2
      clear hb2
      go_wp2_with fail
      go_ret2
      exact ⟨by rw [HPL.out]; rfl, HB2.out⟩
end Go.Proofs.YthfdnlcalefjeaaDoor

/- answer: Stream. -/
namespace Go.Proofs.YthfdnlcalefjeaaDoor
set_option linter.unusedVariables false
set_option linter.unusedSimpArgs false
open Go.RowKit Go.Shelf
set_option maxHeartbeats 8000000
set_option maxRecDepth 100000
theorem ans_Stream (b : Bool) (w : World) :
    Calls Tryd.prog 17 #[.bool b] w fun e w' => ∃ r, e = .returned r ∧ BRow w' r (Hp.stream b) ∧ Below w.heap.size w w' := by
  obtain ⟨A, hA⟩ : ∃ A, w.heap.size = A := ⟨_, rfl⟩
  have HAA := Lib.hid hA
  obtain ⟨W1, hW1⟩ : ∃ Z, w.alloc (.cells #[.string ⟨#[72, 84, 84, 80, 47, 49, 46, 49, 32, 50, 48, 48, 32, 79, 75]⟩, .slice none 0 0] 69) = Z := ⟨_, rfl⟩
  have HS1 := Lib.hid (show Stg w A ⟨Hp.ok200.toArray⟩ [] W1 by
    refine ⟨by rw [← hW1, ← hA]; simp, ⟨_, by unfold AnAt; rw [← hW1, ← hA]; exact World.alloc_heap_new _ _, World.ownsRow_nil _ _ _ _⟩, by rw [← hW1, ← hA]; exact (Below.refl _ _).alloc (Nat.le_refl _) _⟩)
  have HW1 := Lib.hid hW1
  have HZ1 := Lib.hid (show W1.heap.size = A + 1 by rw [← hW1, ← hA]; simp)
  clear hA hW1
  cases b with
  | true =>
    go_enter Tryd.func17, Tryd.ntmps17
    go_wp2_with fail
    rw [HW1.out, HAA.out, ← HZ1.out]
    refine (stg_put HS1.out [(Hp.ct, Hp.es), (Hp.cc, Hp.ns)] _ 4 rfl rfl (by simp)).mono ?_
    rintro e w6 ⟨rfl, hs6⟩
    have HS6 := Lib.hid hs6
    clear hs6
    go_wp2_with fail
    refine (stg_put HS6.out [(Hp.te, Hp.ch)] _ 2 rfl rfl (by simp)).mono ?_
    rintro e w7 ⟨rfl, hs7⟩
    have HS7 := Lib.hid (show Stg w A ⟨Hp.ok200.toArray⟩ (Hp.sfields true) w7 from hs7)
    clear hs7
    go_wp2_with fail
    refine (stg_told HS7.out (Hp.hok_stream true) (by decide) (by decide) (by decide)).mono ?_
    rintro e w9 ⟨v9, rfl, ⟨g, cap, rfl, h1, h2, h3, h4, h5⟩, hb9⟩
    have HF9 := Lib.hid (show BRow w9 (.slice (some ⟨g, 0, none⟩) (Hp.hbytes Hp.ok200 (Hp.sfields true)).length cap) (Hp.stream true) from ⟨_, cap, rfl, h3, .inr ⟨g, 0, rfl, fun j hj => by rw [Nat.zero_add]; exact h4 j hj⟩⟩)
    have HB9 := Lib.hid hb9
    clear h1 h2 h3 h4 h5 hb9
    go_wp2_with fail
    go_ret
    exact ⟨_, rfl, HF9.out, HAA.out ▸ HB9.out⟩
  | false =>
    go_enter Tryd.func17, Tryd.ntmps17
    go_wp2_with fail
    rw [HW1.out, HAA.out, ← HZ1.out]
    refine (stg_put HS1.out [(Hp.ct, Hp.es), (Hp.cc, Hp.ns)] _ 4 rfl rfl (by simp)).mono ?_
    rintro e w6 ⟨rfl, hs6⟩
    have HS6 := Lib.hid hs6
    clear hs6
    go_wp2_with fail
    refine (stg_put HS6.out [(Hp.cn, Hp.cs)] _ 2 rfl rfl (by simp)).mono ?_
    rintro e w7 ⟨rfl, hs7⟩
    have HS7 := Lib.hid (show Stg w A ⟨Hp.ok200.toArray⟩ (Hp.sfields false) w7 from hs7)
    clear hs7
    go_wp2_with fail
    refine (stg_told HS7.out (Hp.hok_stream false) (by decide) (by decide) (by decide)).mono ?_
    rintro e w9 ⟨v9, rfl, ⟨g, cap, rfl, h1, h2, h3, h4, h5⟩, hb9⟩
    have HF9 := Lib.hid (show BRow w9 (.slice (some ⟨g, 0, none⟩) (Hp.hbytes Hp.ok200 (Hp.sfields false)).length cap) (Hp.stream false) from ⟨_, cap, rfl, h3, .inr ⟨g, 0, rfl, fun j hj => by rw [Nat.zero_add]; exact h4 j hj⟩⟩)
    have HB9 := Lib.hid hb9
    clear h1 h2 h3 h4 h5 hb9
    go_wp2_with fail
    go_ret
    exact ⟨_, rfl, HF9.out, HAA.out ▸ HB9.out⟩
end Go.Proofs.YthfdnlcalefjeaaDoor

/- answer: Health. -/
namespace Go.Proofs.YthfdnlcalefjeaaDoor
set_option linter.unusedVariables false
set_option linter.unusedSimpArgs false
open Go.RowKit Go.Shelf
set_option maxHeartbeats 8000000
set_option maxRecDepth 100000
theorem ans_Health (t c : Int) (d : Bool) (w : World) (ht : -9223372036854775808 ≤ t ∧ t ≤ 9223372036854775807) (hc : -9223372036854775808 ≤ c ∧ c ≤ 9223372036854775807) (htb : Tabs w) :
    Calls Tryd.prog 15 #[.int .i64 t, .int .i64 c, .bool d] w fun e w' => AnOut w' (Hp.health t c d) e ∧ Below w.heap.size w w' := by
  have HTB := Lib.hid htb
  clear htb
  by_cases h1 : t < 0
  · have HPL := Lib.hid (show Hp.health t c d = none by unfold Hp.health; rw [if_pos (.inl h1)])
    go_enter Tryd.func15, Tryd.ntmps15
    go_wp2_with fail
    go_ret2
    exact ⟨by rw [HPL.out]; exact ⟨_, rfl, BRow.nil _⟩, Below.refl _ _⟩
  · by_cases h2 : c < 0
    · have HPL := Lib.hid (show Hp.health t c d = none by unfold Hp.health; rw [if_pos (.inr h2)])
      go_enter Tryd.func15, Tryd.ntmps15
      go_wp2_with fail
      go_ret2
      exact ⟨by rw [HPL.out]; exact ⟨_, rfl, BRow.nil _⟩, Below.refl _ _⟩
    · cases d with
      | true =>
        have HPL := Lib.hid (show Hp.health t c true = Hp.plain 503 Hp.drain by unfold Hp.health; rw [if_neg (by omega)]; rfl)
        have KP := Lib.hid (plain_any 503 ⟨#[100, 114, 97, 105, 110, 105, 110, 103]⟩ w (by omega) (by decide) HTB.out)
        rw [show (⟨#[100, 114, 97, 105, 110, 105, 110, 103]⟩ : ByteArray).data.toList = Hp.drain from rfl, ← HPL.out] at KP
        go_enter Tryd.func15, Tryd.ntmps15
        go_wp2_with fail
        refine KP.out.mono ?_
        rintro e w5 ⟨⟨v5, rfl, hv5⟩, hb5⟩
        have HV5 := Lib.hid hv5
        have HB5 := Lib.hid hb5
        clear hb5 hv5
        go_wp2_with fail
        go_ret2
        exact ⟨⟨_, rfl, HV5.out⟩, HB5.out⟩
      | false =>
        obtain ⟨m, rfl⟩ : ∃ m : Nat, t = (m : Int) := ⟨t.toNat, by omega⟩
        obtain ⟨k, rfl⟩ : ∃ m : Nat, c = (m : Int) := ⟨c.toNat, by omega⟩
        have HPL := Lib.hid (show Hp.health m k false = Hp.plain 200 ([111, 107, 32] ++ Dp.digs 10 m ++ 32 :: Dp.digs 10 k) by unfold Hp.health; rw [if_neg (by omega)]; simp)
        have KD := Lib.hid (fun W (h : Tabs W) => dec_text m W (by omega) h)
        have KE := Lib.hid (fun W (h : Tabs W) => dec_text k W (by omega) h)
        have hds := (show (⟨(Dp.digs 10 m).toArray⟩ : ByteArray).size = (Dp.digs 10 m).length by simp [ByteArray.size])
        have hls := (show (⟨(Dp.digs 10 k).toArray⟩ : ByteArray).size = (Dp.digs 10 k).length by simp [ByteArray.size])
        have hcat : ((⟨#[111, 107, 32]⟩ : ByteArray) ++ ⟨(Dp.digs 10 m).toArray⟩ ++ ⟨#[32]⟩ ++ ⟨(Dp.digs 10 k).toArray⟩).data.toList = [111, 107, 32] ++ Dp.digs 10 m ++ 32 :: Dp.digs 10 k := by simp
        obtain ⟨db, hdb⟩ : ∃ z : ByteArray, (⟨(Dp.digs 10 m).toArray⟩ : ByteArray) = z := ⟨_, rfl⟩
        obtain ⟨lb, hlb⟩ : ∃ z : ByteArray, (⟨(Dp.digs 10 k).toArray⟩ : ByteArray) = z := ⟨_, rfl⟩
        rw [hdb] at KD hds hcat
        rw [hlb] at KE hls hcat
        have hdl := digs_len64 m (by omega)
        have hdl2 := digs_len64 k (by omega)
        have hdb2 : db.size ≤ 20 := by omega
        have hlb2 : lb.size ≤ 20 := by omega
        obtain ⟨xb, hxb⟩ : ∃ z : ByteArray, (⟨#[111, 107, 32]⟩ : ByteArray) ++ db ++ ⟨#[32]⟩ ++ lb = z := ⟨_, rfl⟩
        have hxs : xb.size ≤ 1000 := by
          rw [← hxb, ByteArray.size_append, ByteArray.size_append, ByteArray.size_append]
          have h1 : (⟨#[32]⟩ : ByteArray).size = 1 := rfl
          have h2 : (⟨#[111, 107, 32]⟩ : ByteArray).size = 3 := rfl
          omega
        rw [hxb] at hcat
        have KP := Lib.hid (fun W (h : Tabs W) => plain_any 200 xb W (by omega) (by omega) h)
        rw [hcat, ← HPL.out] at KP
        clear hds hls hdb hlb hdl hdl2 hcat hxs
        go_enter Tryd.func15, Tryd.ntmps15
        go_wp2_with fail
        refine (KD.out w HTB.out).mono ?_
        rintro e w3 ⟨rfl, hb3⟩
        have HB3 := Lib.hid hb3
        clear hb3
        go_wp2_with fail
        refine (KE.out w3 (HTB.out.bel HB3.out)).mono ?_
        rintro e w4 ⟨rfl, hb4⟩
        have HB4 := Lib.hid (HB3.out.trans (hb4.mono HB3.out.size))
        clear hb4
        go_wp2_with fail
        refine (KP.out w4 (HTB.out.bel HB4.out)).mono ?_
        rintro e w5 ⟨⟨v5, rfl, hv5⟩, hb5⟩
        have HV5 := Lib.hid hv5
        have HB5 := Lib.hid (HB4.out.trans (hb5.mono HB4.out.size))
        clear hb5 hv5
        go_wp2_with fail
        go_ret2
        exact ⟨⟨_, rfl, HV5.out⟩, HB5.out⟩
end Go.Proofs.YthfdnlcalefjeaaDoor

/- The reference's refusals, health, stream. -/
namespace Go.Proofs.YthfdnlcalefjeaaDoor
set_option linter.unusedVariables false
set_option linter.unusedSimpArgs false
open Go.RowKit Go.Shelf
set_option maxHeartbeats 8000000
set_option maxRecDepth 100000
theorem ref_Refusal (n : Int) (w : World) (hn : -9223372036854775808 ≤ n ∧ n ≤ 9223372036854775807)  :
    Calls Tryd.prog 13 #[.int .i64 n] w fun e w' => e = .returned (RfOut (Hp.refusal n)) ∧ Below w.heap.size w w' := by
  have KR := Lib.hid (ref_Reason n w)
  obtain ⟨o, ho⟩ : ∃ o, Hp.reason n = o := ⟨_, rfl⟩
  rw [ho] at KR
  cases o with
  | none =>
    have HPL := Lib.hid (show Hp.refusal n = none by unfold Hp.refusal; rw [ho])
    unfold Hp.reaOut at KR
    clear ho
    go_enter Tryd.func13, Tryd.ntmps13
    go_wp2_with fail
    refine KR.out.mono ?_
    rintro e w2 ⟨rfl, hb2⟩
    have HB2 := Lib.hid hb2
    clear hb2
    go_wp2_with fail
    go_ret2
    exact ⟨by rw [HPL.out]; rfl, HB2.out⟩
  | some r =>
    have hok := Hp.reason_ok ho
    unfold Hp.reaOut Hp.sx at KR
    simp only at KR
    by_cases h2 : n = 200
    · have HPL := Lib.hid (show Hp.refusal n = none by unfold Hp.refusal; rw [ho]; simp only; rw [if_pos h2])
      have he : (n == 200) = true := beq_iff_eq.2 h2
      clear ho hok h2
      go_enter Tryd.func13, Tryd.ntmps13
      go_wp2_with fail
      refine KR.out.mono ?_
      rintro e w2 ⟨rfl, hb2⟩
      have HB2 := Lib.hid hb2
      clear hb2
      go_wp2_with fail
      go_ret2
      exact ⟨by rw [HPL.out]; rfl, HB2.out⟩
    · have he : (n == 200) = false := beq_eq_false_iff_ne.2 h2
      obtain ⟨m, rfl⟩ : ∃ m : Nat, n = (m : Int) := ⟨n.toNat, by omega⟩
      have hm1 : 200 ≤ m ∧ m ≤ 505 := by omega
      have HPL := Lib.hid (show Hp.refusal m = Hp.plain m (Dp.digs 10 m ++ 32 :: Tp.lower r) by unfold Hp.refusal; rw [ho]; simp only; rw [if_neg h2]; simp)
      have KD := Lib.hid (fun W => ref_text m (by omega) W)
      have hrd : (⟨r.toArray⟩ : ByteArray).data.toList = r := by simp
      have hrs := (show (⟨r.toArray⟩ : ByteArray).size = r.length by simp [ByteArray.size])
      have hds := (show (⟨(Dp.digs 10 m).toArray⟩ : ByteArray).size = (Dp.digs 10 m).length by simp [ByteArray.size])
      have hls := (show (⟨(Tp.lower r).toArray⟩ : ByteArray).size = r.length by simp [ByteArray.size, Tp.lower])
      have hcat : ((⟨(Dp.digs 10 m).toArray⟩ : ByteArray) ++ ⟨#[32]⟩ ++ ⟨(Tp.lower r).toArray⟩).data.toList = Dp.digs 10 m ++ 32 :: Tp.lower r := by simp
      obtain ⟨rb, hrb⟩ : ∃ z : ByteArray, (⟨r.toArray⟩ : ByteArray) = z := ⟨_, rfl⟩
      rw [hrb] at KR hrd hrs
      have KL := Lib.hid (fun W => rtk_lower rb W (by omega))
      rw [hrd] at KL
      obtain ⟨db, hdb⟩ : ∃ z : ByteArray, (⟨(Dp.digs 10 m).toArray⟩ : ByteArray) = z := ⟨_, rfl⟩
      obtain ⟨lb, hlb⟩ : ∃ z : ByteArray, (⟨(Tp.lower r).toArray⟩ : ByteArray) = z := ⟨_, rfl⟩
      rw [hdb] at KD hds hcat
      rw [hlb] at KL hls hcat
      have hdl := digs_len_le m
      have hdb2 : db.size ≤ 506 := by omega
      have hlb2 : lb.size ≤ 31 := by omega
      obtain ⟨xb, hxb⟩ : ∃ z : ByteArray, db ++ ⟨#[32]⟩ ++ lb = z := ⟨_, rfl⟩
      have hxs : xb.size ≤ 1000 := by
        rw [← hxb, ByteArray.size_append, ByteArray.size_append]
        have : (⟨#[32]⟩ : ByteArray).size = 1 := rfl
        omega
      rw [hxb] at hcat
      have KP := Lib.hid (fun W => ref_Plain m xb W (by omega) (by omega))
      rw [hcat, ← HPL.out] at KP
      unfold RfOut at KP
      clear ho hok h2 hrd hrs hds hls hrb hdb hlb hdl hcat hxs
      go_enter Tryd.func13, Tryd.ntmps13
      go_wp2_with fail
      refine KR.out.mono ?_
      rintro e w2 ⟨rfl, hb2⟩
      have HB2 := Lib.hid hb2
      clear hb2
      go_wp2_with fail
      refine (KD.out w2).mono ?_
      rintro e w3 ⟨rfl, hw3⟩
      subst hw3
      go_wp2_with fail
      refine (KL.out w2).mono ?_
      rintro e w4 ⟨rfl, hb4⟩
      have HB4 := Lib.hid (HB2.out.trans (hb4.mono HB2.out.size))
      clear hb4
      go_wp2_with fail
      refine (KP.out _).mono ?_
      rintro e w5 ⟨rfl, hb5⟩
      have HB5 := Lib.hid (HB4.out.trans (hb5.mono HB4.out.size))
      clear hb5
      go_wp2_with fail
      go_ret2
      exact ⟨rfl, HB5.out⟩
theorem ref_Health (t c : Int) (d : Bool) (w : World) (ht : -9223372036854775808 ≤ t ∧ t ≤ 9223372036854775807) (hc : -9223372036854775808 ≤ c ∧ c ≤ 9223372036854775807)  :
    Calls Tryd.prog 16 #[.int .i64 t, .int .i64 c, .bool d] w fun e w' => e = .returned (RfOut (Hp.health t c d)) ∧ Below w.heap.size w w' := by
  by_cases h1 : t < 0
  · have HPL := Lib.hid (show Hp.health t c d = none by unfold Hp.health; rw [if_pos (.inl h1)])
    go_enter Tryd.func16, Tryd.ntmps16
    go_wp2_with fail
    go_ret2
    exact ⟨by rw [HPL.out]; rfl, Below.refl _ _⟩
  · by_cases h2 : c < 0
    · have HPL := Lib.hid (show Hp.health t c d = none by unfold Hp.health; rw [if_pos (.inr h2)])
      go_enter Tryd.func16, Tryd.ntmps16
      go_wp2_with fail
      go_ret2
      exact ⟨by rw [HPL.out]; rfl, Below.refl _ _⟩
    · cases d with
      | true =>
        have HPL := Lib.hid (show Hp.health t c true = Hp.plain 503 Hp.drain by unfold Hp.health; rw [if_neg (by omega)]; rfl)
        have KP := Lib.hid (ref_Plain 503 ⟨#[100, 114, 97, 105, 110, 105, 110, 103]⟩ w (by omega) (by decide))
        rw [show (⟨#[100, 114, 97, 105, 110, 105, 110, 103]⟩ : ByteArray).data.toList = Hp.drain from rfl, ← HPL.out] at KP
        unfold RfOut at KP
        go_enter Tryd.func16, Tryd.ntmps16
        go_wp2_with fail
        refine KP.out.mono ?_
        rintro e w5 ⟨rfl, hb5⟩
        have HB5 := Lib.hid hb5
        clear hb5
        go_wp2_with fail
        go_ret2
        exact ⟨rfl, HB5.out⟩
      | false =>
        obtain ⟨m, rfl⟩ : ∃ m : Nat, t = (m : Int) := ⟨t.toNat, by omega⟩
        obtain ⟨k, rfl⟩ : ∃ m : Nat, c = (m : Int) := ⟨c.toNat, by omega⟩
        have HPL := Lib.hid (show Hp.health m k false = Hp.plain 200 ([111, 107, 32] ++ Dp.digs 10 m ++ 32 :: Dp.digs 10 k) by unfold Hp.health; rw [if_neg (by omega)]; simp)
        have KD := Lib.hid (fun W => ref_text m (by omega) W)
        have KE := Lib.hid (fun W => ref_text k (by omega) W)
        have hds := (show (⟨(Dp.digs 10 m).toArray⟩ : ByteArray).size = (Dp.digs 10 m).length by simp [ByteArray.size])
        have hls := (show (⟨(Dp.digs 10 k).toArray⟩ : ByteArray).size = (Dp.digs 10 k).length by simp [ByteArray.size])
        have hcat : ((⟨#[111, 107, 32]⟩ : ByteArray) ++ ⟨(Dp.digs 10 m).toArray⟩ ++ ⟨#[32]⟩ ++ ⟨(Dp.digs 10 k).toArray⟩).data.toList = [111, 107, 32] ++ Dp.digs 10 m ++ 32 :: Dp.digs 10 k := by simp
        obtain ⟨db, hdb⟩ : ∃ z : ByteArray, (⟨(Dp.digs 10 m).toArray⟩ : ByteArray) = z := ⟨_, rfl⟩
        obtain ⟨lb, hlb⟩ : ∃ z : ByteArray, (⟨(Dp.digs 10 k).toArray⟩ : ByteArray) = z := ⟨_, rfl⟩
        rw [hdb] at KD hds hcat
        rw [hlb] at KE hls hcat
        have hdl := digs_len64 m (by omega)
        have hdl2 := digs_len64 k (by omega)
        have hdb2 : db.size ≤ 20 := by omega
        have hlb2 : lb.size ≤ 20 := by omega
        obtain ⟨xb, hxb⟩ : ∃ z : ByteArray, (⟨#[111, 107, 32]⟩ : ByteArray) ++ db ++ ⟨#[32]⟩ ++ lb = z := ⟨_, rfl⟩
        have hxs : xb.size ≤ 1000 := by
          rw [← hxb, ByteArray.size_append, ByteArray.size_append, ByteArray.size_append]
          have h1 : (⟨#[32]⟩ : ByteArray).size = 1 := rfl
          have h2 : (⟨#[111, 107, 32]⟩ : ByteArray).size = 3 := rfl
          omega
        rw [hxb] at hcat
        have KP := Lib.hid (fun W => ref_Plain 200 xb W (by omega) (by omega))
        rw [hcat, ← HPL.out] at KP
        unfold RfOut at KP
        clear hds hls hdb hlb hdl hdl2 hcat hxs
        go_enter Tryd.func16, Tryd.ntmps16
        go_wp2_with fail
        refine (KD.out w).mono ?_
        rintro e w3 ⟨rfl, hw3⟩
        subst hw3
        go_wp2_with fail
        refine (KE.out w).mono ?_
        rintro e w4 ⟨rfl, hw4⟩
        subst hw4
        go_wp2_with fail
        refine (KP.out _).mono ?_
        rintro e w5 ⟨rfl, hb5⟩
        have HB5 := Lib.hid hb5
        clear hb5
        go_wp2_with fail
        go_ret2
        exact ⟨rfl, HB5.out⟩
end Go.Proofs.YthfdnlcalefjeaaDoor

/- The reference's stream. -/
namespace Go.Proofs.YthfdnlcalefjeaaDoor
set_option linter.unusedVariables false
set_option linter.unusedSimpArgs false
open Go.RowKit Go.Shelf
set_option maxHeartbeats 8000000
set_option maxRecDepth 100000
theorem hs_six (w : World) (G : Nat) (cs : Array Value) (fs : List Hp.Hd) (hG : w.heap[G]? = some (.cells cs 74 (0, 0))) (hc : cs = (hds fs).toArray) (n : Nat) (hn : n = fs.length) : HS w (.slice (some ⟨G, 0, none⟩) n n) fs := by
  subst hn
  refine .inr ⟨G, 0, fs.length, rfl, fun j hj => ?_⟩
  obtain ⟨h1, h2⟩ := hds_get fs j hj
  rw [Nat.zero_add]
  subst hc
  constructor
  · simp only [World.cell?, hG, List.getElem?_toArray, h1]; rfl
  · simp only [World.cell?, hG, List.getElem?_toArray, h2]; rfl
theorem ref_stream0 (w : World) :
    Calls Tryd.prog 18 #[.bool false] w fun e w' => e = .returned (.string ⟨(Hp.stream false).toArray⟩) ∧ Below w.heap.size w w' := by
  obtain ⟨G, hG⟩ : ∃ G, w.heap.size = G := ⟨_, rfl⟩
  obtain ⟨W2, hW2⟩ : ∃ Z, (w.alloc (.cells #[.string ⟨#[99, 111, 110, 116, 101, 110, 116, 45, 116, 121, 112, 101]⟩, .string ⟨#[116, 101, 120, 116, 47, 101, 118, 101, 110, 116, 45, 115, 116, 114, 101, 97, 109]⟩, .string ⟨#[99, 97, 99, 104, 101, 45, 99, 111, 110, 116, 114, 111, 108]⟩, .string ⟨#[110, 111, 45, 115, 116, 111, 114, 101]⟩, .string ⟨#[99, 111, 110, 110, 101, 99, 116, 105, 111, 110]⟩, .string ⟨#[99, 108, 111, 115, 101]⟩] 74)).alloc (.cells #[.string ⟨#[72, 84, 84, 80, 47, 49, 46, 49, 32, 50, 48, 48, 32, 79, 75]⟩, .slice (some ⟨w.heap.size, 0, none⟩) 3 3] 45) = Z := ⟨_, rfl⟩
  have hG2 : W2.heap[G]? = some (.cells #[.string ⟨#[99, 111, 110, 116, 101, 110, 116, 45, 116, 121, 112, 101]⟩, .string ⟨#[116, 101, 120, 116, 47, 101, 118, 101, 110, 116, 45, 115, 116, 114, 101, 97, 109]⟩, .string ⟨#[99, 97, 99, 104, 101, 45, 99, 111, 110, 116, 114, 111, 108]⟩, .string ⟨#[110, 111, 45, 115, 116, 111, 114, 101]⟩, .string ⟨#[99, 111, 110, 110, 101, 99, 116, 105, 111, 110]⟩, .string ⟨#[99, 108, 111, 115, 101]⟩] 74 (0, 0)) := by
    rw [← hW2, ← hG, Below.heap_alloc _ _ _ (by simp)]; exact World.alloc_heap_new _ _
  have HB2 := Lib.hid (show Below w.heap.size w W2 by rw [← hW2]; exact ((Below.refl _ _).alloc (Nat.le_refl _) _).alloc (by simp) _)
  have K := Lib.hid (ref_Bytes Hp.ok200 _ (Hp.sfields false) W2 (hs_six W2 G _ (Hp.sfields false) hG2 rfl 3 rfl) (by decide) (by decide) (by decide))
  have HGG := Lib.hid hG
  have HW2 := Lib.hid hW2
  clear hG hW2 hG2
  go_enter Tryd.func18, Tryd.ntmps18
  go_wp2_with fail
  rw [HW2.out, HGG.out]
  refine K.out.mono ?_
  rintro e w3 ⟨rfl, hb3⟩
  have HB3 := Lib.hid (HB2.out.trans (hb3.mono HB2.out.size))
  clear hb3
  go_wp2_with fail
  go_ret
  exact ⟨rfl, HB3.out⟩
theorem ref_stream1 (w : World) :
    Calls Tryd.prog 18 #[.bool true] w fun e w' => e = .returned (.string ⟨(Hp.stream true).toArray⟩) ∧ Below w.heap.size w w' := by
  obtain ⟨G, hG⟩ : ∃ G, w.heap.size = G := ⟨_, rfl⟩
  obtain ⟨W2, hW2⟩ : ∃ Z, (w.alloc (.cells #[.string ⟨#[99, 111, 110, 116, 101, 110, 116, 45, 116, 121, 112, 101]⟩, .string ⟨#[116, 101, 120, 116, 47, 101, 118, 101, 110, 116, 45, 115, 116, 114, 101, 97, 109]⟩, .string ⟨#[99, 97, 99, 104, 101, 45, 99, 111, 110, 116, 114, 111, 108]⟩, .string ⟨#[110, 111, 45, 115, 116, 111, 114, 101]⟩, .string ⟨#[116, 114, 97, 110, 115, 102, 101, 114, 45, 101, 110, 99, 111, 100, 105, 110, 103]⟩, .string ⟨#[99, 104, 117, 110, 107, 101, 100]⟩] 74)).alloc (.cells #[.string ⟨#[72, 84, 84, 80, 47, 49, 46, 49, 32, 50, 48, 48, 32, 79, 75]⟩, .slice (some ⟨w.heap.size, 0, none⟩) 3 3] 45) = Z := ⟨_, rfl⟩
  have hG2 : W2.heap[G]? = some (.cells #[.string ⟨#[99, 111, 110, 116, 101, 110, 116, 45, 116, 121, 112, 101]⟩, .string ⟨#[116, 101, 120, 116, 47, 101, 118, 101, 110, 116, 45, 115, 116, 114, 101, 97, 109]⟩, .string ⟨#[99, 97, 99, 104, 101, 45, 99, 111, 110, 116, 114, 111, 108]⟩, .string ⟨#[110, 111, 45, 115, 116, 111, 114, 101]⟩, .string ⟨#[116, 114, 97, 110, 115, 102, 101, 114, 45, 101, 110, 99, 111, 100, 105, 110, 103]⟩, .string ⟨#[99, 104, 117, 110, 107, 101, 100]⟩] 74 (0, 0)) := by
    rw [← hW2, ← hG, Below.heap_alloc _ _ _ (by simp)]; exact World.alloc_heap_new _ _
  have HB2 := Lib.hid (show Below w.heap.size w W2 by rw [← hW2]; exact ((Below.refl _ _).alloc (Nat.le_refl _) _).alloc (by simp) _)
  have K := Lib.hid (ref_Bytes Hp.ok200 _ (Hp.sfields true) W2 (hs_six W2 G _ (Hp.sfields true) hG2 rfl 3 rfl) (by decide) (by decide) (by decide))
  have HGG := Lib.hid hG
  have HW2 := Lib.hid hW2
  clear hG hW2 hG2
  go_enter Tryd.func18, Tryd.ntmps18
  go_wp2_with fail
  rw [HW2.out, HGG.out]
  refine K.out.mono ?_
  rintro e w3 ⟨rfl, hb3⟩
  have HB3 := Lib.hid (HB2.out.trans (hb3.mono HB2.out.size))
  clear hb3
  go_wp2_with fail
  go_ret
  exact ⟨rfl, HB3.out⟩
theorem ref_Stream (b : Bool) (w : World) :
    Calls Tryd.prog 18 #[.bool b] w fun e w' => e = .returned (.string ⟨(Hp.stream b).toArray⟩) ∧ Below w.heap.size w w' := by
  cases b
  · exact ref_stream0 w
  · exact ref_stream1 w
end Go.Proofs.YthfdnlcalefjeaaDoor

/- The law's num and works. -/
namespace Go.Proofs.YthfdnlcalefjeaaDoor
set_option linter.unusedVariables false
set_option linter.unusedSimpArgs false
open Go.RowKit Go.Shelf
set_option maxHeartbeats 8000000
set_option maxRecDepth 100000
theorem an_num (n : Int) (w : World) (h : -9223372036854775808 ≤ n ∧ n ≤ 9223372036854775807) :
    Calls Tryd.prog 14 #[.int .i64 n] w fun e w' => e = .returned (.int .i64 n) ∧ w' = w := by
  go_enter Tryd.func14, Tryd.ntmps14
  go_wp2
  go_ret
  exact ⟨rfl, rfl⟩
namespace Hp
theorem d405 : Dp.digs 10 405 = [52, 48, 53] := by
  have h1 : Dp.digs 10 405 = Dp.digs 10 40 ++ [Dp.dg 5] := Dp.digs_ge (by omega) (by omega)
  have h2 : Dp.digs 10 40 = Dp.digs 10 4 ++ [Dp.dg 0] := Dp.digs_ge (by omega) (by omega)
  rw [h1, h2, Dp.digs_lt (by omega)]; rfl
theorem d23 : Dp.digs 10 23 = [50, 51] := by
  have h1 : Dp.digs 10 23 = Dp.digs 10 2 ++ [Dp.dg 3] := Dp.digs_ge (by omega) (by omega)
  rw [h1, Dp.digs_lt (by omega)]; rfl
def body405 : List UInt8 := [72, 84, 84, 80, 47, 49, 46, 49, 32, 52, 48, 53, 32, 77, 101, 116, 104, 111, 100, 32, 78, 111, 116, 32, 65, 108, 108, 111, 119, 101, 100, 13, 10, 99, 111, 110, 116, 101, 110, 116, 45, 116, 121, 112, 101, 58, 32, 116, 101, 120, 116, 47, 112, 108, 97, 105, 110, 13, 10, 99, 111, 110, 116, 101, 110, 116, 45, 108, 101, 110, 103, 116, 104, 58, 32, 50, 51, 13, 10, 97, 108, 108, 111, 119, 58, 32, 71, 69, 84, 13, 10, 99, 111, 110, 110, 101, 99, 116, 105, 111, 110, 58, 32, 99, 108, 111, 115, 101, 13, 10, 13, 10, 52, 48, 53, 32, 109, 101, 116, 104, 111, 100, 32, 110, 111, 116, 32, 97, 108, 108, 111, 119, 101, 100, 10]
theorem r405 : reason 405 = some [77, 101, 116, 104, 111, 100, 32, 78, 111, 116, 32, 65, 108, 108, 111, 119, 101, 100] := by decide +kernel
theorem refusal405 : refusal 405 = some body405 := by
  have h2 : Dp.digs 10 (405 : Int).toNat ++ 32 :: Tp.lower [77, 101, 116, 104, 111, 100, 32, 78, 111, 116, 32, 65, 108, 108, 111, 119, 101, 100] = [52, 48, 53, 32, 109, 101, 116, 104, 111, 100, 32, 110, 111, 116, 32, 97, 108, 108, 111, 119, 101, 100] := by
    rw [show (405 : Int).toNat = 405 from rfl, d405]; decide +kernel
  have h1 : refusal 405 = plain 405 (Dp.digs 10 (405 : Int).toNat ++ 32 :: Tp.lower [77, 101, 116, 104, 111, 100, 32, 78, 111, 116, 32, 65, 108, 108, 111, 119, 101, 100]) := by
    unfold refusal; rw [r405]; rfl
  rw [h1, h2]
  unfold plain
  rw [r405]
  simp only
  rw [if_pos (by decide)]
  unfold first fields
  rw [show (405 : Int).toNat = 405 from rfl, d405, show ([52, 48, 53, 32, 109, 101, 116, 104, 111, 100, 32, 110, 111, 116, 32, 97, 108, 108, 111, 119, 101, 100] : List UInt8).length + 1 = 23 from rfl, d23]
  decide +kernel
theorem r404 : reason 404 = some [78, 111, 116, 32, 70, 111, 117, 110, 100] := by decide +kernel
theorem r418 : reason 418 = none := by decide +kernel
theorem refusal200 : refusal 200 = none := by
  unfold refusal
  rw [show reason 200 = some [79, 75] by decide +kernel]; rfl
end Hp
theorem an_works (w : World) (ht : Tabs w) :
    Calls Tryd.prog 7 #[] w fun e w' => e = .returned (.bool true) ∧ Below w.heap.size w w' := by
  have HT := Lib.hid ht
  have HN := Lib.hid an_num
  have K1 := Lib.hid (fun W => ans_Reason 404 W)
  have K2 := Lib.hid (fun W => ans_Reason 418 W)
  have K3 := Lib.hid (fun W (h : Tabs W) => ans_Refusal 200 W (by omega) h)
  have K4 := Lib.hid (fun W (h : Tabs W) => ans_Refusal 405 W (by omega) h)
  rw [Hp.r404] at K1
  rw [Hp.r418] at K2
  rw [Hp.refusal200] at K3
  rw [Hp.refusal405] at K4
  unfold Hp.reaOut at K1 K2
  unfold Hp.sx at K1
  simp only at K1 K2
  clear ht
  go_enter Tryd.func7, Tryd.ntmps7
  go_wp2_with fail
  refine (K1.out w).mono ?_
  rintro e w1 ⟨rfl, hb1⟩
  have HB1 := Lib.hid hb1
  clear hb1
  go_wp2_with fail
  refine (K2.out w1).mono ?_
  rintro e w2 ⟨rfl, hb2⟩
  have HB2 := Lib.hid (HB1.out.trans (hb2.mono HB1.out.size))
  clear hb2
  go_wp2_with fail
  refine (K3.out w2 (HT.out.bel HB2.out)).mono ?_
  rintro e w3 ⟨⟨v3, rfl, hv3⟩, hb3⟩
  have HB3 := Lib.hid (HB2.out.trans (hb3.mono HB2.out.size))
  clear hb3 hv3
  unfold erOf
  simp only [Option.isSome_none, Bool.false_eq_true, if_false]
  go_wp2_with fail
  refine (K4.out w3 (HT.out.bel HB3.out)).mono ?_
  rintro e w4 ⟨⟨v4, rfl, hv4⟩, hb4⟩
  have HB4 := Lib.hid (HB3.out.trans (hb4.mono HB3.out.size))
  have hcv := conv_brow hv4
  simp only [Option.getD_some] at hcv
  clear hb4 hv4
  unfold erOf
  simp only [Option.isSome_some, if_true]
  go_wp2_with fail
  refine (HN.out 0 _ (by omega)).mono ?_
  rintro e w5 ⟨rfl, hw5⟩
  subst w5
  go_wp2_with fail
  refine (HN.out 0 _ (by omega)).mono ?_
  rintro e w5 ⟨rfl, hw5⟩
  subst w5
  go_wp2_with fail
  refine (HN.out 2 _ (by omega)).mono ?_
  rintro e w5 ⟨rfl, hw5⟩
  subst w5
  go_wp2_with fail
  refine (HN.out 2 _ (by omega)).mono ?_
  rintro e w5 ⟨rfl, hw5⟩
  subst w5
  go_wp2_with fail
  go_ret
  refine ⟨?_, HB4.out⟩
  show Ending.returned (.bool (Hp.body405 == Hp.body405)) = _
  rw [beq_self_eq_true]
end Go.Proofs.YthfdnlcalefjeaaDoor

/- AnswerStatuses returns true for any number: the walk. The tables of the library read as they are laid. -/
namespace Go.Proofs.YthfdnlcalefjeaaDoor
set_option linter.unusedVariables false
set_option linter.unusedSimpArgs false
open Go.RowKit Go.Shelf
attribute [local go_sem] Oper.semAt_some
set_option maxHeartbeats 8000000
set_option maxRecDepth 100000
theorem at_max (ts : Array TypeId) (t : TypeId) (a b : Int) (w : World) : (Builtin.max_ ts t #[.int .i64 a, .int .i64 b]).run Tryd.prog w = .ok (.int .i64 (if b > a then b else a)) w := by
  simp [Builtin.max_, Builtin.max2, go_sem]
theorem at_min (ts : Array TypeId) (t : TypeId) (a b : Int) (w : World) : (Builtin.min_ ts t #[.int .i64 a, .int .i64 b]).run Tryd.prog w = .ok (.int .i64 (if b < a then b else a)) w := by
  simp [Builtin.min_, Builtin.min2, go_sem]
theorem at_nil (fn : Fn) (f c : Array Value) (W : World) : (binOp BinOp.eql 57 (.func fn f c) .nilFunc).run Tryd.prog W = .ok (.bool false) W := by kernel_rfl
/-- the statuses' own block -/
def SB (C : Nat) (W : World) : Prop := W.heap[C]? = some (.cells Hp.stCells.toArray 62 (0, 0))
def SI (C : Nat) (W : World) : Prop := W.heap[C]? = some (.cells Hp.stI.toArray 3 (0, 0))
def SR (C : Nat) (W : World) : Prop := W.heap[C]? = some (.cells Hp.stR.toArray 9 (0, 0))
theorem SB.stAt {C : Nat} {W : World} (h : SB C W) : StAt W C 0 := fun j hj => by
  obtain ⟨e1, e2⟩ := Hp.stCells_at j hj
  unfold SB at h
  constructor
  · simp only [World.cell?, h, Nat.zero_add, List.getElem?_toArray, e1]; rfl
  · simp only [World.cell?, h, Nat.zero_add, List.getElem?_toArray, e2]; rfl
theorem SI.cell {C : Nat} {W : World} (h : SI C W) {j : Nat} (hj : j < 8) : W.cell? ⟨C, j, none⟩ = some (.int .i64 (Hp.st j).1) := by
  unfold SI at h
  simp only [World.cell?, h, List.getElem?_toArray, (Hp.st_at j hj).1]; rfl
theorem SR.cell {C : Nat} {W : World} (h : SR C W) {j : Nat} (hj : j < 8) : W.cell? ⟨C, j, none⟩ = some (Hp.sx (Hp.st j).2) := by
  unfold SR at h
  simp only [World.cell?, h, List.getElem?_toArray, (Hp.st_at j hj).2]; rfl
/-- what stays through a turn of the law -/
structure TB (w W : World) (many : Int) (B C : Nat) : Prop where
  hb : Below w.heap.size w W
  hB : w.heap.size = B
  hC : B + 6 ≤ C
  m : Boxed W B 3 (.int .i64 many)
  r : Boxed W (B + 1) 4 (.bool false)
  i : SI (B + 2) W
  t : SR (B + 3) W
  si : Boxed W (B + 4) 52 (.slice (some ⟨B + 2, 0, none⟩) 8 8)
  sr : Boxed W (B + 5) 54 (.slice (some ⟨B + 3, 0, none⟩) 8 8)
  s : SB C W
theorem TB.lt {w W : World} {many : Int} {B C : Nat} (h : TB w W many B C) : C < W.heap.size := (Array.getElem?_eq_some_iff.1 h.s).1
theorem TB.keep {w W W' : World} {many : Int} {B C : Nat} (h : TB w W many B C) (hb : Below w.heap.size w W') (k : ∀ b, B ≤ b → b ≤ C → W'.heap[b]? = W.heap[b]?) : TB w W' many B C := by
  have hC := h.hC
  exact ⟨hb, h.hB, h.hC, (k _ (by omega) (by omega)).trans h.m, (k _ (by omega) (by omega)).trans h.r, (k _ (by omega) (by omega)).trans h.i, (k _ (by omega) (by omega)).trans h.t, (k _ (by omega) (by omega)).trans h.si, (k _ (by omega) (by omega)).trans h.sr, (k _ (by omega) (by omega)).trans h.s⟩
theorem TB.alloc {w W : World} {many : Int} {B C : Nat} (h : TB w W many B C) (o : Obj) : TB w (W.alloc o) many B C :=
  h.keep (h.hb.alloc h.hb.size _) (fun b _ hb => Below.heap_alloc _ _ _ (by have := h.lt; omega))
theorem TB.turn {w W W' : World} {many : Int} {B C E : Nat} (h : TB w W many B C) (ht : Turn E (fun _ => False) W W') (hE : B ≤ E) : TB w W' many B C :=
  ⟨h.hb.trans (ht.below (by have := h.hB; omega) h.hb.size (fun b hb => hb.elim)), h.hB, h.hC, ht.boxed h.m (fun h => h), ht.boxed h.r (fun h => h), ht.cells h.i rfl (fun h => h), ht.cells h.t rfl (fun h => h), ht.boxed h.si (fun h => h), ht.boxed h.sr (fun h => h), ht.cells h.s rfl (fun h => h)⟩
theorem TB.set {w W : World} {many : Int} {B C b : Nat} (h : TB w W many B C) (hb : C < b) (v : Value) : TB w (W.setCell ⟨b, 0, none⟩ v) many B C :=
  h.keep (h.hb.setCell (p := ⟨b, 0, none⟩) (by have := h.hB; have := h.hC; show _ ≤ b; omega) v) (fun c _ hc => Below.heap_setCell _ _ _ _ (by show c ≠ b; omega))
theorem stat_iter {C E : Nat} {X V : World} (hE : X.heap.size = E) (hl : C < E) (h : SB C X) (m : Nat) :
    IterAt Fence.wide m Tryd.prog 37 #[.pointer (some ⟨C, 0, none⟩)] (fun k => #[.int .i64 (Hp.st k).1, Hp.sx (Hp.st k).2]) 8 (fun _ => False) (Keep (fun b => b = C ∨ b = E)) X :=
  (stat1_it C E (Keep (fun b => b = C ∨ b = E)) (SB C) X hE (fun X h => h.stAt) (fun X Y h s => (h C (.inl rfl)).trans s) (fun X Y h s => h.cells s rfl (fun h => h))
    (fun X l o o' h1 h2 s => (World.putObj_heap_other (fun e => by
      have h3 : X.heap[l]? = some (.cells Hp.stCells.toArray 62 (0, 0)) := e ▸ s
      rw [h1] at h3; cases h3; cases h2)).trans s) (fun X Y u h b => (h E (.inr rfl)).trans b) hl h).any _
theorem walkAT (m : Int) (w : World) (hm : (Lit.int .i64 m).wf = true) (ht : Tabs w) :
    Calls Tryd.prog 6 #[.int .i64 m] w fun e w' => e = .returned (.bool true) ∧ Below w.heap.size w w' := by
  have HT := Lib.hid ht
  clear ht
  have hnil := at_nil
  refine callsIn_wide.1 (callsIn_of_wp_marks (F := Fence.wide) (n := 9) Tryd.func6 rfl trivial ?_ rfl)
  simp only [Tryd.ntmps6, List.size_toArray, List.length_cons, List.length_nil, Nat.reduceAdd, Nat.reduceSub, Array.replicate_succ, Array.replicate_zero, List.push_toArray, List.append_toArray, List.nil_append, List.cons_append]
  obtain ⟨B, hB⟩ : ∃ B, w.heap.size = B := ⟨_, rfl⟩
  obtain ⟨W1, hW1⟩ : ∃ W1, ((w.alloc (.cells #[.int .i64 m] 3)).alloc (.cells #[.bool false] 4)) = W1 := ⟨_, rfl⟩
  have e1 : Below w.heap.size w W1 ∧ W1.heap.size = B + 2 ∧ Boxed W1 B 3 (.int .i64 m) ∧ Boxed W1 (B + 1) 4 (.bool false) := by
    subst hW1
    have b1 := Boxed.new w 3 (.int .i64 m)
    have b2 := Boxed.new (w.alloc (.cells #[.int .i64 m] 3)) 4 (.bool false)
    simp only [World.size_alloc, hB] at b1 b2
    exact ⟨(((Below.refl _ w).alloc (Nat.le_refl _) _).alloc (by simp) _), by simp [hB], b1.alloc _, b2⟩
  have HBB := Lib.hid hB
  have HW1 := Lib.hid hW1
  clear hB hW1
  obtain ⟨eb1, ez1, ebm, ebr⟩ := e1
  have HZ1 := Lib.hid ez1
  obtain ⟨W2, hW2⟩ : ∃ W2, W1.alloc (.cells Hp.stI.toArray 3) = W2 := ⟨_, rfl⟩
  have hz2 : W2.heap.size = B + 3 := by rw [← hW2]; simp [ez1]
  obtain ⟨W3, hW3⟩ : ∃ W3, W2.alloc (.cells Hp.stR.toArray 9) = W3 := ⟨_, rfl⟩
  have hz3 : W3.heap.size = B + 4 := by rw [← hW3]; simp [hz2]
  obtain ⟨W4, hW4⟩ : ∃ W4, (W3.alloc (.cells #[.slice (some ⟨B + 2, 0, none⟩) 8 8] 52)).alloc (.cells #[.slice (some ⟨B + 3, 0, none⟩) 8 8] 54) = W4 := ⟨_, rfl⟩
  have hz4 : W4.heap.size = B + 6 := by rw [← hW4]; simp [hz3]
  have HE4 : Hid (Below w.heap.size w W4 ∧ Boxed W4 B 3 (.int .i64 m) ∧ Boxed W4 (B + 1) 4 (.bool false) ∧ SI (B + 2) W4 ∧ SR (B + 3) W4 ∧ Boxed W4 (B + 4) 52 (.slice (some ⟨B + 2, 0, none⟩) 8 8) ∧ Boxed W4 (B + 5) 54 (.slice (some ⟨B + 3, 0, none⟩) 8 8)) := by
    have b4 := Boxed.new W3 52 (.slice (some ⟨B + 2, 0, none⟩) 8 8)
    have b5 := Boxed.new (W3.alloc (.cells #[.slice (some ⟨B + 2, 0, none⟩) 8 8] 52)) 54 (.slice (some ⟨B + 3, 0, none⟩) 8 8)
    simp only [World.size_alloc, hz3] at b4 b5
    have g2 : W2.heap[B + 2]? = some (.cells Hp.stI.toArray 3 (0, 0)) := by rw [← hW2, ← ez1]; exact World.alloc_heap_new _ _
    have g3 : W3.heap[B + 3]? = some (.cells Hp.stR.toArray 9 (0, 0)) := by rw [← hW3, ← hz2]; exact World.alloc_heap_new _ _
    have k34 : Below (B + 4) W3 W4 := by rw [← hW4]; exact ((Below.refl _ W3).alloc (by omega) _).alloc (by simp; omega) _
    have k23 : Below (B + 3) W2 W3 := by rw [← hW3]; exact (Below.refl _ W2).alloc (by omega) _
    have k12 : Below (B + 2) W1 W2 := by rw [← hW2]; exact (Below.refl _ W1).alloc (by omega) _
    have k14 : Below (B + 2) W1 W4 := (k12.trans (k23.mono (by omega))).trans (k34.mono (by omega))
    exact ⟨eb1.trans (k14.mono (by rw [HBB.out]; omega)), (k14.block _ (by omega)).trans ebm, (k14.block _ (by omega)).trans ebr, (((k23.trans (k34.mono (by omega))).block _ (by omega)).trans g2), (k34.block _ (by omega)).trans g3, by rw [← hW4]; exact b4.alloc _, by rw [← hW4]; exact b5⟩
  have HW2 := Lib.hid hW2
  have HW3 := Lib.hid hW3
  have HW4 := Lib.hid hW4
  have HZ2 := Lib.hid hz2
  have HZ3 := Lib.hid hz3
  have HZ4 := Lib.hid hz4
  have KI := Lib.hid (ref_Statuses W1)
  have KR := Lib.hid (ref_Reasons W2)
  have KS := Lib.hid (ans_Statuses W4)
  clear eb1 ez1 ebm ebr hW2 hW3 hW4 hz2 hz3 hz4
  gi_wp2_with fail
  rw [HW1.out, HBB.out]
  refine ⟨trivial, (callsIn_wide.2 KI.out).mono ?_⟩
  rintro e w2 ⟨rfl, rfl⟩
  rw [HW2.out, HZ1.out]
  gi_wp2_with fail
  refine ⟨trivial, (callsIn_wide.2 KR.out).mono ?_⟩
  rintro e w3 ⟨rfl, rfl⟩
  rw [HW3.out, HZ2.out]
  gi_wp2_with fail
  rw [HW4.out, HZ3.out]
  rw [show B + 4 + 1 = B + 5 from rfl]
  refine ⟨trivial, (callsIn_wide.2 KS.out).mono ?_⟩
  rintro e V ⟨C, rfl, hs, hC, hbv⟩
  obtain ⟨TV, hTV⟩ : ∃ TV, V.heap.size = TV := ⟨_, rfl⟩
  obtain ⟨V0, hV0⟩ : ∃ V0, V.alloc (.cells #[.int .i64 0] 3) = V0 := ⟨_, rfl⟩
  have EV : TB w V m B C := by
    obtain ⟨h1, h2, h3, h4, h5, h6, h7⟩ := HE4.out
    rw [HZ4.out] at hC hbv
    exact ⟨h1.trans (hbv.mono (by rw [HBB.out]; omega)), HBB.out, hC, (hbv.block _ (by omega)).trans h2, (hbv.block _ (by omega)).trans h3, (hbv.block _ (by omega)).trans h4, (hbv.block _ (by omega)).trans h5, (hbv.block _ (by omega)).trans h6, (hbv.block _ (by omega)).trans h7, hs⟩
  have hCT : C < TV := by rw [← hTV]; exact EV.lt
  have hCB := EV.hC
  have HTV := Lib.hid hTV
  have E0 : TB w V0 m B C := by rw [← hV0]; exact EV.alloc _
  have bT : Boxed V0 TV 3 (.int .i64 0) := by rw [← hV0, ← hTV]; exact Boxed.new _ _ _
  have HV0 := Lib.hid hV0
  clear hs hC hbv EV hTV hV0
  gi_wp2_with fail
  rw [HV0.out, HTV.out]
  refine wpIn_loop_rounds 3 ?_
  rw [roundsIn_succ]
  have cT := bT.cell
  obtain ⟨T, hT⟩ : ∃ T, V0.heap.size = T := ⟨_, rfl⟩
  obtain ⟨X1, hX1⟩ : ∃ X1, V0.alloc (.cells #[.int .i64 0] 3) = X1 := ⟨_, rfl⟩
  have E1 : TB w X1 m B C := by rw [← hX1]; exact E0.alloc _
  have bT1 : Boxed X1 TV 3 (.int .i64 0) := by rw [← hX1]; exact bT.alloc _
  have bn1 : Boxed X1 T 3 (.int .i64 0) := by rw [← hX1, ← hT]; exact Boxed.new _ _ _
  have hs1 : X1.heap.size = T + 1 := by rw [← hX1, ← hT]; simp
  have hTT : TV < T := by rw [← hT]; exact bT.lt
  have HX1 := Lib.hid hX1
  have HT1 := Lib.hid hT
  clear hX1 hT E0
  gi_wp2_with fail
  rw [HX1.out, HT1.out]
  refine rf_break (id := 2) (N := 8) (own := fun _ => False) (Kp := Keep (fun b => b = C ∨ b = T + 3)) (encs := fun k => #[.int .i64 (Hp.st k).1, Hp.sx (Hp.st k).2]) rfl (by omega) (gf := 37) (lb := #[.pointer (some ⟨C, 0, none⟩)]) rfl trivial (enters_of Tryd.func37 (by kernel_rfl) rfl)
    (fun _ => rfl) (fun b hb => hb.elim)
    (fun X hX hs => stat_iter (E := T + 3) (V := X) (by omega) (by omega) ((hX.block _ (by omega)).trans E1.s) _)
    Keep.trans (fun X o o' h2 h3 => Keep.putObj _ _ _ (by omega))
    (fun k X => TB w X m B C ∧ Boxed X TV 3 (.int .i64 0) ∧ Boxed X T 3 (.int .i64 (k : Int)) ∧ (1 ≤ k → (k : Int) < m))
    (fun X => ∃ k : Nat, 1 ≤ k ∧ k ≤ 8 ∧ (k = 8 ∨ m ≤ (k : Int)) ∧ (2 ≤ k → (k : Int) - 1 < m) ∧ TB w X m B C ∧ Boxed X TV 3 (.int .i64 0) ∧ Boxed X T 3 (.int .i64 (k : Int)))
    (fun k X Y hs ht => ⟨hs.1.turn ht (by omega), ht.boxed hs.2.1 (fun h => h), ht.boxed hs.2.2.1 (fun h => h), hs.2.2.2⟩)
    (fun X Y hs ht => by
      obtain ⟨k, h2, h3, h4, h5, h6, h7, h8⟩ := hs
      exact ⟨k, h2, h3, h4, h5, h6.turn ht (by omega), ht.boxed h7 (fun h => h), ht.boxed h8 (fun h => h)⟩)
    ⟨E1, bT1, bn1, by omega⟩
    (fun k b _ => b = { tmps := #[.int .i64 m, .pointer (some ⟨B, 0, none⟩), .pointer (some ⟨B + 1, 0, none⟩), .pointer (some ⟨B + 4, 0, none⟩), .pointer (some ⟨B + 5, 0, none⟩), .func (.func 37) #[] #[.pointer (some ⟨C, 0, none⟩)], .pointer (some ⟨TV, 0, none⟩), .pointer (some ⟨T, 0, none⟩), .int .i64 (Hp.st k).1, Hp.sx (Hp.st k).2, .slice (some ⟨B + 2, 0, none⟩) 8 8, .slice (some ⟨B + 3, 0, none⟩) 8 8, .func (.func 37) #[] #[.pointer (some ⟨C, 0, none⟩)], .func (.func 37) #[] #[.pointer (some ⟨C, 0, none⟩)], .bool false, .int .i64 0, .bool true, undef, undef, .func (.func 37) #[] #[.pointer (some ⟨C, 0, none⟩)], .int .i64 (Hp.st k).1, Hp.sx (Hp.st k).2, undef, undef, undef, undef, undef, undef, undef, undef, undef, undef, undef, undef, undef, undef, undef, undef, undef, undef, undef, undef, undef, undef, undef, undef, undef, undef, undef, undef, undef, undef, undef, undef, undef, undef, undef, undef, undef, undef, undef, undef, undef, undef, undef, undef, undef, undef, undef, undef, undef, undef, undef, undef], defers := [] })
    (fun _ _ _ _ hs _ => hs) ?assign ?body ?all ?fin
  case assign =>
    intro l' k X K hk hi hK
    gi_wp2
    exact hK _ _ (KeepsFrom.refl _ _) (fun _ _ => rfl) hi rfl
  case body =>
    rintro l' k b X hl' ⟨r, hr⟩ hk ⟨E2, bT2, bn2, hkm⟩ rfl
    have cn := bn2.cell
    have fn := bn2.frozen
    have cT2 := bT2.cell
    have cs := E2.si.cell
    have ct := E2.sr.cell
    have cm := E2.m.cell
    have ci := E2.i.cell hk
    have cr := E2.t.cell hk
    unfold Hp.sx at cr ⊢
    obtain ⟨a, ha⟩ : ∃ z, (Hp.st k).1 = z := ⟨_, rfl⟩
    obtain ⟨rb, hrb⟩ : ∃ z : ByteArray, (⟨(Hp.st k).2.toArray⟩ : ByteArray) = z := ⟨_, rfl⟩
    rw [ha] at ci ⊢
    rw [hrb] at cr ⊢
    have HE2 := Lib.hid E2
    have HbT2 := Lib.hid bT2
    have Hbn2 := Lib.hid bn2
    have HKM := Lib.hid hkm
    clear E2 bT2 bn2 hkm ha hrb cT
    gi_wp2
    · have h1 : m ≤ (k : Int) + 1 := by assumption
      exact ⟨(KeepsOthers.setCell _ _ _).from _, rfl, k + 1, by omega, by omega, .inr (by omega), fun h => by have := HKM.out (by omega); omega, HE2.out.set (by omega) _, HbT2.out.other (by omega) _, Hbn2.out.set _⟩
    · have h1 : (k : Int) + 1 < m := by assumption
      exact ⟨(KeepsOthers.setCell _ _ _).from _, fun b hb => Below.heap_setCell _ _ _ _ (by show b ≠ T; omega), HE2.out.set (by omega) _, HbT2.out.other (by omega) _, Hbn2.out.set _, fun _ => by omega⟩
  case all =>
    rintro X ⟨h1, h2, h3, h4⟩
    exact ⟨8, by omega, Nat.le_refl _, .inl rfl, fun h => by have := h4 (by omega); omega, h1, h2, h3⟩
  case fin =>
    rintro D1 X hD1 ⟨k, hk1, hkN, hkm, hkl, E2, bT2, bn2⟩ hK1
    have cn := bn2.cell
    have cT := bT2.cell
    have fT := bT2.frozen
    have cs := E2.si.cell
    have cm := E2.m.cell
    have HE2 := Lib.hid E2
    have HbT2 := Lib.hid bT2
    have HK1 := Lib.hid hK1
    have Hbn2 := Lib.hid bn2
    obtain ⟨mx, hmx, hmi⟩ : ∃ mx : Int, (∀ W, (Builtin.max_ #[3, 3] 3 #[.int .i64 1, .int .i64 m]).run Tryd.prog W = .ok (.int .i64 mx) W) ∧ (∀ W, (Builtin.min_ #[3, 3] 3 #[.int .i64 8, .int .i64 mx]).run Tryd.prog W = .ok (.int .i64 (k : Int)) W) := by
      refine ⟨if m > 1 then m else 1, fun W => at_max _ _ _ _ W, fun W => ?_⟩
      rw [at_min]
      congr 2
      split <;> split <;> omega
    clear E2 bT2 bn2 hkm hK1 hkl
    gi_wp2_with fail
    rw [roundsIn_succ]
    obtain ⟨T2, hT2⟩ : ∃ T2, X.heap.size = T2 := ⟨_, rfl⟩
    obtain ⟨X2, hX2⟩ : ∃ X2, X.alloc (.cells #[.int .i64 1] 3) = X2 := ⟨_, rfl⟩
    obtain ⟨X3, hX3⟩ : ∃ X3, X2.alloc (.cells #[.int .i64 0] 3) = X3 := ⟨_, rfl⟩
    have hCX : T < X.heap.size := by have := Hbn2.out.lt; omega
    have E3 : TB w X3 m B C := by rw [← hX3, ← hX2]; exact (HE2.out.alloc _).alloc _
    have bT3 : Boxed X3 T2 3 (.int .i64 1) := by rw [← hX3, ← hX2, ← hT2]; exact (Boxed.new _ _ _).alloc _
    obtain ⟨C2, hC2⟩ : ∃ C2, X2.heap.size = C2 := ⟨_, rfl⟩
    have hTC2 : C2 = T2 + 1 := by rw [← hC2, ← hX2, ← hT2]; simp
    have bn3 : Boxed X3 C2 3 (.int .i64 0) := by rw [← hX3, ← hC2]; exact Boxed.new _ _ _
    have hs3 : X3.heap.size = C2 + 1 := by rw [← hX3, ← hC2]; simp
    have hD1s : D1 < T2 := by rw [← hT2]; exact (Array.getElem?_eq_some_iff.1 HK1.out).1
    have K3 : X3.heap[D1]? = some (.deferred (some [])) := by
      rw [← hX3, ← hX2]
      exact (Below.heap_alloc _ _ _ (by simp; omega)).trans ((Below.heap_alloc _ _ _ (by omega)).trans HK1.out)
    have cT2 : X2.cell? ⟨T2, 0, none⟩ = some (.int .i64 1) := by rw [← hX2, ← hT2]; exact (Boxed.new _ _ _).cell
    have cT2b : (X2.alloc (.cells #[.int .i64 0] 3)).cell? ⟨T2, 0, none⟩ = some (.int .i64 1) := by rw [hX3]; exact bT3.cell
    rw [hT2, hX2]
    have HX3 := Lib.hid hX3
    have HC2 := Lib.hid hC2
    have HTC2 := Lib.hid hTC2
    have hTT2 : T < T2 := by omega
    clear hX3 hC2 hT2 hX2 hTC2 cn cT fT cs cm
    gi_wp2_with fail
    rw [HX3.out, HC2.out]
    have hTC2 : T2 < C2 := by have := HTC2.out; omega
    clear cT2 cT2b
    refine rf_break (id := 2) (N := 8) (own := fun _ => False) (Kp := Keep (fun b => b = C ∨ b = C2 + 3)) (encs := fun i => #[.int .i64 (Hp.st i).1, Hp.sx (Hp.st i).2]) rfl (by omega) (gf := 37) (lb := #[.pointer (some ⟨C, 0, none⟩)]) rfl trivial (enters_of Tryd.func37 (by kernel_rfl) rfl)
      (fun _ => rfl) (fun b hb => hb.elim)
      (fun Y hY hs => stat_iter (E := C2 + 3) (V := Y) (by omega) (by omega) ((hY.block _ (by omega)).trans E3.s) _)
      Keep.trans (fun Y o o' h2 h3 => Keep.putObj _ _ _ (by omega))
      (fun i Y => TB w Y m B C ∧ Boxed Y T2 3 (.int .i64 1) ∧ Boxed Y C2 3 (.int .i64 (i : Int)) ∧ Y.heap[D1]? = some (.deferred (some [])))
      (fun Y => TB w Y m B C ∧ Boxed Y T2 3 (.int .i64 1) ∧ Boxed Y C2 3 (.int .i64 8) ∧ Y.heap[D1]? = some (.deferred (some [])))
      (fun i Y Z hs ht => ⟨hs.1.turn ht (by omega), ht.boxed hs.2.1 (fun h => h), ht.boxed hs.2.2.1 (fun h => h), ht.low hs.2.2.2 (by omega) (fun h => h)⟩)
      (fun Y Z hs ht => ⟨hs.1.turn ht (by omega), ht.boxed hs.2.1 (fun h => h), ht.boxed hs.2.2.1 (fun h => h), ht.low hs.2.2.2 (by omega) (fun h => h)⟩)
      ⟨E3, bT3, bn3, K3⟩
      (fun i b _ => b = { tmps := #[.int .i64 m, .pointer (some ⟨B, 0, none⟩), .pointer (some ⟨B + 1, 0, none⟩), .pointer (some ⟨B + 4, 0, none⟩), .pointer (some ⟨B + 5, 0, none⟩), .func (.func 37) #[] #[.pointer (some ⟨C, 0, none⟩)], .pointer (some ⟨T2, 0, none⟩), .pointer (some ⟨C2, 0, none⟩), .int .i64 (Hp.st i).1, Hp.sx (Hp.st i).2, .slice (some ⟨B + 2, 0, none⟩) 8 8, .slice (some ⟨B + 3, 0, none⟩) 8 8, .func (.func 37) #[] #[.pointer (some ⟨C, 0, none⟩)], .func (.func 37) #[] #[.pointer (some ⟨C, 0, none⟩)], .bool false, .int .i64 1, .bool true, .int .i64 0, .int .i64 1, .func (.func 37) #[] #[.pointer (some ⟨C, 0, none⟩)], .int .i64 (Hp.st i).1, Hp.sx (Hp.st i).2, undef, undef, undef, undef, undef, undef, undef, undef, undef, undef, undef, undef, undef, undef, undef, undef, undef, undef, undef, undef, undef, undef, undef, undef, undef, undef, undef, undef, undef, .int .i64 0, .bool true, .bool true, .int .i64 (k : Int), .slice (some ⟨B + 2, 0, none⟩) 8 8, .int .i64 8, .int .i64 m, .int .i64 mx, .int .i64 (k : Int), .bool false, .bool false, .bool false, .int .i64 0, .bool false, .bool false, undef, undef, undef, undef, .bool false, .bool false, .int .i64 0, undef], defers := [] })
      (fun _ _ _ _ hs _ => hs) ?assign2 ?body2 ?all2 ?fin2
    case assign2 =>
      intro l' i Y K hk hi hK
      gi_wp2
      exact hK _ _ (KeepsFrom.refl _ _) (fun _ _ => rfl) hi rfl
    case body2 =>
      rintro l' i b Y hl' ⟨r, hr⟩ hk ⟨E4, bT4, bn4, K4⟩ rfl
      have cn := bn4.cell
      have fn := bn4.frozen
      have cT := bT4.cell
      have cs := E4.si.cell
      have ct := E4.sr.cell
      have cm := E4.m.cell
      have ci := E4.i.cell hk
      have cr := E4.t.cell hk
      unfold Hp.sx at cr ⊢
      obtain ⟨a, ha⟩ : ∃ z, (Hp.st i).1 = z := ⟨_, rfl⟩
      obtain ⟨rb, hrb⟩ : ∃ z : ByteArray, (⟨(Hp.st i).2.toArray⟩ : ByteArray) = z := ⟨_, rfl⟩
      rw [ha] at ci ⊢
      rw [hrb] at cr ⊢
      have HE4 := Lib.hid E4
      have HbT4 := Lib.hid bT4
      have Hbn4 := Lib.hid bn4
      have HK4 := Lib.hid K4
      clear E4 bT4 bn4 K4 hmx hmi ha hrb
      gi_wp2
      exact ⟨(KeepsOthers.setCell _ _ _).from _, fun b hb => Below.heap_setCell _ _ _ _ (by show b ≠ C2; omega), HE4.out.set (by omega) _, HbT4.out.other (by omega) _, Hbn4.out.set _, (Below.heap_setCell _ _ _ _ (by show D1 ≠ C2; omega)).trans HK4.out⟩
    case all2 =>
      rintro Y ⟨h1, h2, h3, h4⟩
      exact ⟨h1, h2, h3, h4⟩
    case fin2 =>
      rintro D2 Y hD2 ⟨E5, bT5, bn5, K5⟩ hK2
      have cn := bn5.cell
      have cT := bT5.cell
      have cs := E5.si.cell
      have cm := E5.m.cell
      have HE5 := Lib.hid E5
      have HK5 := Lib.hid K5
      have HK2 := Lib.hid hK2
      clear E5 bT5 bn5 K5 hK2 hmx hmi
      gi_wp2_with fail
      rw [roundsIn_succ]
      obtain ⟨Z, hZ⟩ : ∃ Z, Y.alloc (.cells #[.int .i64 2] 3) = Z := ⟨_, rfl⟩
      obtain ⟨T3, hT3⟩ : ∃ T3, Y.heap.size = T3 := ⟨_, rfl⟩
      have cZ : Z.cell? ⟨T3, 0, none⟩ = some (.int .i64 2) := by rw [← hZ, ← hT3]; exact (Boxed.new _ _ _).cell
      have E6 : TB w Z m B C := by rw [← hZ]; exact HE5.out.alloc _
      have K6 : Z.heap[D1]? = some (.deferred (some [])) := by rw [← hZ]; exact (Below.heap_alloc _ _ _ (Array.getElem?_eq_some_iff.1 HK5.out).1).trans HK5.out
      have K7 : Z.heap[D2]? = some (.deferred (some [])) := by rw [← hZ]; exact (Below.heap_alloc _ _ _ (Array.getElem?_eq_some_iff.1 HK2.out).1).trans HK2.out
      rw [hT3, hZ]
      have HE6 := Lib.hid E6
      have HK6 := Lib.hid K6
      have HK7 := Lib.hid K7
      have WK := Lib.hid (an_works Z (HT.out.bel E6.hb))
      clear hT3 hZ E6 K6 K7 cn cT cs cm
      gi_wp2_with fail
      refine ⟨trivial, (callsIn_wide.2 WK.out).mono ?_⟩
      rintro e V' ⟨rfl, hbV⟩
      have bR : Boxed V' (B + 1) 4 (.bool false) := (hbV.block _ HE6.out.r.lt).trans HE6.out.r
      have K8 : V'.heap[D1]? = some (.deferred (some [])) := (hbV.block _ (Array.getElem?_eq_some_iff.1 HK6.out).1).trans HK6.out
      have K9 : V'.heap[D2]? = some (.deferred (some [])) := (hbV.block _ (Array.getElem?_eq_some_iff.1 HK7.out).1).trans HK7.out
      have bV := HE6.out.hb.trans (hbV.mono HE6.out.hb.size)
      have cR := bR.cell
      have fR := bR.frozen
      have HK8 := Lib.hid K8
      have HK9 := Lib.hid K9
      have HbR := Lib.hid bR
      have HbV := Lib.hid bV
      clear bR K8 K9 bV hbV
      gi_wp2
      have hBw := HE6.out.hB
      have d2 : B + 1 < D2 := by omega
      have d1 : B + 1 < D1 := by omega
      have d12 : D1 ≠ D2 := by omega
      have L9 : (V'.setCell ⟨B + 1, 0, none⟩ (.bool true)).heap[D2]? = some (.deferred (some [])) := (Below.heap_setCell _ _ _ _ (by show D2 ≠ B + 1; omega)).trans HK9.out
      have L8 : ((V'.setCell ⟨B + 1, 0, none⟩ (.bool true)).putObj D2 (.deferred none)).heap[D1]? = some (.deferred (some [])) := (World.putObj_heap_other d12).trans ((Below.heap_setCell _ _ _ _ (by show D1 ≠ B + 1; omega)).trans HK8.out)
      have L0 : Boxed (((V'.setCell ⟨B + 1, 0, none⟩ (.bool true)).putObj D2 (.deferred none)).putObj D1 (.deferred none)) (B + 1) 4 (.bool true) := (World.putObj_heap_other (by omega)).trans ((World.putObj_heap_other (by omega)).trans (HbR.out.set _))
      have c0 := L0.cell
      refine ⟨by simp, .inl ⟨_, _, rfl, run_takeDeferred L9, ?_⟩⟩
      refine ⟨by simp, .inl ⟨_, _, rfl, run_takeDeferred L8, ?_⟩⟩
      refine ⟨.bool true, ?_, rfl, ?_⟩
      · simp [results, Tryd.results6, go_sem, c0]
      · refine (HbV.out.setCell (p := ⟨B + 1, 0, none⟩) (by show w.heap.size ≤ B + 1; omega) _).trans ((belowK_b (w := w) (Nat.le_refl _) _ D2 _ _ (by omega) L9 rfl rfl).trans (belowK_b (w := w) (Nat.le_refl _) _ D1 _ _ (by omega) L8 rfl rfl))
end Go.Proofs.YthfdnlcalefjeaaDoor
