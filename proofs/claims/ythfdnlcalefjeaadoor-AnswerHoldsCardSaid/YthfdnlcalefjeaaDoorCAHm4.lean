/- Texts of this claim, one behind the other: Je, Jf, Jg, Jh, Rz, LAH. -/
import Derived.Test.YthfdnlcalefjeaaDoorCAHm3
import Derived.Test.YthfdnlcalefjeaaDoorCAHm2
import Derived.Deep.Cut
import Derived.Deep.DeepCutAuto
/- The reference's reader of heads: Write. Printed by genJe.py. -/
namespace Go.Proofs.YthfdnlcalefjeaaDoor
set_option linter.unusedVariables false
set_option linter.unusedSimpArgs false
open Go.RowKit Go.Shelf
set_option maxHeartbeats 8000000
set_option maxRecDepth 100000
theorem set10_heap {w : World} {b : Nat} {x0 x1 x2 x3 x4 x5 x6 x7 x8 x9 : Value} {T : TypeId} (hz : w.heap[b]? = some (.cells #[x0, x1, x2, x3, x4, x5, x6, x7, x8, x9] T (0, 0))) (u0 u1 u2 u3 u4 u5 u6 u7 u8 u9 : Value) :
    ((((((((((w.setCell ⟨b, 0, none⟩ u0).setCell ⟨b, 1, none⟩ u1).setCell ⟨b, 2, none⟩ u2).setCell ⟨b, 3, none⟩ u3).setCell ⟨b, 4, none⟩ u4).setCell ⟨b, 5, none⟩ u5).setCell ⟨b, 6, none⟩ u6).setCell ⟨b, 7, none⟩ u7).setCell ⟨b, 8, none⟩ u8).setCell ⟨b, 9, none⟩ u9).heap[b]? = some (.cells #[u0, u1, u2, u3, u4, u5, u6, u7, u8, u9] T (0, 0)) := by
  have h0 := heap_setCell_same _ _ 0 _ _ u0 hz
  have h1 := heap_setCell_same _ _ 1 _ _ u1 h0
  have h2 := heap_setCell_same _ _ 2 _ _ u2 h1
  have h3 := heap_setCell_same _ _ 3 _ _ u3 h2
  have h4 := heap_setCell_same _ _ 4 _ _ u4 h3
  have h5 := heap_setCell_same _ _ 5 _ _ u5 h4
  have h6 := heap_setCell_same _ _ 6 _ _ u6 h5
  have h7 := heap_setCell_same _ _ 7 _ _ u7 h6
  have h8 := heap_setCell_same _ _ 8 _ _ u8 h7
  have h9 := heap_setCell_same _ _ 9 _ _ u9 h8
  simpa using h9
theorem set10_other {w : World} {b k : Nat} (hk : k ≠ b) (u0 u1 u2 u3 u4 u5 u6 u7 u8 u9 : Value) :
    ((((((((((w.setCell ⟨b, 0, none⟩ u0).setCell ⟨b, 1, none⟩ u1).setCell ⟨b, 2, none⟩ u2).setCell ⟨b, 3, none⟩ u3).setCell ⟨b, 4, none⟩ u4).setCell ⟨b, 5, none⟩ u5).setCell ⟨b, 6, none⟩ u6).setCell ⟨b, 7, none⟩ u7).setCell ⟨b, 8, none⟩ u8).setCell ⟨b, 9, none⟩ u9).heap[k]? = w.heap[k]? := by
  rw [Below.heap_setCell _ _ _ _ hk, Below.heap_setCell _ _ _ _ hk, Below.heap_setCell _ _ _ _ hk, Below.heap_setCell _ _ _ _ hk, Below.heap_setCell _ _ _ _ hk, Below.heap_setCell _ _ _ _ hk, Below.heap_setCell _ _ _ _ hk, Below.heap_setCell _ _ _ _ hk, Below.heap_setCell _ _ _ _ hk, Below.heap_setCell _ _ _ _ hk]
/-- a reader that stays within bounds -/
def ROk (m : Nat) (r : Hr.Rd) : Prop := r.fs.length ≤ 256 ∧ r.line.length ≤ 8192 ∧ r.n ≤ m
theorem ends_ok {m : Nat} {r : Hr.Rd} (h : ROk m r) : ROk m (Hr.ends r) := by
  obtain ⟨h1, h2, h3⟩ := h
  unfold Hr.ends ROk
  repeat' split
  all_goals simp only [List.length_nil, List.length_append, List.length_cons] at *
  all_goals omega
theorem come_ok {m : Nat} {r : Hr.Rd} (c : UInt8) (h : ROk m r) : ROk (m + 1) (Hr.come c r) := by
  obtain ⟨h1, h2, h3⟩ := h
  unfold Hr.come
  split
  · exact ⟨h1, h2, by simp only; omega⟩
  split
  · exact ⟨h1, h2, by simp only; omega⟩
  split
  · exact ends_ok ⟨h1, h2, by simp only; omega⟩
  split
  · exact ⟨h1, h2, by simp only; omega⟩
  split
  · exact ⟨h1, h2, by simp only; omega⟩
  split
  · exact ⟨h1, h2, by simp only; omega⟩
  · exact ⟨h1, by simp only [List.length_append, List.length_cons, List.length_nil]; omega, by simp only; omega⟩
def wrF (g o M cap k n N c : Nat) (p : Option Addr) (fb lb : ByteArray) (cr : Bool) (c8 : UInt8) (r2 : Hr.Rd) : Nat → World → Value → Prop
  | 0, _, v => v = .agg #[.int .i64 8192, .int .i64 65536, .int .i64 256, .string fb, .slice p N c, .string lb, .int .i64 n, .bool cr, .bool false, .int .i64 0]
  | 1, _, v => v = .slice (some ⟨g, o, none⟩) M cap
  | 2, _, v => v = .int .i64 k
  | 3, _, v => v = .pointer (some ⟨g, o + k, none⟩)
  | 4, _, v => v = .int .u8 c8.toNat
  | 5, w, v => RV w v r2
  | _, _, _ => False
def wrT (w0 : World) (_ : Nat → Bool) (w : World) : Prop := Below w0.heap.size w0 w
theorem wrF_below {g o M cap k n N c : Nat} {p : Option Addr} {fb lb : ByteArray} {cr : Bool} {c8 : UInt8} {r2 : Hr.Rd} {w w' : World} {j : Nat} {v : Value} (hb : Below w.heap.size w w') (h : wrF g o M cap k n N c p fb lb cr c8 r2 j w v) : wrF g o M cap k n N c p fb lb cr c8 r2 j w' v := by
  match j, h with
  | 0, h | 1, h | 2, h | 3, h | 4, h => exact h
  | 5, h => exact RV.below h hb
  | n + 6, h => exact h.elim
theorem ref_Write (r : Hr.Rd) (l : List UInt8) (v vb : Value) (w : World) (hv : RV w v r) (hb : BRow w vb l) (hl : l.length ≤ 80000) (ho : ROk 10 r) :
    Calls Tryd.prog 35 #[v, vb] w fun e w' => ∃ v', e = .returned (.tuple #[v', .int .i64 ((Hr.write l r 0).2 : Nat)]) ∧ RV w' v' (Hr.write l r 0).1 ∧ Below w.heap.size w w' := by
  obtain ⟨V, hV, rfl⟩ := hv
  obtain ⟨p0, c0, rfl⟩ := hV.slice
  obtain ⟨ao, cap, rfl, hcap, hbr⟩ := hb
  obtain ⟨M, hM⟩ : ∃ M, l.length = M := ⟨_, rfl⟩
  obtain ⟨N0, hN0⟩ : ∃ M, r.fs.length = M := ⟨_, rfl⟩
  obtain ⟨H, hH⟩ : ∃ H, w.heap.size = H := ⟨_, rfl⟩
  rw [hN0] at hV ⊢
  rw [hM] at hl hcap hbr ⊢
  unfold rdC
  obtain ⟨W1, hW1⟩ : ∃ Z, (w.alloc (.cells #[.int .i64 8192, .int .i64 65536, .int .i64 256, .string (bx r.fst), .slice p0 N0 c0, .string (bx r.line), .int .i64 r.n, .bool r.cr, .bool r.done, .int .i64 r.bad] 79)).alloc (.cells #[.int .i64 0, .int .i64 0, .int .i64 0, .string ⟨#[]⟩, .slice none 0 0, .string ⟨#[]⟩, .int .i64 0, .bool false, .bool false, .int .i64 0] 79) = Z := ⟨_, rfl⟩
  have HG0 := Lib.hid (show W1.heap[H]? = some (.cells #[.int .i64 8192, .int .i64 65536, .int .i64 256, .string (bx r.fst), .slice p0 N0 c0, .string (bx r.line), .int .i64 r.n, .bool r.cr, .bool r.done, .int .i64 r.bad] 79 (0, 0)) by
    rw [← hW1, ← hH]; exact heap_alloc_old' _ (World.alloc_heap_new _ _))
  have HG1 := Lib.hid (show W1.heap[H + 1]? = some (.cells #[.int .i64 0, .int .i64 0, .int .i64 0, .string ⟨#[]⟩, .slice none 0 0, .string ⟨#[]⟩, .int .i64 0, .bool false, .bool false, .int .i64 0] 79 (0, 0)) by
    rw [← hW1, ← hH]; have h := World.alloc_heap_new (w.alloc (.cells #[.int .i64 8192, .int .i64 65536, .int .i64 256, .string (bx r.fst), .slice p0 N0 c0, .string (bx r.line), .int .i64 r.n, .bool r.cr, .bool r.done, .int .i64 r.bad] 79)) (.cells #[.int .i64 0, .int .i64 0, .int .i64 0, .string ⟨#[]⟩, .slice none 0 0, .string ⟨#[]⟩, .int .i64 0, .bool false, .bool false, .int .i64 0] 79); simpa using h)
  have HB1 := Lib.hid (show Below H w W1 by rw [← hW1, ← hH]; exact two_allocs _ _ _)
  have HV1 := Lib.hid (show HS W1 (.slice p0 N0 c0) r.fs from hV.below (by rw [hH]; exact HB1.out))
  have HBR := Lib.hid hbr
  have HM := Lib.hid hM
  have HN0 := Lib.hid hN0
  have HO0 := Lib.hid ho
  have HW1 := Lib.hid hW1
  have HHH := Lib.hid hH
  clear hV hbr hM hN0 ho hcap hW1 hH
  go_enter Tryd.func35, Tryd.ntmps35
  go_wp2_with fail
  rw [HHH.out, HW1.out]
  go_wp2_with fail
  go_loopw [6] (fun i wr => ∃ (k : Nat) (rk : Hr.Rd), k ≤ M ∧ i = .int .i64 k ∧ Hr.write l r 0 = Hr.write (l.drop k) rk k ∧ ROk (10 + k) rk ∧ (∃ (p : Option Addr) (c : Nat), wr.heap[H]? = some (.cells #[.int .i64 8192, .int .i64 65536, .int .i64 256, .string (bx rk.fst), .slice p rk.fs.length c, .string (bx rk.line), .int .i64 rk.n, .bool rk.cr, .bool rk.done, .int .i64 rk.bad] 79 (0, 0)) ∧ HS wr (.slice p rk.fs.length c) rk.fs) ∧
      wr.heap[H + 1]? = some (.cells #[.int .i64 0, .int .i64 0, .int .i64 0, .string ⟨#[]⟩, .slice none 0 0, .string ⟨#[]⟩, .int .i64 0, .bool false, .bool false, .int .i64 0] 79 (0, 0)) ∧ Below H w wr) (fun i _ => M - (intOf i).toNat)
  case atStart => exact ⟨0, r, Nat.zero_le _, rfl, rfl, HO0.out, ⟨p0, c0, by rw [HN0.out]; exact HG0.out, by rw [HN0.out]; exact HV1.out⟩, HG1.out, HB1.out⟩
  case round =>
    obtain ⟨k, rk, hk, rfl, hwr, hok, ⟨p, c, hgH, hVF⟩, hgH1, hbl⟩ := hrel
    have HWR := Lib.hid hwr
    have HO := Lib.hid hok
    have HBL := Lib.hid hbl
    obtain ⟨N, hN⟩ : ∃ z, rk.fs.length = z := ⟨_, rfl⟩
    have HN := Lib.hid hN
    rw [hN] at hgH hVF
    have HGH := Lib.hid hgH
    have HGH1 := Lib.hid hgH1
    have HVF := Lib.hid hVF
    clear hwr hok hbl hN hgH hgH1 hVF
    by_cases hlt : k < M
    · obtain ⟨g, o, hao, hcel⟩ : ∃ g o, ao = some ⟨g, o, none⟩ ∧ ∀ j, j < M → w.cell? ⟨g, o + j, none⟩ = some (by8 (l.getD j 0)) := by
        rcases HBR.out with ⟨_, h, _⟩ | ⟨g, o, h1, h2⟩
        · have h3 := HM.out; rw [h] at h3; simp at h3; omega
        · exact ⟨g, o, h1, h2⟩
      subst hao
      have HLK := Lib.hid (show l.drop k = l.getD k 0 :: l.drop (k + 1) by
        rw [List.drop_eq_getElem_cons (by rw [HM.out]; exact hlt), List.getD_eq_getElem?_getD, List.getElem?_eq_getElem (by rw [HM.out]; exact hlt)]; rfl)
      by_cases hst : rk.done = true ∨ rk.bad ≠ 0
      · have HST := Lib.hid hst
        have HEW := Lib.hid (show Hr.write l r 0 = (rk, k) by rw [HWR.out, HLK.out, Hr.write, if_pos hst])
        obtain ⟨F, fs, line, n, cr, done, bad⟩ := rk
        simp only at hst
        have hgH := HGH.out
        have hgH1 := HGH1.out
        simp only at hgH
        have a0 : wr.cell? ⟨H, 0, none⟩ = some (.int .i64 8192) := by simp [World.cell?, hgH]
        have a1 : wr.cell? ⟨H, 1, none⟩ = some (.int .i64 65536) := by simp [World.cell?, hgH]
        have a2 : wr.cell? ⟨H, 2, none⟩ = some (.int .i64 256) := by simp [World.cell?, hgH]
        have a3 : wr.cell? ⟨H, 3, none⟩ = some (.string (bx F)) := by simp [World.cell?, hgH]
        have a4 : wr.cell? ⟨H, 4, none⟩ = some (.slice p N c) := by simp [World.cell?, hgH]
        have a5 : wr.cell? ⟨H, 5, none⟩ = some (.string (bx line)) := by simp [World.cell?, hgH]
        have a6 : wr.cell? ⟨H, 6, none⟩ = some (.int .i64 n) := by simp [World.cell?, hgH]
        have a7 : wr.cell? ⟨H, 7, none⟩ = some (.bool cr) := by simp [World.cell?, hgH]
        have a8 : wr.cell? ⟨H, 8, none⟩ = some (.bool done) := by simp [World.cell?, hgH]
        have a9 : wr.cell? ⟨H, 9, none⟩ = some (.int .i64 bad) := by simp [World.cell?, hgH]
        have z0 : wr.cell? ⟨H + 1, 0, none⟩ = some (.int .i64 0) := by simp [World.cell?, hgH1]
        have y0 : wr.frozen? ⟨H + 1, 0, none⟩ = false := frozen_of_row _ _ _ _ _ hgH1
        have z1 : wr.cell? ⟨H + 1, 1, none⟩ = some (.int .i64 0) := by simp [World.cell?, hgH1]
        have y1 : wr.frozen? ⟨H + 1, 1, none⟩ = false := frozen_of_row _ _ _ _ _ hgH1
        have z2 : wr.cell? ⟨H + 1, 2, none⟩ = some (.int .i64 0) := by simp [World.cell?, hgH1]
        have y2 : wr.frozen? ⟨H + 1, 2, none⟩ = false := frozen_of_row _ _ _ _ _ hgH1
        have z3 : wr.cell? ⟨H + 1, 3, none⟩ = some (.string ⟨#[]⟩) := by simp [World.cell?, hgH1]
        have y3 : wr.frozen? ⟨H + 1, 3, none⟩ = false := frozen_of_row _ _ _ _ _ hgH1
        have z4 : wr.cell? ⟨H + 1, 4, none⟩ = some (.slice none 0 0) := by simp [World.cell?, hgH1]
        have y4 : wr.frozen? ⟨H + 1, 4, none⟩ = false := frozen_of_row _ _ _ _ _ hgH1
        have z5 : wr.cell? ⟨H + 1, 5, none⟩ = some (.string ⟨#[]⟩) := by simp [World.cell?, hgH1]
        have y5 : wr.frozen? ⟨H + 1, 5, none⟩ = false := frozen_of_row _ _ _ _ _ hgH1
        have z6 : wr.cell? ⟨H + 1, 6, none⟩ = some (.int .i64 0) := by simp [World.cell?, hgH1]
        have y6 : wr.frozen? ⟨H + 1, 6, none⟩ = false := frozen_of_row _ _ _ _ _ hgH1
        have z7 : wr.cell? ⟨H + 1, 7, none⟩ = some (.bool false) := by simp [World.cell?, hgH1]
        have y7 : wr.frozen? ⟨H + 1, 7, none⟩ = false := frozen_of_row _ _ _ _ _ hgH1
        have z8 : wr.cell? ⟨H + 1, 8, none⟩ = some (.bool false) := by simp [World.cell?, hgH1]
        have y8 : wr.frozen? ⟨H + 1, 8, none⟩ = false := frozen_of_row _ _ _ _ _ hgH1
        have z9 : wr.cell? ⟨H + 1, 9, none⟩ = some (.int .i64 0) := by simp [World.cell?, hgH1]
        have y9 : wr.frozen? ⟨H + 1, 9, none⟩ = false := frozen_of_row _ _ _ _ _ hgH1
        clear hgH hgH1
        cases done with
        | true =>
          clear hst
          go_wp2_with fail
          simp [bodyPost, results, Tryd.results35, go_sem, z0, z1, z2, z3, z4, z5, z6, z7, z8, z9]
          rw [HEW.out]
          exact ⟨_, ⟨rfl, rfl⟩, ⟨_, HS.reader HVF.out HGH1.out _ _ _ _ _ _ _ _ _ _, rfl⟩, by rw [HHH.out]; exact Below.set10 HBL.out (Nat.le_succ H) _ _ _ _ _ _ _ _ _ _⟩
        | false =>
          have hbd : ((bad : Int) == 0) = false := beq_eq_false_iff_ne.2 (by have := hst; simp at this; omega)
          clear hst
          go_wp2_with fail
          simp [bodyPost, results, Tryd.results35, go_sem, z0, z1, z2, z3, z4, z5, z6, z7, z8, z9]
          rw [HEW.out]
          exact ⟨_, ⟨rfl, rfl⟩, ⟨_, HS.reader HVF.out HGH1.out _ _ _ _ _ _ _ _ _ _, rfl⟩, by rw [HHH.out]; exact Below.set10 HBL.out (Nat.le_succ H) _ _ _ _ _ _ _ _ _ _⟩
      · obtain ⟨hd, hb0⟩ : rk.done = false ∧ rk.bad = 0 := by
          constructor
          · cases h : rk.done with
            | true => exact absurd (.inl h) hst
            | false => rfl
          · by_cases h : rk.bad = 0
            · exact h
            · exact absurd (.inr h) hst
        clear hst
        obtain ⟨F, fs, line, n, cr, done, bad⟩ := rk
        simp only at hd hb0
        subst hd hb0
        obtain ⟨c8, hc8⟩ : ∃ z, l.getD k 0 = z := ⟨_, rfl⟩
        have HCE := Lib.hid (show ∀ W, Below wr.heap.size wr W → W.cell? ⟨g, o + k, none⟩ = some (.int .u8 c8.toNat) from fun W hb => by
          have h1 := hcel k hlt
          rw [hc8] at h1
          have h2 := lt_of_cell h1
          rw [HHH.out] at h2
          rw [hb.cell (Nat.lt_of_lt_of_le h2 (Nat.le_trans (by rw [HHH.out]; exact Nat.le_refl _) HBL.out.size)), HBL.out.cell h2]
          exact h1)
        rw [hc8] at HLK
        obtain ⟨r2, hr2⟩ : ∃ z, Hr.come c8 ⟨F, fs, line, n, cr, false, 0⟩ = z := ⟨_, rfl⟩
        have HR2 := Lib.hid hr2
        obtain ⟨fb, hfb⟩ : ∃ z, bx F = z := ⟨_, rfl⟩
        obtain ⟨lb, hlb⟩ : ∃ z, bx line = z := ⟨_, rfl⟩
        have HFB := Lib.hid hfb
        have HLB := Lib.hid hlb
        have hgH := HGH.out
        simp only [hfb, hlb] at hgH
        clear HGH
        have HGH := Lib.hid hgH
        have HHL := Lib.hid (Array.getElem?_eq_some_iff.1 hgH).1
        have HHL1 := Lib.hid (Array.getElem?_eq_some_iff.1 HGH1.out).1
        have HHB := Lib.hid (show H ≤ wr.heap.size from Nat.le_of_lt (Array.getElem?_eq_some_iff.1 hgH).1)
        have HDR := Lib.hid (show Below wr.heap.size wr wr.drew from (Below.refl _ _).drew)
        have a0 : wr.cell? ⟨H, 0, none⟩ = some (.int .i64 8192) := by simp [World.cell?, hgH]
        have a1 : wr.cell? ⟨H, 1, none⟩ = some (.int .i64 65536) := by simp [World.cell?, hgH]
        have a2 : wr.cell? ⟨H, 2, none⟩ = some (.int .i64 256) := by simp [World.cell?, hgH]
        have a3 : wr.cell? ⟨H, 3, none⟩ = some (.string fb) := by simp [World.cell?, hgH]
        have a4 : wr.cell? ⟨H, 4, none⟩ = some (.slice p N c) := by simp [World.cell?, hgH]
        have a5 : wr.cell? ⟨H, 5, none⟩ = some (.string lb) := by simp [World.cell?, hgH]
        have a6 : wr.cell? ⟨H, 6, none⟩ = some (.int .i64 n) := by simp [World.cell?, hgH]
        have a7 : wr.cell? ⟨H, 7, none⟩ = some (.bool cr) := by simp [World.cell?, hgH]
        have a8 : wr.cell? ⟨H, 8, none⟩ = some (.bool false) := by simp [World.cell?, hgH]
        have a9 : wr.cell? ⟨H, 9, none⟩ = some (.int .i64 0) := by simp [World.cell?, hgH]
        clear hgH hc8 hr2 hfb hlb hcel
        go_wp2_with fail
        refine region_last2 6 (fun i => 22 + min i 5) (wrF g o M cap k n N c p fb lb cr c8 r2) (wrT wr) (by kernel_rfl) (by kernel_rfl) rfl (by kernel_rfl) (fun i => by show 22 + min i 5 < _; simp; omega) (fun i j hi hj h => by have h : 22 + min i 5 = 22 + min j 5 := h; omega) ?start ?dst ?step ?last
        case dst =>
          intro i o hi ho
          match i, hi, ho with
          | 0, _, ho => cases ho; rfl
          | 1, _, ho => cases ho; rfl
          | 2, _, ho => cases ho; rfl
          | 3, _, ho => cases ho; rfl
          | 4, _, ho => cases ho; rfl
          | 5, _, ho => cases ho; rfl
          | n + 6, hi, _ => exact absurd hi (by omega)
        case step =>
          intro f a' W i o hib ho hfi hpre hT hrest
          match i, hib, ho with
          | 0, _, ho =>
            cases ho
            have q2 : a'.tmps.getD 2 undef = .pointer (some ⟨H, 0, none⟩) := (hrest 2 (by intro i hi; show 22 + min i 5 ≠ _; omega))
            have hgH := (hT.block H HHL.out).trans HGH.out
            have a0 : W.cell? ⟨H, 0, none⟩ = some (.int .i64 8192) := by simp [World.cell?, hgH]
            have a1 : W.cell? ⟨H, 1, none⟩ = some (.int .i64 65536) := by simp [World.cell?, hgH]
            have a2 : W.cell? ⟨H, 2, none⟩ = some (.int .i64 256) := by simp [World.cell?, hgH]
            have a3 : W.cell? ⟨H, 3, none⟩ = some (.string fb) := by simp [World.cell?, hgH]
            have a4 : W.cell? ⟨H, 4, none⟩ = some (.slice p N c) := by simp [World.cell?, hgH]
            have a5 : W.cell? ⟨H, 5, none⟩ = some (.string lb) := by simp [World.cell?, hgH]
            have a6 : W.cell? ⟨H, 6, none⟩ = some (.int .i64 n) := by simp [World.cell?, hgH]
            have a7 : W.cell? ⟨H, 7, none⟩ = some (.bool cr) := by simp [World.cell?, hgH]
            have a8 : W.cell? ⟨H, 8, none⟩ = some (.bool false) := by simp [World.cell?, hgH]
            have a9 : W.cell? ⟨H, 9, none⟩ = some (.int .i64 0) := by simp [World.cell?, hgH]
            have e2 := rg_ev q2
            exact rg_same2 (.agg #[.int .i64 8192, .int .i64 65536, .int .i64 256, .string fb, .slice p N c, .string lb, .int .i64 n, .bool cr, .bool false, .int .i64 0]) (by unfold Oper.wp execOp; go_simp; all_goals ((try simp only [e2]); (try go_simp); (try rw [if_pos (by omega)]); (try rw [if_neg (by omega)]); first | done | rfl | exact ⟨rfl, rfl⟩ | trivial)) rfl (hT)
          | 1, _, ho =>
            cases ho
            have q1 : a'.tmps.getD 1 undef = .slice (some ⟨g, o, none⟩) M cap := (hrest 1 (by intro i hi; show 22 + min i 5 ≠ _; omega))
            have e1 := rg_ev q1
            exact rg_same2 (.slice (some ⟨g, o, none⟩) M cap) (by unfold Oper.wp execOp; go_simp; all_goals ((try simp only [e1]); (try go_simp); (try rw [if_pos (by omega)]); (try rw [if_neg (by omega)]); first | done | rfl | exact ⟨rfl, rfl⟩ | trivial)) rfl (hT)
          | 2, _, ho =>
            cases ho
            have q6 : a'.tmps.getD 6 undef = .int .i64 k := (hrest 6 (by intro i hi; show 22 + min i 5 ≠ _; omega))
            have e6 := rg_ev q6
            exact rg_same2 (.int .i64 k) (by unfold Oper.wp execOp; go_simp; all_goals ((try simp only [e6]); (try go_simp); (try rw [if_pos (by omega)]); (try rw [if_neg (by omega)]); first | done | rfl | exact ⟨rfl, rfl⟩ | trivial)) rfl (hT)
          | 3, _, ho =>
            cases ho
            have f23 := (hpre { on := 1, ground := .data } (by simp) rfl).1
            have q23 : a'.tmps.getD 23 undef = .slice (some ⟨g, o, none⟩) M cap := (hpre { on := 1, ground := .data } (by simp) rfl).2
            have f24 := (hpre { on := 2, ground := .data } (by simp) rfl).1
            have q24 : a'.tmps.getD 24 undef = .int .i64 k := (hpre { on := 2, ground := .data } (by simp) rfl).2
            have e23 := rg_ev q23
            have e24 := rg_ev q24
            exact rg_same2 (.pointer (some ⟨g, o + k, none⟩)) (by unfold Oper.wp execOp; go_simp; all_goals ((try simp only [e23, e24]); (try go_simp); (try rw [if_pos (by omega)]); (try rw [if_neg (by omega)]); first | done | rfl | exact ⟨rfl, rfl⟩ | trivial)) rfl (hT)
          | 4, _, ho =>
            cases ho
            have f25 := (hpre { on := 3, ground := .data } (by simp) rfl).1
            have q25 : a'.tmps.getD 25 undef = .pointer (some ⟨g, o + k, none⟩) := (hpre { on := 3, ground := .data } (by simp) rfl).2
            have hcE := HCE.out W hT
            have e25 := rg_ev q25
            exact rg_same2 (.int .u8 c8.toNat) (by unfold Oper.wp execOp; go_simp; all_goals ((try simp only [e25]); (try go_simp); (try rw [if_pos (by omega)]); (try rw [if_neg (by omega)]); first | done | rfl | exact ⟨rfl, rfl⟩ | trivial)) rfl (hT)
          | 5, _, ho =>
            cases ho
            have f22 := (hpre { on := 0, ground := .data } (by simp) rfl).1
            have q22 : a'.tmps.getD 22 undef = .agg #[.int .i64 8192, .int .i64 65536, .int .i64 256, .string fb, .slice p N c, .string lb, .int .i64 n, .bool cr, .bool false, .int .i64 0] := (hpre { on := 0, ground := .data } (by simp) rfl).2
            have f26 := (hpre { on := 4, ground := .data } (by simp) rfl).1
            have q26 : a'.tmps.getD 26 undef = .int .u8 c8.toNat := (hpre { on := 4, ground := .data } (by simp) rfl).2
            have hK := fun (h1 : RV W (.agg #[.int .i64 8192, .int .i64 65536, .int .i64 256, .string fb, .slice p N c, .string lb, .int .i64 n, .bool cr, .bool false, .int .i64 0]) ⟨F, fs, line, n, cr, false, 0⟩) => ref_come ⟨F, fs, line, n, cr, false, 0⟩ c8 _ W h1 HO.out.1 HO.out.2.1 (by have := HO.out.2.2; simp only at this ⊢; omega) rfl
            exact rg_call2 22 26 43 _ _ _ _ rfl q22 q26 (enters_of Tryd.func43 (by kernel_rfl) rfl) (hK ⟨_, HVF.out.below hT, by simp only [rdC, HFB.out, HLB.out]; rfl⟩) (fun e w' h => by
              obtain ⟨v', h1, h2, h3⟩ := h
              exact ⟨v', h1, v', rfl, HR2.out ▸ h2, hT.trans (h3.mono hT.size), fun j u _ hF => wrF_below h3 hF⟩)
          | n + 6, hib, _ => exact absurd hib (by omega)
        case last =>
          intro f vs W oL ho hall hT hvs
          have hopL : oL.op = Op.store 79 (.tmp 2) (.tmp 27) := by cases ho; rfl
          have hdsL : oL.dst = none := by cases ho; rfl
          clear ho hall
          have v0 : vs 0 = .agg #[.int .i64 8192, .int .i64 65536, .int .i64 256, .string fb, .slice p N c, .string lb, .int .i64 n, .bool cr, .bool false, .int .i64 0] := hvs 0 (by decide)
          have v1 : vs 1 = .slice (some ⟨g, o, none⟩) M cap := hvs 1 (by decide)
          have v2 : vs 2 = .int .i64 k := hvs 2 (by decide)
          have v3 : vs 3 = .pointer (some ⟨g, o + k, none⟩) := hvs 3 (by decide)
          have v4 : vs 4 = .int .u8 c8.toNat := hvs 4 (by decide)
          obtain ⟨y5, v5, w5⟩ : ∃ z, vs 5 = z ∧ wrF g o M cap k n N c p fb lb cr c8 r2 5 W z := ⟨_, rfl, hvs 5 (by decide)⟩
          simp only [fillN, List.size_toArray, List.length_cons, List.length_nil, Nat.reduceAdd, show List.range 6 = [0, 1, 2, 3, 4, 5] from rfl, List.foldl_cons, List.foldl_nil, show 22 + min 0 5 = 22 from rfl, show 22 + min 1 5 = 23 from rfl, show 22 + min 2 5 = 24 from rfl, show 22 + min 3 5 = 25 from rfl, show 22 + min 4 5 = 26 from rfl, show 22 + min 5 5 = 27 from rfl, v0, v1, v2, v3, v4, v5]
          clear v0 v1 v2 v3 v4 v5 hvs
          obtain ⟨V2, hV2, rfl⟩ := (show RV W y5 r2 from w5)
          obtain ⟨p2, c2, rfl⟩ := hV2.slice
          obtain ⟨N2, hN2⟩ : ∃ z, r2.fs.length = z := ⟨_, rfl⟩
          rw [hN2] at hV2 ⊢
          have HN2 := Lib.hid hN2
          have hgH := (hT.block H HHL.out).trans HGH.out
          have hgH1 := (hT.block (H + 1) HHL1.out).trans HGH1.out
          have HVV := Lib.hid hV2
          have HBT := Lib.hid hT
          have a0 : W.cell? ⟨H, 0, none⟩ = some (.int .i64 8192) := by simp [World.cell?, hgH]
          have y0 : W.frozen? ⟨H, 0, none⟩ = false := frozen_of_row _ _ _ _ _ hgH
          have a1 : W.cell? ⟨H, 1, none⟩ = some (.int .i64 65536) := by simp [World.cell?, hgH]
          have y1 : W.frozen? ⟨H, 1, none⟩ = false := frozen_of_row _ _ _ _ _ hgH
          have a2 : W.cell? ⟨H, 2, none⟩ = some (.int .i64 256) := by simp [World.cell?, hgH]
          have y2 : W.frozen? ⟨H, 2, none⟩ = false := frozen_of_row _ _ _ _ _ hgH
          have a3 : W.cell? ⟨H, 3, none⟩ = some (.string fb) := by simp [World.cell?, hgH]
          have y3 : W.frozen? ⟨H, 3, none⟩ = false := frozen_of_row _ _ _ _ _ hgH
          have a4 : W.cell? ⟨H, 4, none⟩ = some (.slice p N c) := by simp [World.cell?, hgH]
          have y4 : W.frozen? ⟨H, 4, none⟩ = false := frozen_of_row _ _ _ _ _ hgH
          have a5 : W.cell? ⟨H, 5, none⟩ = some (.string lb) := by simp [World.cell?, hgH]
          have y5 : W.frozen? ⟨H, 5, none⟩ = false := frozen_of_row _ _ _ _ _ hgH
          have a6 : W.cell? ⟨H, 6, none⟩ = some (.int .i64 n) := by simp [World.cell?, hgH]
          have y6 : W.frozen? ⟨H, 6, none⟩ = false := frozen_of_row _ _ _ _ _ hgH
          have a7 : W.cell? ⟨H, 7, none⟩ = some (.bool cr) := by simp [World.cell?, hgH]
          have y7 : W.frozen? ⟨H, 7, none⟩ = false := frozen_of_row _ _ _ _ _ hgH
          have a8 : W.cell? ⟨H, 8, none⟩ = some (.bool false) := by simp [World.cell?, hgH]
          have y8 : W.frozen? ⟨H, 8, none⟩ = false := frozen_of_row _ _ _ _ _ hgH
          have a9 : W.cell? ⟨H, 9, none⟩ = some (.int .i64 0) := by simp [World.cell?, hgH]
          have y9 : W.frozen? ⟨H, 9, none⟩ = false := frozen_of_row _ _ _ _ _ hgH
          have HGW := Lib.hid hgH
          have HGW1 := Lib.hid hgH1
          clear hgH hgH1 hV2 hT w5 hN2
          unfold Oper.wp execOp
          simp only [hopL]
          unfold rdC
          go_simp
          have hgn := set10_heap HGW.out (.int .i64 8192) (.int .i64 65536) (.int .i64 256) (.string (bx r2.fst)) (.slice p2 N2 c2) (.string (bx r2.line)) (.int .i64 r2.n) (.bool r2.cr) (.bool r2.done) (.int .i64 r2.bad)
          have hg1n := (set10_other (show H + 1 ≠ H by omega) (.int .i64 8192) (.int .i64 65536) (.int .i64 256) (.string (bx r2.fst)) (.slice p2 N2 c2) (.string (bx r2.line)) (.int .i64 r2.n) (.bool r2.cr) (.bool r2.done) (.int .i64 r2.bad)).trans HGW1.out
          have hvn := HS.reader HVV.out HGW.out (.int .i64 8192) (.int .i64 65536) (.int .i64 256) (.string (bx r2.fst)) (.slice p2 N2 c2) (.string (bx r2.line)) (.int .i64 r2.n) (.bool r2.cr) (.bool r2.done) (.int .i64 r2.bad)
          have hbn := Below.set10 (HBL.out.trans (HBT.out.mono HHB.out)) (Nat.le_refl H) (.int .i64 8192) (.int .i64 65536) (.int .i64 256) (.string (bx r2.fst)) (.slice p2 N2 c2) (.string (bx r2.line)) (.int .i64 r2.n) (.bool r2.cr) (.bool r2.done) (.int .i64 r2.bad)
          have HSZ := Lib.hid (show W.heap.size = W.heap.size from rfl)
          obtain ⟨W9, hW9⟩ : ∃ Z, ((((((((((W.setCell ⟨H, 0, none⟩ (.int .i64 8192)).setCell ⟨H, 1, none⟩ (.int .i64 65536)).setCell ⟨H, 2, none⟩ (.int .i64 256)).setCell ⟨H, 3, none⟩ (.string (bx r2.fst))).setCell ⟨H, 4, none⟩ (.slice p2 N2 c2)).setCell ⟨H, 5, none⟩ (.string (bx r2.line))).setCell ⟨H, 6, none⟩ (.int .i64 r2.n)).setCell ⟨H, 7, none⟩ (.bool r2.cr)).setCell ⟨H, 8, none⟩ (.bool r2.done)).setCell ⟨H, 9, none⟩ (.int .i64 r2.bad)) = Z := ⟨_, rfl⟩
          rw [hW9] at hgn hg1n hvn hbn ⊢
          have HGN := Lib.hid hgn
          have HG1N := Lib.hid hg1n
          have HVN := Lib.hid hvn
          have HBN := Lib.hid hbn
          clear a0 y0 a1 y1 a2 y2 a3 y3 a4 y4 a5 y5 a6 y6 a7 y7 a8 y8 a9 y9 hW9 hgn hg1n hvn hbn hopL hdsL
          go_wp2_with fail
          go_roundw
          case rel =>
            refine ⟨k + 1, r2, hlt, by go_num, ?_, (by have h := come_ok c8 HO.out; rw [HR2.out] at h; exact h), ⟨p2, c2, by rw [HN2.out]; exact HGN.out, by rw [HN2.out]; exact HVN.out⟩, HG1N.out, HBN.out⟩
            rw [HWR.out, HLK.out, Hr.write, if_neg (by simp), HR2.out]
          case measure => simp [intOf]; omega
        case start => exact HDR.out
    · have hkM : k = M := by omega
      have HEW := Lib.hid (show Hr.write l r 0 = (rk, M) by rw [HWR.out, List.drop_eq_nil_of_le (by rw [HM.out]; omega), hkM]; rfl)
      obtain ⟨F, fs, line, n, cr, done, bad⟩ := rk
      have hgH := HGH.out
      have hgH1 := HGH1.out
      simp only at hgH
      have a0 : wr.cell? ⟨H, 0, none⟩ = some (.int .i64 8192) := by simp [World.cell?, hgH]
      have a1 : wr.cell? ⟨H, 1, none⟩ = some (.int .i64 65536) := by simp [World.cell?, hgH]
      have a2 : wr.cell? ⟨H, 2, none⟩ = some (.int .i64 256) := by simp [World.cell?, hgH]
      have a3 : wr.cell? ⟨H, 3, none⟩ = some (.string (bx F)) := by simp [World.cell?, hgH]
      have a4 : wr.cell? ⟨H, 4, none⟩ = some (.slice p N c) := by simp [World.cell?, hgH]
      have a5 : wr.cell? ⟨H, 5, none⟩ = some (.string (bx line)) := by simp [World.cell?, hgH]
      have a6 : wr.cell? ⟨H, 6, none⟩ = some (.int .i64 n) := by simp [World.cell?, hgH]
      have a7 : wr.cell? ⟨H, 7, none⟩ = some (.bool cr) := by simp [World.cell?, hgH]
      have a8 : wr.cell? ⟨H, 8, none⟩ = some (.bool done) := by simp [World.cell?, hgH]
      have a9 : wr.cell? ⟨H, 9, none⟩ = some (.int .i64 bad) := by simp [World.cell?, hgH]
      have z0 : wr.cell? ⟨H + 1, 0, none⟩ = some (.int .i64 0) := by simp [World.cell?, hgH1]
      have y0 : wr.frozen? ⟨H + 1, 0, none⟩ = false := frozen_of_row _ _ _ _ _ hgH1
      have z1 : wr.cell? ⟨H + 1, 1, none⟩ = some (.int .i64 0) := by simp [World.cell?, hgH1]
      have y1 : wr.frozen? ⟨H + 1, 1, none⟩ = false := frozen_of_row _ _ _ _ _ hgH1
      have z2 : wr.cell? ⟨H + 1, 2, none⟩ = some (.int .i64 0) := by simp [World.cell?, hgH1]
      have y2 : wr.frozen? ⟨H + 1, 2, none⟩ = false := frozen_of_row _ _ _ _ _ hgH1
      have z3 : wr.cell? ⟨H + 1, 3, none⟩ = some (.string ⟨#[]⟩) := by simp [World.cell?, hgH1]
      have y3 : wr.frozen? ⟨H + 1, 3, none⟩ = false := frozen_of_row _ _ _ _ _ hgH1
      have z4 : wr.cell? ⟨H + 1, 4, none⟩ = some (.slice none 0 0) := by simp [World.cell?, hgH1]
      have y4 : wr.frozen? ⟨H + 1, 4, none⟩ = false := frozen_of_row _ _ _ _ _ hgH1
      have z5 : wr.cell? ⟨H + 1, 5, none⟩ = some (.string ⟨#[]⟩) := by simp [World.cell?, hgH1]
      have y5 : wr.frozen? ⟨H + 1, 5, none⟩ = false := frozen_of_row _ _ _ _ _ hgH1
      have z6 : wr.cell? ⟨H + 1, 6, none⟩ = some (.int .i64 0) := by simp [World.cell?, hgH1]
      have y6 : wr.frozen? ⟨H + 1, 6, none⟩ = false := frozen_of_row _ _ _ _ _ hgH1
      have z7 : wr.cell? ⟨H + 1, 7, none⟩ = some (.bool false) := by simp [World.cell?, hgH1]
      have y7 : wr.frozen? ⟨H + 1, 7, none⟩ = false := frozen_of_row _ _ _ _ _ hgH1
      have z8 : wr.cell? ⟨H + 1, 8, none⟩ = some (.bool false) := by simp [World.cell?, hgH1]
      have y8 : wr.frozen? ⟨H + 1, 8, none⟩ = false := frozen_of_row _ _ _ _ _ hgH1
      have z9 : wr.cell? ⟨H + 1, 9, none⟩ = some (.int .i64 0) := by simp [World.cell?, hgH1]
      have y9 : wr.frozen? ⟨H + 1, 9, none⟩ = false := frozen_of_row _ _ _ _ _ hgH1
      clear hgH hgH1
      go_wp2_with fail
      simp [bodyPost, results, Tryd.results35, go_sem, z0, z1, z2, z3, z4, z5, z6, z7, z8, z9]
      rw [HEW.out]
      exact ⟨_, ⟨rfl, rfl⟩, ⟨_, HS.reader HVF.out HGH1.out _ _ _ _ _ _ _ _ _ _, rfl⟩, by rw [HHH.out]; exact Below.set10 HBL.out (Nat.le_succ H) _ _ _ _ _ _ _ _ _ _⟩
end Go.Proofs.YthfdnlcalefjeaaDoor

/- The reference's heads: Of, of a head's bytes. -/
namespace Go.Proofs.YthfdnlcalefjeaaDoor
set_option linter.unusedVariables false
set_option linter.unusedSimpArgs false
open Go.RowKit Go.Shelf
set_option maxHeartbeats 8000000
set_option maxRecDepth 100000
/-- headers do not lie in a head's block -/
theorem HS.head {w : World} {b : Nat} {V : Value} {L : List Hp.Hd} (h : HS w V L) {s0 : ByteArray} {p : Option Addr} {n c : Nat} {T : TypeId}
    (hz : w.heap[b]? = some (.cells #[.string s0, .slice p n c] T (0, 0))) (u0 u1 : Value) : HS ((w.setCell ⟨b, 0, none⟩ u0).setCell ⟨b, 1, none⟩ u1) V L := by
  rcases h with ⟨rfl, rfl⟩ | ⟨g, o, cap, rfl, h3⟩
  · exact .inl ⟨rfl, rfl⟩
  · by_cases hL : L.length = 0
    · exact .inr ⟨g, o, cap, rfl, fun j hj => absurd hj (by omega)⟩
    · have hne : b ≠ g := by
        rintro rfl
        obtain ⟨h1, h2⟩ := h3 0 (by omega)
        unfold Hp.sx at h1 h2
        simp only [World.cell?, hz, Nat.zero_mul, Nat.add_zero, Option.isSome_none, Bool.false_eq_true, if_false] at h1 h2
        match o, h1, h2 with
        | 0, _, h2 => simp at h2
        | 1, h1, _ => simp at h1
        | n + 2, h1, _ => simp at h1
      have h := (show HS w (.slice (some ⟨g, o, none⟩) L.length cap) L from .inr ⟨g, o, cap, rfl, h3⟩)
      exact (h.setCell _ hne _).setCell _ hne _
theorem ref_Of (F : List UInt8) (fs : List Hp.Hd) (n : Nat) (l : List UInt8) (vb : Value) (w : World) (hb : BRow w vb l) (hl : l.length ≤ 80000) (hn : n ≤ 80000) (hw : Hr.write l Hr.start 0 = (⟨F, fs, [], n, false, true, 0⟩, n)) :
    Calls Tryd.prog 19 #[.agg #[.int .i64 8192, .int .i64 65536, .int .i64 256], vb] w fun e w' => ∃ V, e = .returned (.tuple #[.agg #[Hp.sx F, V], .int .i64 n, .int .i64 0]) ∧ HS w' V fs ∧ Below w.heap.size w w' := by
  obtain ⟨ao, cap, rfl, hcap, hbr⟩ := hb
  obtain ⟨M, hM⟩ : ∃ M, l.length = M := ⟨_, rfl⟩
  rw [hM] at hcap hbr ⊢
  obtain ⟨H, hH⟩ : ∃ H, w.heap.size = H := ⟨_, rfl⟩
  obtain ⟨W1, hW1⟩ : ∃ Z, (w.alloc (.cells #[.int .i64 8192, .int .i64 65536, .int .i64 256] 42)).alloc (.cells #[.string ⟨#[]⟩, .slice none 0 0] 45) = Z := ⟨_, rfl⟩
  have HG0 := Lib.hid (show W1.heap[H]? = some (.cells #[.int .i64 8192, .int .i64 65536, .int .i64 256] 42 (0, 0)) by
    rw [← hW1, ← hH]; exact heap_alloc_old' _ (World.alloc_heap_new _ _))
  have HG1 := Lib.hid (show W1.heap[H + 1]? = some (.cells #[.string ⟨#[]⟩, .slice none 0 0] 45 (0, 0)) by
    rw [← hW1, ← hH]; have h := World.alloc_heap_new (w.alloc (.cells #[.int .i64 8192, .int .i64 65536, .int .i64 256] 42)) (.cells #[.string ⟨#[]⟩, .slice none 0 0] 45); simpa using h)
  have HB1 := Lib.hid (show Below H w W1 by rw [← hW1, ← hH]; exact two_allocs _ _ _)
  have HBV := Lib.hid (show BRow w (.slice ao M cap) l from ⟨ao, cap, by rw [hM], by rw [hM]; exact hcap, by rw [hM]; exact hbr⟩)
  have hg0 := HG0.out
  have hg1 := HG1.out
  have a0 : W1.cell? ⟨H, 0, none⟩ = some (.int .i64 8192) := by simp [World.cell?, hg0]
  have a1 : W1.cell? ⟨H, 1, none⟩ = some (.int .i64 65536) := by simp [World.cell?, hg0]
  have a2 : W1.cell? ⟨H, 2, none⟩ = some (.int .i64 256) := by simp [World.cell?, hg0]
  have HW1 := Lib.hid hW1
  have HHH := Lib.hid hH
  have HLM := Lib.hid hM
  have HWR := Lib.hid hw
  clear hg0 hg1 hW1 hH hM hcap hbr hw
  go_enter Tryd.func19, Tryd.ntmps19
  go_wp2_with fail
  rw [HHH.out, HW1.out]
  go_wp2_with fail
  refine (ref_Caps W1).mono ?_
  rintro e w1 ⟨rfl, hb1⟩
  have hs1 : H + 2 ≤ W1.heap.size := (Array.getElem?_eq_some_iff.1 HG1.out).1
  have hg0 := (hb1.block H (by omega)).trans HG0.out
  have hg1 := (hb1.block (H + 1) (by omega)).trans HG1.out
  have b0 : w1.cell? ⟨H, 0, none⟩ = some (.int .i64 8192) := by simp [World.cell?, hg0]
  have b1 : w1.cell? ⟨H, 1, none⟩ = some (.int .i64 65536) := by simp [World.cell?, hg0]
  have b2 : w1.cell? ⟨H, 2, none⟩ = some (.int .i64 256) := by simp [World.cell?, hg0]
  have HG2 := Lib.hid hg1
  have HS1 := Lib.hid hs1
  have HB2 := Lib.hid (show Below H w w1 from HB1.out.trans (hb1.mono (by omega)))
  clear a0 a1 a2 hg0 hg1 hs1 hb1
  go_wp2_with fail
  refine (ref_Write Hr.start l _ _ w1 ⟨.slice none 0 0, .inl ⟨rfl, rfl⟩, rfl⟩ (HBV.out.below (by rw [HHH.out]; exact HB2.out)) hl ⟨by decide, by decide, by decide⟩).mono ?_
  rintro e w2 ⟨v2, rfl, hr2, hb2⟩
  rw [HWR.out] at hr2 ⊢
  obtain ⟨V2, hV2, rfl⟩ := hr2
  obtain ⟨p2, c2, rfl⟩ := hV2.slice
  simp only at hV2
  unfold rdC
  simp only
  have hs2 : H + 1 < w1.heap.size := (Array.getElem?_eq_some_iff.1 HG2.out).1
  have hg2 := (hb2.block (H + 1) hs2).trans HG2.out
  have hlt2 : H + 1 < w2.heap.size := Nat.lt_of_lt_of_le hs2 hb2.size
  have z0 : w2.cell? ⟨H + 1, 0, none⟩ = some (.string ⟨#[]⟩) := by simp [World.cell?, hg2]
  have z1 : w2.cell? ⟨H + 1, 1, none⟩ = some (.slice none 0 0) := by simp [World.cell?, hg2]
  have y0 : w2.frozen? ⟨H + 1, 0, none⟩ = false := frozen_of_row _ _ _ _ _ hg2
  have y1 : w2.frozen? ⟨H + 1, 1, none⟩ = false := frozen_of_row _ _ _ _ _ hg2
  have HVV := Lib.hid hV2
  have HB3 := Lib.hid (show Below H w w2 from HB2.out.trans (hb2.mono (by omega)))
  obtain ⟨fb, hfb⟩ : ∃ z, bx F = z := ⟨_, rfl⟩
  have HFB := Lib.hid hfb
  rw [hfb]
  have HG3 := Lib.hid hg2
  clear hs2 hg2 hb2 hV2 hfb b0 b1 b2
  go_wp2_with fail
  have hgA := heap_setCell_same _ _ 0 _ _ (.string fb) HG3.out
  have hgB := heap_setCell_same _ _ 1 _ _ (.slice p2 fs.length c2) hgA
  have hgC := heap_alloc_old' (.cells #[.int .i64 8192, .int .i64 65536, .int .i64 256, .string fb, .slice p2 fs.length c2, .string (bx []), .int .i64 n, .bool false, .bool true, .int .i64 0] 79) hgB
  have hB := ((HB3.out.setCell (p := ⟨H + 1, 0, none⟩) (Nat.le_succ H) (.string fb)).setCell (p := ⟨H + 1, 1, none⟩) (Nat.le_succ H) (.slice p2 fs.length c2)).alloc (by simp; omega) (.cells #[.int .i64 8192, .int .i64 65536, .int .i64 256, .string fb, .slice p2 fs.length c2, .string (bx []), .int .i64 n, .bool false, .bool true, .int .i64 0] 79)
  have hv5 := (HS.head HVV.out HG3.out (.string fb) (.slice p2 fs.length c2)).below ((Below.refl _ _).alloc (Nat.le_refl _) (.cells #[.int .i64 8192, .int .i64 65536, .int .i64 256, .string fb, .slice p2 fs.length c2, .string (bx []), .int .i64 n, .bool false, .bool true, .int .i64 0] 79))
  obtain ⟨W5, hW5⟩ : ∃ Z, ((w2.setCell ⟨H + 1, 0, none⟩ (.string fb)).setCell ⟨H + 1, 1, none⟩ (.slice p2 fs.length c2)).alloc (.cells #[.int .i64 8192, .int .i64 65536, .int .i64 256, .string fb, .slice p2 fs.length c2, .string (bx []), .int .i64 n, .bool false, .bool true, .int .i64 0] 79) = Z := ⟨_, rfl⟩
  rw [hW5] at hgC hB hv5 ⊢
  have q0 : W5.cell? ⟨H + 1, 0, none⟩ = some (.string fb) := by simp [World.cell?, hgC]
  have q1 : W5.cell? ⟨H + 1, 1, none⟩ = some (.slice p2 fs.length c2) := by simp [World.cell?, hgC]
  simp [bodyPost, results, Tryd.results19, go_sem, q0, q1]
  exact ⟨_, ⟨by unfold Hp.sx; rw [← HFB.out]; rfl, rfl⟩, hv5, by rw [HHH.out]; exact hB⟩
end Go.Proofs.YthfdnlcalefjeaaDoor

/- The reference's heads: Get. -/
namespace Go.Proofs.YthfdnlcalefjeaaDoor
set_option linter.unusedVariables false
set_option linter.unusedSimpArgs false
open Go.RowKit Go.Shelf
set_option maxHeartbeats 8000000
set_option maxRecDepth 100000
namespace Hr
def get1 (nm : List UInt8) (st : List UInt8 × Nat) (f : Hp.Hd) : List UInt8 × Nat := if Tp.lower f.1 = Tp.lower nm then ((if 0 < st.2 then st.1 ++ [44, 32] else st.1) ++ f.2, st.2 + 1) else st
/-- the values of a name's fields, and how many -/
def get (nm : List UInt8) (fs : List Hp.Hd) : List UInt8 × Nat := fs.foldl (get1 nm) ([], 0)
end Hr
theorem bx_beq (a b : List UInt8) : ((bx a).toList == (bx b).toList) = (a == b) := by
  rw [ByteArray.toList_eq, ByteArray.toList_eq]; simp [bx]
theorem ref_Get (F nm : List UInt8) (V : Value) (fs : List Hp.Hd) (w : World) (hv : HS w V fs) (hl : fs.length ≤ 1000) (hs : ∀ f ∈ fs, f.1.length ≤ 100000 ∧ f.2.length ≤ 100000) (hnm : nm.length ≤ 100000) :
    Calls Tryd.prog 20 #[.agg #[Hp.sx F, V], .string (bx nm)] w fun e w' => e = .returned (.tuple #[.string (bx (Hr.get nm fs).1), .int .i64 ((Hr.get nm fs).2 : Nat)]) ∧ Below w.heap.size w w' := by
  obtain ⟨p, c, rfl⟩ := hv.slice
  obtain ⟨N, hN⟩ : ∃ N, fs.length = N := ⟨_, rfl⟩
  rw [hN] at hv hl ⊢
  unfold Hp.sx
  obtain ⟨fb, hfb⟩ : ∃ z : ByteArray, (⟨F.toArray⟩ : ByteArray) = z := ⟨_, rfl⟩
  rw [hfb]
  obtain ⟨nb, hnb⟩ : ∃ z : ByteArray, bx nm = z := ⟨_, rfl⟩
  have hns : nb.size ≤ 100000 := by rw [← hnb, bx_size]; exact hnm
  have KN0 := fun W => rtk_lower nb W (by omega)
  rw [show nb.data.toList = nm by rw [← hnb]; simp [bx], show (⟨(Tp.lower nm).toArray⟩ : ByteArray) = bx (Tp.lower nm) from rfl] at KN0
  obtain ⟨ln, hln⟩ : ∃ z : ByteArray, bx (Tp.lower nm) = z := ⟨_, rfl⟩
  rw [hln] at KN0
  have KN := Lib.hid KN0
  have HLN := Lib.hid hln
  rw [hnb]
  obtain ⟨H, hH⟩ : ∃ H, w.heap.size = H := ⟨_, rfl⟩
  obtain ⟨W1, hW1⟩ : ∃ Z, w.alloc (.cells #[.string fb, .slice p N c] 45) = Z := ⟨_, rfl⟩
  have HB1 := Lib.hid (show Below H w W1 by rw [← hW1, ← hH]; exact (Below.refl _ _).alloc (Nat.le_refl _) _)
  have HG1 := Lib.hid (show W1.heap[H]? = some (.cells #[.string fb, .slice p N c] 45 (0, 0)) by rw [← hW1, ← hH]; exact World.alloc_heap_new _ _)
  have HV := Lib.hid hv
  have HW1 := Lib.hid hW1
  have HHH := Lib.hid hH
  have HNN := Lib.hid hN
  have HSZ := Lib.hid hs
  clear hv hs hN hfb hnb hH hW1 KN0 hln
  go_enter Tryd.func20, Tryd.ntmps20
  go_wp2_with fail
  rw [HHH.out, HW1.out]
  go_wp2_with fail
  go_loopw [6, 7, 8] (fun v6 v7 i wr => ∃ (k : Nat) (st : List UInt8 × Nat), k ≤ N ∧ i = .int .i64 k ∧ v6 = .string (bx st.1) ∧ v7 = .int .i64 (st.2 : Nat) ∧ Hr.get nm fs = (fs.drop k).foldl (Hr.get1 nm) st ∧ st.2 ≤ k ∧ st.1.length ≤ k * 100002 ∧
      wr.heap[H]? = some (.cells #[.string fb, .slice p N c] 45 (0, 0)) ∧ Below H w wr) (fun _ _ i _ => N - (intOf i).toNat)
  case atStart => exact ⟨0, ([], 0), Nat.zero_le _, rfl, rfl, rfl, rfl, Nat.le_refl _, Nat.le_refl _, HG1.out, HB1.out⟩
  case round =>
    obtain ⟨k, ⟨sl, m⟩, hk, rfl, rfl, rfl, hgt, hm, hsl, hg, hbl⟩ := hrel
    simp only at hm hsl hgt ⊢
    have HGT := Lib.hid hgt
    have HG := Lib.hid hg
    have HBL := Lib.hid hbl
    have a1 : wr.cell? ⟨H, 1, none⟩ = some (.slice p N c) := by simp [World.cell?, hg]
    have HM := Lib.hid hm
    have HSL := Lib.hid hsl
    clear hgt hg hbl hm hsl
    by_cases hlt : k < N
    · have HLK := Lib.hid (show fs.drop k = fs.getD k ([], []) :: fs.drop (k + 1) by
        rw [List.drop_eq_getElem_cons (by rw [HNN.out]; exact hlt), List.getD_eq_getElem?_getD, List.getElem?_eq_getElem (by rw [HNN.out]; exact hlt)]; rfl)
      have hszf := HSZ.out (fs.getD k ([], [])) (by rw [List.getD_eq_getElem?_getD, List.getElem?_eq_getElem (by rw [HNN.out]; exact hlt)]; exact List.getElem_mem _)
      have HVR := Lib.hid (HV.out.below (by rw [HHH.out]; exact HBL.out))
      obtain ⟨g1, o1, rfl, hc1⟩ := HVR.out.cells (k := k) (by rw [HNN.out]; exact hlt)
      obtain ⟨hx, hy⟩ := hc1 k (by rw [HNN.out]; exact hlt)
      obtain ⟨⟨n0, v0⟩, hf⟩ : ∃ x, fs.getD k ([], []) = x := ⟨_, rfl⟩
      rw [hf] at hx hy HLK hszf
      simp only at hx hy hszf
      rw [show Hp.sx n0 = .string (bx n0) from rfl] at hx
      rw [show Hp.sx v0 = .string (bx v0) from rfl] at hy
      have KL0 := fun W => rtk_lower (bx n0) W (by rw [bx_size]; omega)
      rw [show (bx n0).data.toList = n0 by simp [bx], show (⟨(Tp.lower n0).toArray⟩ : ByteArray) = bx (Tp.lower n0) from rfl] at KL0
      have hbq := bx_beq (Tp.lower n0) (Tp.lower nm)
      rw [HLN.out] at hbq
      obtain ⟨lo, hlo⟩ : ∃ z : ByteArray, bx (Tp.lower n0) = z := ⟨_, rfl⟩
      rw [hlo] at KL0 hbq
      have KL := Lib.hid KL0
      have HX := Lib.hid hx
      have HY := Lib.hid hy
      have hvl : (bx v0).size ≤ 100000 := by rw [bx_size]; omega
      have hsl2 : (bx sl).size ≤ 100100000 := by rw [bx_size]; have := HSL.out; have : k * 100002 ≤ 1000 * 100002 := Nat.mul_le_mul_right _ (by omega); omega
      have hsj := (show (bx sl ++ (⟨#[44, 32]⟩ : ByteArray)).size ≤ 100100002 by rw [ByteArray.size_append]; have : (⟨#[44, 32]⟩ : ByteArray).size = 2 := rfl; omega)
      have HJ := Lib.hid (show bx sl ++ (⟨#[44, 32]⟩ : ByteArray) ++ bx v0 = bx (sl ++ [44, 32] ++ v0) by apply ByteArray.ext; apply Array.ext'; simp [bx])
      have HJ0 := Lib.hid (show bx sl ++ bx v0 = bx (sl ++ v0) by apply ByteArray.ext; apply Array.ext'; simp [bx])
      obtain ⟨q, hq⟩ : ∃ q, (Tp.lower n0 == Tp.lower nm) = q := ⟨_, rfl⟩
      rw [hq] at hbq
      have HQ := Lib.hid hq
      have HSV := Lib.hid hszf
      clear hc1 hf KL0 hlo hq hszf hy
      go_wp2_with fail
      refine (KL.out wr).mono ?_
      rintro e w1 ⟨rfl, hb1⟩
      go_wp2_with fail
      refine (KN.out w1).mono ?_
      rintro e w2 ⟨rfl, hb2⟩
      have hb12 := hb1.trans (hb2.mono hb1.size)
      have hg2 := (hb12.block H (Array.getElem?_eq_some_iff.1 HG.out).1).trans HG.out
      have HB2 := Lib.hid (show Below H w w2 from HBL.out.trans (hb12.mono (Nat.le_of_lt (Array.getElem?_eq_some_iff.1 HG.out).1)))
      have b1 : w2.cell? ⟨H, 1, none⟩ = some (.slice (some ⟨g1, o1, none⟩) N c) := by simp [World.cell?, hg2]
      have hy2 := (hb12.cell (p := ⟨g1, o1 + k * 2 + 1, none⟩) (lt_of_cell HY.out)).trans HY.out
      have HG2 := Lib.hid hg2
      clear a1 hx hb1 hb2 hb12 hg2
      cases q with
      | false =>
        go_wp2_with fail
        go_roundw
        case rel =>
          refine ⟨k + 1, (sl, m), hlt, by go_num, rfl, rfl, ?_, by have := HM.out; simp only; omega, Nat.le_trans HSL.out (Nat.mul_le_mul_right _ (Nat.le_succ k)), HG2.out, HB2.out⟩
          rw [HGT.out, HLK.out, List.foldl_cons]
          unfold Hr.get1
          simp only
          rw [if_neg (by have := HQ.out; simpa using this)]
        case measure => simp [intOf]; omega
      | true =>
        have HGS := Lib.hid (show Hr.get nm fs = (fs.drop (k + 1)).foldl (Hr.get1 nm) ((if 0 < m then sl ++ [44, 32] else sl) ++ v0, m + 1) by
          rw [HGT.out, HLK.out, List.foldl_cons]
          conv => lhs; rw [show Hr.get1 nm (sl, m) (n0, v0) = ((if 0 < m then sl ++ [44, 32] else sl) ++ v0, m + 1) by unfold Hr.get1; simp only; rw [if_pos (by have := HQ.out; simpa using this)]])
        by_cases hm0 : 0 < m
        · have HM0 := Lib.hid hm0
          have hm1 : 0 < (m : Int) := by omega
          have hm2 : (m : Int) ≤ 1000 := by have := HM.out; omega
          clear hm0
          go_wp2_with fail
          go_roundw
          case rel =>
            refine ⟨k + 1, (sl ++ [44, 32] ++ v0, m + 1), hlt, by go_num, by rw [← HJ.out], by go_num, ?_, Nat.succ_le_succ HM.out, ?_, HG2.out, HB2.out⟩
            · rw [HGS.out, if_pos HM0.out]
            · have h1 := HSL.out; have h2 := HSV.out; simp only [List.length_append, List.length_cons, List.length_nil]; omega
          case measure => simp [intOf]; omega
        · have HM0 := Lib.hid hm0
          have hm1 : m = 0 := by omega
          subst hm1
          clear hm0
          go_wp2_with fail
          go_roundw
          case rel =>
            refine ⟨k + 1, (sl ++ v0, 1), hlt, by go_num, by rw [← HJ0.out], by go_num, ?_, Nat.succ_le_succ HM.out, ?_, HG2.out, HB2.out⟩
            · rw [HGS.out, if_neg HM0.out]
            · have h1 := HSL.out; have h2 := HSV.out; simp only [List.length_append]; omega
          case measure => simp [intOf]; omega
    · have HRE := Lib.hid (show Hr.get nm fs = (sl, m) by rw [HGT.out, List.drop_eq_nil_of_le (by rw [HNN.out]; omega)]; rfl)
      go_wp2_with fail
      simp [bodyPost, results, Tryd.results20, go_sem]
      rw [HRE.out]
      exact ⟨⟨rfl, rfl⟩, by rw [HHH.out]; exact HBL.out⟩
end Go.Proofs.YthfdnlcalefjeaaDoor

/- Each answer, read back: plain. -/
namespace Go.Proofs.YthfdnlcalefjeaaDoor
set_option linter.unusedVariables false
set_option linter.unusedSimpArgs false
namespace Hr
open Hp
/-- an answer that says how many bytes stand behind its head -/
structure An (l : List UInt8) : Prop where
  form : ∃ (F : List UInt8) (fs : List Hd) (n : Nat), write l start 0 = (⟨F, fs, [], n, false, true, 0⟩, n) ∧ n < l.length ∧ get cl fs = (Dp.digs 10 (l.length - n), 1) ∧ fs.length ≤ 1000 ∧ ∀ f ∈ fs, f.1.length ≤ 100000 ∧ f.2.length ≤ 100000
  short : l.length ≤ 80000
  last : l.getD (l.length - 1) 0 = 10
theorem digs4 {k : Nat} (h : k ≤ 1000) : (Dp.digs 10 (k + 1)).length ≤ 4 := Dp.digs_length_le (b := 10) (by omega) 4 (k + 1) (by omega) (by omega)
theorem digs3 {k : Nat} (h : k ≤ 505) : (Dp.digs 10 k).length ≤ 4 := Dp.digs_length_le (b := 10) (by omega) 4 k (by omega) (by omega)
theorem lines_len {fs : List Hd} {k : Nat} (h : ∀ f ∈ fs, (fld f).length ≤ k) : (lines fs).length ≤ fs.length * (k + 2) := by
  induction fs with
  | nil => simp [lines]
  | cons f fs ih =>
    have h1 := ih (fun g hg => h g (List.mem_cons_of_mem _ hg))
    have h2 := h f List.mem_cons_self
    have e : lines (f :: fs) = fld f ++ [13, 10] ++ lines fs := rfl
    rw [e]
    simp only [List.length_append, List.length_cons, List.length_nil, Nat.succ_mul]
    omega
theorem fields_len {n : Int} {k : Nat} (hk : k ≤ 1000) : (fields n k).length ≤ 4 ∧ ∀ f ∈ fields n k, (fld f).length ≤ 40 ∧ f.1.length ≤ 40 ∧ f.2.length ≤ 40 := by
  have hd := digs4 hk
  have hm : (more n).length ≤ 1 ∧ ∀ f ∈ more n, (fld f).length ≤ 40 ∧ f.1.length ≤ 40 ∧ f.2.length ≤ 40 := by
    unfold more
    split
    · exact ⟨by decide, by decide +kernel⟩
    · split
      · exact ⟨by decide, by decide +kernel⟩
      · exact ⟨by decide, fun f hf => by cases hf⟩
  unfold fields
  refine ⟨by simp only [List.length_append, List.length_cons, List.length_nil]; have := hm.1; omega, fun f hf => ?_⟩
  rcases List.mem_append.1 hf with hf | hf
  · rcases List.mem_append.1 hf with hf | hf
    · rcases List.mem_cons.1 hf with rfl | hf
      · decide +kernel
      · rw [List.mem_singleton] at hf
        subst hf
        unfold fld
        simp only [List.length_append, List.length_cons]
        have : cl.length = 14 := rfl
        omega
    · exact hm.2 f hf
  · rw [List.mem_singleton] at hf
    subst hf
    decide +kernel
theorem get_fields (n : Int) (k : Nat) : get cl (fields n k) = (Dp.digs 10 (k + 1), 1) := by
  have e1 : ¬ Tp.lower ct = Tp.lower cl := by decide +kernel
  have e2 : ¬ Tp.lower cn = Tp.lower cl := by decide +kernel
  have e3 : ¬ Tp.lower al = Tp.lower cl := by decide +kernel
  have e4 : ¬ Tp.lower ra = Tp.lower cl := by decide +kernel
  unfold get fields more
  split
  · simp [get1, e1, e2, e3]
  · split
    · simp [get1, e1, e2, e4]
    · simp [get1, e1, e2]
theorem get_sfields (b : Bool) : get cl (sfields b) = ([], 0) := by cases b <;> decide +kernel
theorem val_all {F : List UInt8} (h : Tp.isVal (120 :: F ++ [120]) = true) : ∀ c ∈ F, Tp.valB (c.toNat : Int) = true := by
  intro c hc
  unfold Tp.isVal Tp.allT at h
  rw [Bool.and_eq_true] at h
  exact List.all_eq_true.1 h.2 c (by simp [hc])
/-- a head that may be, of few short fields, is read back -/
theorem read_ok {F : List UInt8} {fs : List Hd} (hok : HOk F fs) (hb : Tp.blankB (F.headD 0) = false) (hF : F.length ≤ 1000) (hn : fs.length ≤ 4) (hs : ∀ f ∈ fs, (fld f).length ≤ 40) (rest : List UInt8) :
    write (hbytes F fs ++ rest) start 0 = (⟨F, fs, [], (hbytes F fs).length, false, true, 0⟩, (hbytes F fs).length) ∧ (hbytes F fs).length ≤ 2000 := by
  have h1 := lines_len hs
  have h2 : fs.length * (40 + 2) ≤ 4 * 42 := Nat.mul_le_mul_right _ hn
  have el : (hbytes F fs).length = F.length + 2 + (lines fs).length + 2 := by unfold hbytes; simp; omega
  refine ⟨read_head F fs rest hok.ne hb (val_all hok.val) (by omega) (fun f hf => ?_) (by omega) (by omega), by omega⟩
  obtain ⟨a, b, c⟩ := hok.each f hf
  exact ⟨a, b, c, by have := hs f hf; omega⟩
theorem an_plain {n : Int} {text l : List UInt8} (h : plain n text = some l) : An l := by
  unfold plain at h
  split at h
  · rename_i r hr
    split at h
    · rename_i hk
      obtain ⟨h0, h1, _, h3⟩ := reason_ok hr
      have hfl : (first n r).length ≤ 1000 := by
        unfold first
        have := digs3 (k := n.toNat) (by omega)
        have : http.length = 9 := rfl
        simp only [List.length_append, List.length_cons]
        omega
      have hbl : Tp.blankB ((first n r).headD 0) = false := by unfold first http; rfl
      obtain ⟨f1, f2⟩ := fields_len (n := n) hk
      have e : hbytes (first n r) (fields n text.length) ++ text ++ [10] = hbytes (first n r) (fields n text.length) ++ (text ++ [10]) := List.append_assoc _ _ _
      obtain ⟨g1, g2⟩ := read_ok (hok_plain hr text.length) hbl hfl f1 (fun f hf => (f2 f hf).1) (text ++ [10])
      cases h
      have hl : (hbytes (first n r) (fields n text.length) ++ text ++ [10]).length = (hbytes (first n r) (fields n text.length)).length + (text.length + 1) := by simp only [List.length_append, List.length_cons, List.length_nil]; omega
      refine ⟨⟨_, _, _, by rw [e]; exact g1, by rw [hl]; omega, ?_, by omega, fun f hf => ⟨Nat.le_trans (f2 f hf).2.1 (by decide), Nat.le_trans (f2 f hf).2.2 (by decide)⟩⟩, by rw [hl]; omega, ?_⟩
      · rw [hl, get_fields, Nat.add_sub_cancel_left]
      · rw [List.getD_eq_getElem?_getD, hl, ← Nat.add_assoc, Nat.add_sub_cancel, List.getElem?_append_right (by simp only [List.length_append]; omega)]
        simp
    · cases h
  · cases h
theorem an_refusal {n : Int} {l : List UInt8} (h : Hp.refusal n = some l) : An l := by
  unfold Hp.refusal at h
  split at h
  · split at h
    · cases h
    · exact an_plain h
  · cases h
theorem an_health {t c : Int} {d : Bool} {l : List UInt8} (h : health t c d = some l) : An l := by
  unfold health at h
  split at h
  · cases h
  · split at h
    · exact an_plain h
    · exact an_plain h
theorem stream_read (b : Bool) : write (stream b) start 0 = (⟨ok200, sfields b, [], (stream b).length, false, true, 0⟩, (stream b).length) ∧ (stream b).length ≤ 2000 ∧ (sfields b).length ≤ 4 ∧ ∀ f ∈ sfields b, f.1.length ≤ 100000 ∧ f.2.length ≤ 100000 := by
  have hs : (sfields b).length ≤ 4 ∧ ∀ f ∈ sfields b, (fld f).length ≤ 40 ∧ f.1.length ≤ 100000 ∧ f.2.length ≤ 100000 := by cases b <;> exact ⟨by decide, by decide +kernel⟩
  have h := read_ok (hok_stream b) (by decide) (by decide) hs.1 (fun f hf => (hs.2 f hf).1) []
  rw [List.append_nil] at h
  exact ⟨h.1, h.2, hs.1, fun f hf => (hs.2 f hf).2⟩
end Hr
end Go.Proofs.YthfdnlcalefjeaaDoor

/- A drawn region by what its slots hold (which may hang on what is done), where some operations fill no slot: such a one names a slot of none of the others. -/
namespace Go.Proofs.YthfdnlcalefjeaaDoor
set_option linter.unusedVariables false
set_option linter.unusedSimpArgs false
open Go.RowKit
section
variable {P : Program} {ops : Array Oper} {Q : Exit → Act → World → Prop}
theorem region_slots4 {id : Nat} {a0 : Act} {w0 : World} (slot : Nat → Nat) (F : (Nat → Bool) → Nat → World → Value → Prop) (T : (Nat → Bool) → World → Prop) (hm : P.follows .mixedOrders = true) (hb : backB .any ops = true)
    (hs : ∀ i, slot i < a0.tmps.size) (hinj : ∀ i j, i < ops.size → j < ops.size → slot i = slot j → i = j) (h0 : T (fun _ => false) w0.drew)
    (hdst : ∀ i o, ops[i]? = some o → o.dst = some (slot i) ∨ o.dst = none)
    (hstep : ∀ (f : Nat → Bool) (a : Act) (w : World) (i : Nat) (o : Oper), ops[i]? = some o → f i = false → (∀ e ∈ o.after, Region.binds .any e = true → f e.on = true ∧ F f e.on w (a.tmps.getD (slot e.on) undef)) → T f w →
      (∀ j, (∀ i, i < ops.size → slot i ≠ j) → a.tmps.getD j undef = a0.tmps.getD j undef) →
      o.wp P a w (fun a' w' => ∃ v, a' = a.put o.dst v ∧ (o.dst = none → v = a0.tmps.getD (slot i) undef) ∧ F (fun j => if j = i then true else f j) i w' v ∧ T (fun j => if j = i then true else f j) w' ∧ ∀ j, f j = true → F f j w (a.tmps.getD (slot j) undef) → F (fun j => if j = i then true else f j) j w' (a.tmps.getD (slot j) undef)) Q)
    (hdone : ∀ (f : Nat → Bool) (vs : Nat → Value) (w : World), (∀ i, i < ops.size → f i = true) → T f w → (∀ i, i < ops.size → F f i w (vs i)) → Q .normal { a0 with tmps := fillN slot vs ops.size a0.tmps } w) : (Code.region id ops true).wp P Q a0 w0 := by
  refine region_inv hm hb (Stand3 a0 ops.size slot F T) ⟨rfl, rfl, fun _ _ => rfl, fun _ _ _ => rfl, h0, fun _ _ h => by cases h⟩ ?_ ?_
  · intro f a w i o ho hf hpre hI
    have hi := (Array.getElem?_eq_some_iff.1 ho).1
    refine Oper.wp_mono ?_ (hstep f a w i o ho hf (fun e he hbd => ⟨hpre e he hbd, hI.have_ e.on (by have := (back_of hb ho).2 e he hbd; omega) (hpre e he hbd)⟩) hI.told hI.rest)
    rintro a' w' ⟨v, rfl, hno, hv, ht, hst⟩
    rcases hdst i o ho with hd | hd
    · rw [hd]
      have hsl : slot i < a.tmps.size := by rw [hI.size]; exact hs i
      refine ⟨hI.defers, by rw [← hI.size]; exact Array.size_setIfInBounds .., fun j hj => ?_, fun j hj hfj => ?_, ht, fun j hj hfj => ?_⟩
      · show (a.tmps.setIfInBounds (slot i) v).getD j undef = _
        rw [getD_set _ _ _ _ hsl, if_neg (Ne.symm (hj i hi))]
        exact hI.rest j hj
      · show (a.tmps.setIfInBounds (slot i) v).getD (slot j) undef = _
        have hji : j ≠ i := fun e => by simp [e] at hfj
        rw [getD_set _ _ _ _ hsl, if_neg (fun e => hji (hinj j i hj hi e))]
        exact hI.yet j hj (by simpa [hji] using hfj)
      · show F (fun j => if j = i then true else f j) j w' ((a.tmps.setIfInBounds (slot i) v).getD (slot j) undef)
        rw [getD_set _ _ _ _ hsl]
        by_cases hji : j = i
        · subst hji; rw [if_pos rfl]; exact hv
        · rw [if_neg (fun e => hji (hinj j i hj hi e))]
          have h2 : f j = true := by simpa [hji] using hfj
          exact hst j h2 (hI.have_ j hj h2)
    · rw [hd]
      refine ⟨hI.defers, hI.size, hI.rest, fun j hj hfj => ?_, ht, fun j hj hfj => ?_⟩
      · have hji : j ≠ i := fun e => by simp [e] at hfj
        exact hI.yet j hj (by simpa [hji] using hfj)
      · show F (fun j => if j = i then true else f j) j w' (a.tmps.getD (slot j) undef)
        by_cases hji : j = i
        · subst hji
          rw [hI.yet j hj hf, ← hno hd]
          exact hv
        · have h2 : f j = true := by simpa [hji] using hfj
          exact hst j h2 (hI.have_ j hj h2)
  · intro f a w hall hI
    have e : a = { a0 with tmps := fillN slot (fun i => a.tmps.getD (slot i) undef) ops.size a0.tmps } := by
      have h1 : a.tmps = fillN slot (fun i => a.tmps.getD (slot i) undef) ops.size a0.tmps := by
        refine ext_getD (by rw [fillN_size, hI.size]) (fun j => ?_)
        by_cases hj : ∃ i, i < ops.size ∧ slot i = j
        · obtain ⟨i, hi, rfl⟩ := hj
          rw [fillN_at slot _ _ hs _ hinj i hi]
        · rw [fillN_get slot _ _ hs _ j (fun i hi e => hj ⟨i, hi, e⟩), hI.rest j (fun i hi e => hj ⟨i, hi, e⟩)]
      obtain ⟨t, d⟩ := a
      have h2 := hI.defers
      simp only at h1 h2
      rw [← h1, h2]
    rw [e]
    exact hdone f _ w hall hI.told (fun i hi => hI.have_ i hi (hall i hi))
theorem rg_same4 {o : Oper} {a a0 : Act} {w : World} {slot : Nat → Nat} {F : (Nat → Bool) → Nat → World → Value → Prop} {T : (Nat → Bool) → World → Prop} {f : Nat → Bool} {i : Nat} (v : Value)
    (h : o.wp P a w (fun a' w' => a' = a.put o.dst v ∧ w' = w) Q) (hd : o.dst ≠ none) (hF : F (fun j => if j = i then true else f j) i w v) (hT : T (fun j => if j = i then true else f j) w) (hM : ∀ j v', F f j w v' → F (fun j => if j = i then true else f j) j w v') :
    o.wp P a w (fun a' w' => ∃ v, a' = a.put o.dst v ∧ (o.dst = none → v = a0.tmps.getD (slot i) undef) ∧ F (fun j => if j = i then true else f j) i w' v ∧ T (fun j => if j = i then true else f j) w' ∧ ∀ j, f j = true → F f j w (a.tmps.getD (slot j) undef) → F (fun j => if j = i then true else f j) j w' (a.tmps.getD (slot j) undef)) Q := by
  refine Oper.wp_mono ?_ h
  rintro a' w' ⟨rfl, rfl⟩
  exact ⟨v, rfl, fun h => absurd h hd, hF, hT, fun j _ h => hM j _ h⟩
end
end Go.Proofs.YthfdnlcalefjeaaDoor

/- AnswerHolds returns true for any input: the walk. The tables of the library read as they are laid. -/
namespace Go.Proofs.YthfdnlcalefjeaaDoor
set_option linter.unusedVariables false
set_option linter.unusedSimpArgs false
open Go.RowKit Go.Shelf
set_option maxHeartbeats 8000000
set_option maxRecDepth 100000
/-- a slice of answers, in hand -/
def LRow (B : Nat) (w3 w : World) (v : Value) (m : Nat) : Prop := ∃ n xs, w.ownsRow B 26 1 v n xs ∧ n ≤ m ∧ ∀ x ∈ xs, ∃ l, BRow w3 x l ∧ Hr.An l
theorem own_slice {w : World} {B n size : Nat} {e : TypeId} {v : Value} {xs : List Value} (h : w.ownsRow B e size v n xs) : ∃ p q c, v = .slice p q c := by
  rcases h.2 with ⟨rfl, _⟩ | ⟨g, cap, cur, rfl, _⟩
  · exact ⟨_, _, _, rfl⟩
  · exact ⟨_, _, _, rfl⟩
theorem BRow.form {w : World} {v : Value} {l : List UInt8} (h : BRow w v l) : ∃ p q c, v = .slice p q c := by
  obtain ⟨p, c, rfl, _⟩ := h
  exact ⟨_, _, _, rfl⟩
theorem BRow.one {w : World} {v : Value} {l : List UInt8} (h : BRow w v l) : v.oneCell' = true := by
  obtain ⟨p, c, rfl, _⟩ := h
  rfl
def aiF (g k q3 c3 ga oa m dd n D E : Nat) (db : ByteArray) : Nat → World → Value → Prop
  | 0, _, v => v = .int .i64 0
  | 1, _, v => v = .bool false
  | 2, _, v => v = .bool false
  | 3, _, v => v = .int .i64 1
  | 4, _, v => v = .bool false
  | 5, _, v => v = .bool false
  | 6, _, v => v = .bool false
  | 7, _, v => v = .string db
  | 8, _, v => v = .slice (some ⟨g, 0, none⟩) q3 c3
  | 9, _, v => v = .int .i64 k
  | 10, _, v => v = .pointer (some ⟨g, k, none⟩)
  | 11, _, v => v = .slice (some ⟨ga, oa, none⟩) m dd
  | 12, _, v => v = .int .i64 m
  | 13, _, v => v = .int .i64 n
  | 14, _, v => v = .int .i64 D
  | 15, _, v => v = .int .u64 D
  | 16, _, v => v = .string db
  | 17, _, v => v = .bool false
  | 18, _, v => v = .bool false
  | 19, _, v => v = .bool false
  | 20, _, v => v = .slice (some ⟨g, 0, none⟩) q3 c3
  | 21, _, v => v = .int .i64 k
  | 22, _, v => v = .pointer (some ⟨g, k, none⟩)
  | 23, _, v => v = .slice (some ⟨ga, oa, none⟩) m dd
  | 24, _, v => v = .slice (some ⟨g, 0, none⟩) q3 c3
  | 25, _, v => v = .int .i64 k
  | 26, _, v => v = .pointer (some ⟨g, k, none⟩)
  | 27, _, v => v = .slice (some ⟨ga, oa, none⟩) m dd
  | 28, _, v => v = .int .i64 m
  | 29, _, v => v = .int .i64 E
  | 30, _, v => v = .pointer (some ⟨ga, oa + E, none⟩)
  | 31, _, v => v = .int .u8 10
  | 32, _, v => v = .bool false
  | 33, _, v => v = .bool false
  | _, _, _ => False
def ahF (B g q c k : Nat) (a : Option Addr) (m dd n : Nat) (F : List UInt8) (fs : List Hp.Hd) (f : Nat → Bool) : Nat → World → Value → Prop
  | 0, _, v => v = .agg #[.int .i64 8192, .int .i64 65536, .int .i64 256]
  | 1, _, v => v = .slice (some ⟨g, 0, none⟩) q c
  | 2, _, v => v = .int .i64 k
  | 3, _, v => v = .pointer (some ⟨g, k, none⟩)
  | 4, _, v => v = .slice a m dd
  | 5, w, v => ∃ V, v = .tuple #[.agg #[Hp.sx F, V], .int .i64 n, .int .i64 0] ∧ HS w V fs
  | 6, w, v => ∃ V, v = .tuple #[.agg #[Hp.sx F, V], .int .i64 n, .int .i64 0] ∧ HS w V fs
  | 7, w, v => ∃ V, v = .agg #[Hp.sx F, V] ∧ HS w V fs
  | 8, _, v => v = .int .i64 n
  | 9, _, v => v = .int .i64 0
  | 10, w, v => ∃ b, v = .pointer (some ⟨b, 0, none⟩) ∧ B ≤ b ∧ (f 11 = false → w.heap[b]? = some (.cells #[.string ⟨#[]⟩, .slice none 0 0] 45 (0, 0))) ∧ (f 11 = true → ∃ V, w.heap[b]? = some (.cells #[Hp.sx F, V] 45 (0, 0)) ∧ HS w V fs)
  | 11, w, v => True
  | 12, _, v => v = .int .i64 n
  | 13, _, v => v = .int .i64 0
  | _, _, _ => False
structure ahT (w0 : World) (f : Nat → Bool) (w : World) : Prop where
  bel : Below w0.heap.size w0 w
  n11 : f 10 = false → f 11 = false
theorem ahT.step {w0 w w' : World} {f : Nat → Bool} (i : Nat) (h : ahT w0 f w) (hi : i ≠ 11) (hb : Below w0.heap.size w0 w') : ahT w0 (fun j => if j = i then true else f j) w' :=
  ⟨hb, fun h4 => by
    have h5 : f 10 = false := by by_cases e : 10 = i <;> simp_all
    have := h.n11 h5
    simpa [Ne.symm hi] using this⟩
theorem ahF_up {B g q c k : Nat} {a : Option Addr} {m dd n : Nat} {F : List UInt8} {fs : List Hp.Hd} {f : Nat → Bool} {w : World} {j : Nat} {v : Value} (i : Nat) (hi : i ≠ 11) (h : ahF B g q c k a m dd n F fs f j w v) : ahF B g q c k a m dd n F fs (fun j => if j = i then true else f j) j w v := by
  match j, h with
  | 0, h | 1, h | 2, h | 3, h | 4, h | 8, h | 9, h | 12, h | 13, h => exact h
  | 5, h | 6, h | 7, h | 11, h => exact h
  | 10, h =>
    obtain ⟨b, h1, h2, h3, h4⟩ := h
    exact ⟨b, h1, h2, fun e => h3 (by simpa [Ne.symm hi] using e), fun e => h4 (by simpa [Ne.symm hi] using e)⟩
  | n + 14, h => exact h.elim
theorem ahF_below {B g q c k : Nat} {a : Option Addr} {m dd n : Nat} {F : List UInt8} {fs : List Hp.Hd} {f : Nat → Bool} {w w' : World} {j : Nat} {v : Value} (hb : Below w.heap.size w w') (h : ahF B g q c k a m dd n F fs f j w v) : ahF B g q c k a m dd n F fs f j w' v := by
  match j, h with
  | 0, h | 1, h | 2, h | 3, h | 4, h | 8, h | 9, h | 12, h | 13, h => exact h
  | 5, h => obtain ⟨V, h1, h2⟩ := h; exact ⟨V, h1, h2.below hb⟩
  | 6, h => obtain ⟨V, h1, h2⟩ := h; exact ⟨V, h1, h2.below hb⟩
  | 7, h => obtain ⟨V, h1, h2⟩ := h; exact ⟨V, h1, h2.below hb⟩
  | 11, h => exact h
  | 10, h =>
    obtain ⟨b, h1, h2, h3, h4⟩ := h
    refine ⟨b, h1, h2, fun e => ?_, fun e => ?_⟩
    · have h5 := h3 e; exact (hb.block b (Array.getElem?_eq_some_iff.1 h5).1).trans h5
    · obtain ⟨V, h5, h6⟩ := h4 e; exact ⟨V, (hb.block b (Array.getElem?_eq_some_iff.1 h5).1).trans h5, h6.below hb⟩
  | n + 14, h => exact h.elim
def ahSlot (i : Nat) : Nat := ([83, 84, 85, 86, 87, 88, 82, 89, 90, 91, 20, 92, 21, 22] : List Nat).getD i 22
theorem ahSlot_lt (i : Nat) : ahSlot i < 163 := by
  match i with
  | 0 | 1 | 2 | 3 | 4 | 5 | 6 | 7 | 8 | 9 | 10 | 11 | 12 | 13 => decide
  | n + 14 => show 22 < 163; decide
theorem ahSlot_inj : ∀ i j, i < 14 → j < 14 → ahSlot i = ahSlot j → i = j := by
  have h : ∀ i j : Fin 14, ahSlot i.val = ahSlot j.val → i = j := by decide
  intro i j hi hj e
  have := h ⟨i, hi⟩ ⟨j, hj⟩ e
  simpa using this
theorem ahNot11 : ∀ i, i < 14 → ahSlot i ≠ 11 := by
  have h : ∀ i : Fin 14, ahSlot i.val ≠ 11 := by decide
  exact fun i hi => h ⟨i, hi⟩
theorem ahNot18 : ∀ i, i < 14 → ahSlot i ≠ 18 := by
  have h : ∀ i : Fin 14, ahSlot i.val ≠ 18 := by decide
  exact fun i hi => h ⟨i, hi⟩
theorem ahNot19 : ∀ i, i < 14 → ahSlot i ≠ 19 := by
  have h : ∀ i : Fin 14, ahSlot i.val ≠ 19 := by decide
  exact fun i hi => h ⟨i, hi⟩
theorem walkAH (st : Int) (text : ByteArray) (t c : Int) (d : Bool) (w : World) (hn : (Lit.int .i64 st).wf = true) (hs : text.size ≤ maxLen) (ht : (Lit.int .i64 t).wf = true) (hc : (Lit.int .i64 c).wf = true) (htb : Tabs w) :
    Calls Tryd.prog 5 #[.int .i64 st, .string text, .int .i64 t, .int .i64 c, .bool d] w fun e w' => e = .returned (.bool true) ∧ Below w.heap.size w w' := by
  obtain ⟨i0, hi, hz0, hz1, hz2⟩ := info_parts (show (Tryd.prog.info? 26).map (fun i => (i.zero, i.size, i.bytes)) = some (some (.slice none 0 0), 1, 24) by kernel_rfl)
  have hn2 : -9223372036854775808 ≤ st ∧ st ≤ 9223372036854775807 := by simpa [Lit.wf, IntKind.min, IntKind.max, IntKind.signed, IntKind.bits] using hn
  have ht2 : -9223372036854775808 ≤ t ∧ t ≤ 9223372036854775807 := by simpa [Lit.wf, IntKind.min, IntKind.max, IntKind.signed, IntKind.bits] using ht
  have hc2 : -9223372036854775808 ≤ c ∧ c ≤ 9223372036854775807 := by simpa [Lit.wf, IntKind.min, IntKind.max, IntKind.signed, IntKind.bits] using hc
  have hs2 : text.size ≤ 9223372036854775807 := hs
  have HT := Lib.hid htb
  have WK := Lib.hid (fun W (h : Tabs W) => an_works W h)
  have HN := Lib.hid an_num
  clear htb hs hn ht hc
  by_cases hl : text.size ≤ 1000
  · have K1 := Lib.hid (fun W (h : Tabs W) => plain_any st text W hn2 hs2 h)
    have K2 := Lib.hid (fun W (h : Tabs W) => ans_Refusal st W hn2 h)
    have K3 := Lib.hid (fun W (h : Tabs W) => ans_Health t c d W ht2 hc2 h)
    obtain ⟨o1, ho1⟩ : ∃ o, Hp.plain st text.data.toList = o := ⟨_, rfl⟩
    obtain ⟨o2, ho2⟩ : ∃ o, Hp.refusal st = o := ⟨_, rfl⟩
    obtain ⟨o3, ho3⟩ : ∃ o, Hp.health t c d = o := ⟨_, rfl⟩
    have A1 := Lib.hid (show ∀ l, o1 = some l → Hr.An l from fun l h => Hr.an_plain (ho1.trans h))
    have A2 := Lib.hid (show ∀ l, o2 = some l → Hr.An l from fun l h => Hr.an_refusal (ho2.trans h))
    have A3 := Lib.hid (show ∀ l, o3 = some l → Hr.An l from fun l h => Hr.an_health (ho3.trans h))
    rw [ho1] at K1
    rw [ho2] at K2
    rw [ho3] at K3
    unfold AnOut at K1 K2 K3
    clear ho1 ho2 ho3 hn2 ht2 hc2 hs2
    go_enter Tryd.func5, Tryd.ntmps5
    go_wp2_with fail
    refine (K1.out w HT.out).mono ?_
    rintro e w1 ⟨⟨v1, rfl, hv1⟩, hb1⟩
    have HB1 := Lib.hid hb1
    have HV1 := Lib.hid hv1
    obtain ⟨a1, m1, d1, rfl⟩ := hv1.form
    clear hb1 hv1
    obtain ⟨e1, he1⟩ : ∃ z, erOf o1 = z := ⟨_, rfl⟩
    have hr1 := er_range o1
    rw [he1] at hr1 ⊢
    have HE1 := Lib.hid he1
    have HR1 := Lib.hid hr1
    clear he1 hr1
    go_wp2_with fail
    refine (K2.out w1 (HT.out.bel HB1.out)).mono ?_
    rintro e w2 ⟨⟨v2, rfl, hv2⟩, hb2⟩
    have HB2 := Lib.hid (HB1.out.trans (hb2.mono HB1.out.size))
    have HC2 := Lib.hid hb2
    have HV2 := Lib.hid hv2
    obtain ⟨a2, m2, d2, rfl⟩ := hv2.form
    clear hb2 hv2
    obtain ⟨e2, he2⟩ : ∃ z, erOf o2 = z := ⟨_, rfl⟩
    have hr2 := er_range o2
    rw [he2] at hr2 ⊢
    have HE2 := Lib.hid he2
    have HR2 := Lib.hid hr2
    clear he2 hr2
    go_wp2_with fail
    refine (K3.out w2 (HT.out.bel HB2.out)).mono ?_
    rintro e w3 ⟨⟨v3, rfl, hv3⟩, hb3⟩
    have HB3 := Lib.hid (HB2.out.trans (hb3.mono HB2.out.size))
    have HC3 := Lib.hid hb3
    have HV3 := Lib.hid hv3
    obtain ⟨a3, m3, d3, rfl⟩ := hv3.form
    clear hb3 hv3
    obtain ⟨e3, he3⟩ : ∃ z, erOf o3 = z := ⟨_, rfl⟩
    have hr3 := er_range o3
    rw [he3] at hr3 ⊢
    have HE3 := Lib.hid he3
    have HR3 := Lib.hid hr3
    clear he3 hr3
    have HX1 := Lib.hid (HV1.out.below (HC2.out.trans (HC3.out.mono HC2.out.size)))
    have HX3 := HV3
    have HX2 := Lib.hid (HV2.out.below HC3.out)
    have HT3 := Lib.hid (HT.out.bel HB3.out)
    clear K1 K2 K3
    go_wp2_with fail
    refine (HN.out e1 w3 HR1.out).mono ?_
    rintro e w4 ⟨rfl, hw4⟩
    rw [hw4]
    clear hw4 w4
    go_upto_if 56 with (fail)
    obtain ⟨p0, q0, c0, hnil⟩ : ∃ p q c, Value.slice none 0 0 = .slice p q c := ⟨_, _, _, rfl⟩
    have HO0 := Lib.hid (show w3.ownsRow w3.heap.size 26 1 (.slice p0 q0 c0) 0 [] by rw [← hnil]; exact World.ownsRow_nil _ _ _ _)
    rw [hnil]
    clear hnil
    go_cut [11] (fun s11 wx => LRow w3.heap.size w3 wx s11 1 ∧ Below w3.heap.size w3 wx)
    case first =>
      have hcs : (o1 = none ∧ e1 = 2) ∨ ∃ l, o1 = some l ∧ e1 = 0 := by
        have h := HE1.out
        unfold erOf at h
        cases hq : o1 with
        | none => rw [hq] at h; exact .inl ⟨rfl, h.symm⟩
        | some l => rw [hq] at h; exact .inr ⟨l, rfl, h.symm⟩
      rcases hcs with ⟨ho, he⟩ | ⟨l, ho, he⟩
      · subst he
        go_wp2_with fail
        go_meet
        case rel => exact ⟨⟨0, [], HO0.out, by omega, fun x hx => absurd hx (List.not_mem_nil)⟩, Below.refl _ _⟩
      · subst he
        have HAn := Lib.hid (A1.out l ho)
        have HVl := Lib.hid (show BRow w3 (.slice a1 m1 d1) l by have h := HX1.out; rw [ho] at h; exact h)
        clear ho
        go_wp2_with (at_builtin; refine wpList_append_own _ rfl _ _ 40 rfl w3.heap.size 26 i0 (.slice none 0 0) 1 24 Tryd.underlying40 hi hz0 hz1 hz2 rfl (by decide) _ _ _ rfl (HO0.out.alloc _) ⟨w3.heap.size, 0, none⟩ 1 1 [.slice a1 m1 d1] rfl rfl (by intro j u hj; match j, hj with | 0, hj => (simp at hj; subst hj; simp [Addr.add])) (by intro u hu; simp at hu; subst hu; rfl) (by unfold maxLen; omega) (by omega) (by have := (Below.refl w3.heap.size w3).size; simp <;> omega) ?_)
        intro v' w5 hown' hgrow _
        have hb5 : Below w3.heap.size w3 w5 := Below.grown ((Below.refl w3.heap.size w3).alloc ((Below.refl w3.heap.size w3).size) _) hgrow (by have := (Below.refl w3.heap.size w3).size; simp <;> omega) (own_geH HO0.out)
        have HO5 := Lib.hid hown'
        have HB5 := Lib.hid hb5
        clear hown' hgrow hb5
        go_wp2_with fail
        go_meet
        case rel => exact ⟨⟨_, _, HO5.out, by omega, fun x hx => by
          rw [List.mem_singleton] at hx; subst hx; exact ⟨l, HVl.out, HAn.out⟩⟩, HB5.out⟩
    case rest =>
      obtain ⟨⟨n1, xs1, hO1, hn1, hx1⟩, hbc1⟩ := hcut
      have HO1 := Lib.hid hO1
      have HXS1 := Lib.hid hx1
      have HNL1 := Lib.hid hn1
      have HBC1 := Lib.hid hbc1
      obtain ⟨p1, q1, c1, rfl⟩ := own_slice hO1
      clear hO1 hx1 hn1 hbc1
      go_wp2_with fail
      refine (HN.out e2 wc HR2.out).mono ?_
      rintro e w4 ⟨rfl, hw4⟩
      rw [hw4]
      clear hw4 w4
      go_upto_if 63 with (fail)
      go_cut [11] (fun s11 wx => LRow w3.heap.size w3 wx s11 2 ∧ Below w3.heap.size w3 wx)
      case first =>
        have hcs : (o2 = none ∧ e2 = 2) ∨ ∃ l, o2 = some l ∧ e2 = 0 := by
          have h := HE2.out
          unfold erOf at h
          cases hq : o2 with
          | none => rw [hq] at h; exact .inl ⟨rfl, h.symm⟩
          | some l => rw [hq] at h; exact .inr ⟨l, rfl, h.symm⟩
        rcases hcs with ⟨ho, he⟩ | ⟨l, ho, he⟩
        · subst he
          go_wp2_with fail
          go_meet
          case rel => exact ⟨⟨_, _, HO1.out, by have := HNL1.out; omega, HXS1.out⟩, HBC1.out⟩
        · subst he
          have HAn := Lib.hid (A2.out l ho)
          have HVl := Lib.hid (show BRow w3 (.slice a2 m2 d2) l by have h := HX2.out; rw [ho] at h; exact h)
          clear ho
          go_wp2_with (at_builtin; refine wpList_append_own _ rfl _ _ 40 rfl w3.heap.size 26 i0 (.slice none 0 0) 1 24 Tryd.underlying40 hi hz0 hz1 hz2 rfl (by decide) _ _ _ rfl (HO1.out.alloc _) ⟨wc.heap.size, 0, none⟩ 1 1 [.slice a2 m2 d2] rfl rfl (by intro j u hj; match j, hj with | 0, hj => (simp at hj; subst hj; simp [Addr.add])) (by intro u hu; simp at hu; subst hu; rfl) (by have := HNL1.out; unfold maxLen; omega) (by have := HNL1.out; omega) (by have := HBC1.out.size; simp <;> omega) ?_)
          intro v' w5 hown' hgrow _
          have hb5 : Below w3.heap.size w3 w5 := Below.grown (HBC1.out.alloc (HBC1.out.size) _) hgrow (by have := HBC1.out.size; simp <;> omega) (own_geH HO1.out)
          have HO5 := Lib.hid hown'
          have HB5 := Lib.hid hb5
          clear hown' hgrow hb5
          go_wp2_with fail
          go_meet
          case rel => exact ⟨⟨_, _, HO5.out, by have := HNL1.out; omega, fun x hx => by
            rcases List.mem_append.1 hx with hx | hx
            · exact HXS1.out x hx
            rw [List.mem_singleton] at hx; subst hx; exact ⟨l, HVl.out, HAn.out⟩⟩, HB5.out⟩
      case rest =>
        obtain ⟨⟨n2, xs2, hO2, hn2, hx2⟩, hbc2⟩ := hcut
        have HO2 := Lib.hid hO2
        have HXS2 := Lib.hid hx2
        have HNL2 := Lib.hid hn2
        have HBC2 := Lib.hid hbc2
        obtain ⟨p2, q2, c2, rfl⟩ := own_slice hO2
        clear hO2 hx2 hn2 hbc2
        go_wp2_with fail
        refine (HN.out e3 wc HR3.out).mono ?_
        rintro e w4 ⟨rfl, hw4⟩
        rw [hw4]
        clear hw4 w4
        go_upto_if 70 with (fail)
        go_cut [11] (fun s11 wx => LRow w3.heap.size w3 wx s11 3 ∧ Below w3.heap.size w3 wx)
        case first =>
          have hcs : (o3 = none ∧ e3 = 2) ∨ ∃ l, o3 = some l ∧ e3 = 0 := by
            have h := HE3.out
            unfold erOf at h
            cases hq : o3 with
            | none => rw [hq] at h; exact .inl ⟨rfl, h.symm⟩
            | some l => rw [hq] at h; exact .inr ⟨l, rfl, h.symm⟩
          rcases hcs with ⟨ho, he⟩ | ⟨l, ho, he⟩
          · subst he
            go_wp2_with fail
            go_meet
            case rel => exact ⟨⟨_, _, HO2.out, by have := HNL2.out; omega, HXS2.out⟩, HBC2.out⟩
          · subst he
            have HAn := Lib.hid (A3.out l ho)
            have HVl := Lib.hid (show BRow w3 (.slice a3 m3 d3) l by have h := HX3.out; rw [ho] at h; exact h)
            clear ho
            go_wp2_with (at_builtin; refine wpList_append_own _ rfl _ _ 40 rfl w3.heap.size 26 i0 (.slice none 0 0) 1 24 Tryd.underlying40 hi hz0 hz1 hz2 rfl (by decide) _ _ _ rfl (HO2.out.alloc _) ⟨wc.heap.size, 0, none⟩ 1 1 [.slice a3 m3 d3] rfl rfl (by intro j u hj; match j, hj with | 0, hj => (simp at hj; subst hj; simp [Addr.add])) (by intro u hu; simp at hu; subst hu; rfl) (by have := HNL2.out; unfold maxLen; omega) (by have := HNL2.out; omega) (by have := HBC2.out.size; simp <;> omega) ?_)
            intro v' w5 hown' hgrow _
            have hb5 : Below w3.heap.size w3 w5 := Below.grown (HBC2.out.alloc (HBC2.out.size) _) hgrow (by have := HBC2.out.size; simp <;> omega) (own_geH HO2.out)
            have HO5 := Lib.hid hown'
            have HB5 := Lib.hid hb5
            clear hown' hgrow hb5
            go_wp2_with fail
            go_meet
            case rel => exact ⟨⟨_, _, HO5.out, by have := HNL2.out; omega, fun x hx => by
              rcases List.mem_append.1 hx with hx | hx
              · exact HXS2.out x hx
              rw [List.mem_singleton] at hx; subst hx; exact ⟨l, HVl.out, HAn.out⟩⟩, HB5.out⟩
        case rest =>
          obtain ⟨⟨n3, xs3, hO3, hn3, hx3⟩, hbc3⟩ := hcut
          have HO3 := Lib.hid hO3
          have HXS3 := Lib.hid hx3
          have HNL3 := Lib.hid hn3
          have HBC3 := Lib.hid hbc3
          obtain ⟨p3, q3, c3, rfl⟩ := own_slice hO3
          clear hO3 hx3 hn3 hbc3
          go_wp2_with fail
          obtain ⟨C, hC⟩ : ∃ z, wc.heap.size = z := ⟨_, rfl⟩
          obtain ⟨W0, hW0⟩ : ∃ Z, wc.alloc (.cells #[.int .i64 8192, .int .i64 65536, .int .i64 256] 42) = Z := ⟨_, rfl⟩
          rw [hC, hW0]
          have HG0 := Lib.hid (show W0.heap[C]? = some (.cells #[.int .i64 8192, .int .i64 65536, .int .i64 256] 42 (0, 0)) by rw [← hW0, ← hC]; exact World.alloc_heap_new _ _)
          have HB0 := Lib.hid (show Below w3.heap.size w3 W0 by rw [← hW0]; exact HBC3.out.alloc HBC3.out.size _)
          have HO0 := Lib.hid (show W0.ownsRow w3.heap.size 26 1 (.slice p3 q3 c3) n3 xs3 by rw [← hW0]; exact HO3.out.alloc _)
          have hq3 : q3 = n3 := by
            rcases HO3.out.2 with ⟨h, h0⟩ | ⟨g, cap, cur, h, _⟩
            · cases h; exact h0.symm
            · cases h; rfl
          subst hq3
          have HN3 := HNL3
          clear hC hW0
          go_loopw [19] (fun i wr => ∃ k : Nat, k ≤ q3 ∧ i = .int .i64 k ∧ wr.heap[C]? = some (.cells #[.int .i64 8192, .int .i64 65536, .int .i64 256] 42 (0, 0)) ∧ wr.ownsRow w3.heap.size 26 1 (.slice p3 q3 c3) q3 xs3 ∧ Below w3.heap.size w3 wr) (fun i _ => q3 - (intOf i).toNat)
          case atStart => exact ⟨0, Nat.zero_le _, rfl, HG0.out, HO0.out, HB0.out⟩
          case round =>
            obtain ⟨k, hk, rfl, hg, hown, hbl⟩ := hrel
            have hq8 : q3 ≤ 3 := HN3.out
            by_cases hlt : k < q3
            · obtain ⟨g, x, hp3, hxs, hcx⟩ : ∃ g x, p3 = some ⟨g, 0, none⟩ ∧ xs3[k]? = some x ∧ wr.cell? ⟨g, k, none⟩ = some x := by
                rcases hown.2 with ⟨h, h0⟩ | ⟨g, cap, cur, h, _⟩
                · omega
                · cases h
                  have h1 := hown.cellAt k (by omega)
                  have h2 : k < xs3.length := by rw [hown.1]; omega
                  exact ⟨g, xs3[k], rfl, List.getElem?_eq_getElem h2, by rw [h1, List.getElem?_eq_getElem h2]⟩
              subst hp3
              obtain ⟨l, hbr, han⟩ := HXS3.out x (List.mem_of_getElem? hxs)
              obtain ⟨a, m, dd, rfl⟩ := hbr.form
              obtain ⟨⟨F, fs, n, hw, hnl, hget, hfl, hfs⟩, hsh, hlast⟩ := han
              have HBRW := Lib.hid (hbr.below hbl)
              have HWR := Lib.hid hw
              have HGET := Lib.hid hget
              have HFS := Lib.hid hfs
              have HLAST := Lib.hid hlast
              have HXK := Lib.hid hxs
              have HOW := Lib.hid hown
              have HBL := Lib.hid hbl
              have HGC := Lib.hid hg
              have hm : m = l.length := by obtain ⟨_, _, h, _⟩ := hbr; cases h; rfl
              have HM := Lib.hid hm
              have c0 : wr.cell? ⟨C, 0, none⟩ = some (.int .i64 8192) := by simp [World.cell?, hg]
              have c1' : wr.cell? ⟨C, 1, none⟩ = some (.int .i64 65536) := by simp [World.cell?, hg]
              have c2' : wr.cell? ⟨C, 2, none⟩ = some (.int .i64 256) := by simp [World.cell?, hg]
              have KO := Lib.hid (fun W (h : Below wr.heap.size wr W) => ref_Of F fs n l (.slice a m dd) W (hbr.below hbl |>.below h) hsh (by omega) hw)
              have HC0 := Lib.hid c0
              have HC1 := Lib.hid c1'
              have HC2 := Lib.hid c2'
              have HCX := Lib.hid hcx
              have HCL := Lib.hid (show C < wr.heap.size from (Array.getElem?_eq_some_iff.1 hg).1)
              clear hg hown hbl hbr hw hget hfs hlast hxs hm c0 c1' c2'
              go_upto_region 17 with (fail)
              refine region_slots4 ahSlot (ahF wr.heap.size g q3 c3 k a m dd n F fs) (ahT wr) (by kernel_rfl) (by kernel_rfl) (fun i => Nat.lt_of_lt_of_le (ahSlot_lt i) (by show 163 ≤ _; simp)) (fun i j hi hj h => ahSlot_inj i j hi hj h) ?start ?dst ?step ?done
              case start => exact ⟨(Below.refl _ _).drew, fun _ => rfl⟩
              case dst =>
                intro i o ho
                match i, ho with
                | 0, ho => cases ho; exact .inl rfl
                | 1, ho => cases ho; exact .inl rfl
                | 2, ho => cases ho; exact .inl rfl
                | 3, ho => cases ho; exact .inl rfl
                | 4, ho => cases ho; exact .inl rfl
                | 5, ho => cases ho; exact .inl rfl
                | 6, ho => cases ho; exact .inl rfl
                | 7, ho => cases ho; exact .inl rfl
                | 8, ho => cases ho; exact .inl rfl
                | 9, ho => cases ho; exact .inl rfl
                | 10, ho => cases ho; exact .inl rfl
                | 11, ho => cases ho; exact .inr rfl
                | 12, ho => cases ho; exact .inl rfl
                | 13, ho => cases ho; exact .inl rfl
                | n + 14, ho => exact absurd ho (by simp)
              case step =>
                intro f a' W i o ho hfi hpre hT hrest
                match i, ho with
                | 0, ho =>
                  cases ho
                  have q18 : a'.tmps.getD 18 undef = .pointer (some ⟨C, 0, none⟩) := (hrest 18 (ahNot18))
                  have c0 := (hT.bel.cell (p := ⟨C, 0, none⟩) HCL.out).trans HC0.out
                  have c1' := (hT.bel.cell (p := ⟨C, 1, none⟩) HCL.out).trans HC1.out
                  have c2' := (hT.bel.cell (p := ⟨C, 2, none⟩) HCL.out).trans HC2.out
                  have e18 := rg_ev q18
                  exact rg_same4 (.agg #[.int .i64 8192, .int .i64 65536, .int .i64 256]) (by unfold Oper.wp execOp; go_simp; all_goals ((try simp only [e18]); (try go_simp); (try rw [if_pos (by omega)]); (try rw [if_neg (by omega)]); first | done | rfl | exact ⟨rfl, rfl⟩ | trivial)) (by simp) rfl (hT.step 0 (by decide) hT.bel) (fun j v' h => ahF_up 0 (by decide) h)
                | 1, ho =>
                  cases ho
                  have q11 : a'.tmps.getD 11 undef = .slice (some ⟨g, 0, none⟩) q3 c3 := (hrest 11 (ahNot11))
                  have e11 := rg_ev q11
                  exact rg_same4 (.slice (some ⟨g, 0, none⟩) q3 c3) (by unfold Oper.wp execOp; go_simp; all_goals ((try simp only [e11]); (try go_simp); (try rw [if_pos (by omega)]); (try rw [if_neg (by omega)]); first | done | rfl | exact ⟨rfl, rfl⟩ | trivial)) (by simp) rfl (hT.step 1 (by decide) hT.bel) (fun j v' h => ahF_up 1 (by decide) h)
                | 2, ho =>
                  cases ho
                  have q19 : a'.tmps.getD 19 undef = .int .i64 k := (hrest 19 (ahNot19))
                  have e19 := rg_ev q19
                  exact rg_same4 (.int .i64 k) (by unfold Oper.wp execOp; go_simp; all_goals ((try simp only [e19]); (try go_simp); (try rw [if_pos (by omega)]); (try rw [if_neg (by omega)]); first | done | rfl | exact ⟨rfl, rfl⟩ | trivial)) (by simp) rfl (hT.step 2 (by decide) hT.bel) (fun j v' h => ahF_up 2 (by decide) h)
                | 3, ho =>
                  cases ho
                  have f84 := (hpre { on := 1, ground := .data } (by simp) rfl).1
                  have q84 : a'.tmps.getD 84 undef = .slice (some ⟨g, 0, none⟩) q3 c3 := (hpre { on := 1, ground := .data } (by simp) rfl).2
                  have f85 := (hpre { on := 2, ground := .data } (by simp) rfl).1
                  have q85 : a'.tmps.getD 85 undef = .int .i64 k := (hpre { on := 2, ground := .data } (by simp) rfl).2
                  have e84 := rg_ev q84
                  have e85 := rg_ev q85
                  exact rg_same4 (.pointer (some ⟨g, k, none⟩)) (by unfold Oper.wp execOp; go_simp; all_goals ((try simp only [e84, e85]); (try go_simp); (try rw [if_pos (by omega)]); (try rw [if_neg (by omega)]); first | done | rfl | exact ⟨rfl, rfl⟩ | trivial)) (by simp) rfl (hT.step 3 (by decide) hT.bel) (fun j v' h => ahF_up 3 (by decide) h)
                | 4, ho =>
                  cases ho
                  have f86 := (hpre { on := 3, ground := .data } (by simp) rfl).1
                  have q86 : a'.tmps.getD 86 undef = .pointer (some ⟨g, k, none⟩) := (hpre { on := 3, ground := .data } (by simp) rfl).2
                  have hcx := (hT.bel.cell (p := ⟨g, k, none⟩) (lt_of_cell HCX.out)).trans HCX.out
                  have e86 := rg_ev q86
                  exact rg_same4 (.slice a m dd) (by unfold Oper.wp execOp; go_simp; all_goals ((try simp only [e86]); (try go_simp); (try rw [if_pos (by omega)]); (try rw [if_neg (by omega)]); first | done | rfl | exact ⟨rfl, rfl⟩ | trivial)) (by simp) rfl (hT.step 4 (by decide) hT.bel) (fun j v' h => ahF_up 4 (by decide) h)
                | 5, ho =>
                  cases ho
                  have f83 := (hpre { on := 0, ground := .data } (by simp) rfl).1
                  have q83 : a'.tmps.getD 83 undef = .agg #[.int .i64 8192, .int .i64 65536, .int .i64 256] := (hpre { on := 0, ground := .data } (by simp) rfl).2
                  have f87 := (hpre { on := 4, ground := .data } (by simp) rfl).1
                  have q87 : a'.tmps.getD 87 undef = .slice a m dd := (hpre { on := 4, ground := .data } (by simp) rfl).2
                  exact rg_call2 83 87 19 _ _ _ _ rfl q83 q87 (enters_of Tryd.func19 (by kernel_rfl) rfl) (KO.out W hT.bel) (fun e w' h => by
                    obtain ⟨V, h1, h2, h3⟩ := h
                    exact ⟨_, h1, _, rfl, fun e => absurd e (by simp), ⟨V, rfl, h2⟩, hT.step 5 (by decide) (hT.bel.trans (h3.mono hT.bel.size)), fun j _ hF => ahF_up 5 (by decide) (ahF_below h3 hF)⟩)
                | 6, ho =>
                  cases ho
                  have f88 := (hpre { on := 5, ground := .data } (by simp) rfl).1
                  have h88 : ahF wr.heap.size g q3 c3 k a m dd n F fs f 5 W (a'.tmps.getD 88 undef) := (hpre { on := 5, ground := .data } (by simp) rfl).2
                  obtain ⟨V, e88a, hV⟩ := h88
                  have e88 := rg_ev e88a
                  exact rg_same4 (.tuple #[.agg #[Hp.sx F, V], .int .i64 n, .int .i64 0]) (by unfold Oper.wp execOp; go_simp; all_goals ((try simp only [e88]); (try go_simp); (try rw [if_pos (by omega)]); (try rw [if_neg (by omega)]); first | done | rfl | exact ⟨rfl, rfl⟩ | trivial)) (by simp) ⟨V, rfl, hV⟩ (hT.step 6 (by decide) hT.bel) (fun j v' h => ahF_up 6 (by decide) h)
                | 7, ho =>
                  cases ho
                  have f82 := (hpre { on := 6, ground := .data } (by simp) rfl).1
                  have h82 : ahF wr.heap.size g q3 c3 k a m dd n F fs f 6 W (a'.tmps.getD 82 undef) := (hpre { on := 6, ground := .data } (by simp) rfl).2
                  obtain ⟨V, e82a, hV⟩ := h82
                  have e82 := rg_ev e82a
                  exact rg_same4 (.agg #[Hp.sx F, V]) (by unfold Oper.wp execOp; go_simp; all_goals ((try simp only [e82]); (try go_simp); (try rw [if_pos (by omega)]); (try rw [if_neg (by omega)]); first | done | rfl | exact ⟨rfl, rfl⟩ | trivial)) (by simp) ⟨V, rfl, hV⟩ (hT.step 7 (by decide) hT.bel) (fun j v' h => ahF_up 7 (by decide) h)
                | 8, ho =>
                  cases ho
                  have f82 := (hpre { on := 6, ground := .data } (by simp) rfl).1
                  have h82 : ahF wr.heap.size g q3 c3 k a m dd n F fs f 6 W (a'.tmps.getD 82 undef) := (hpre { on := 6, ground := .data } (by simp) rfl).2
                  obtain ⟨V, e82a, hV⟩ := h82
                  have e82 := rg_ev e82a
                  exact rg_same4 (.int .i64 n) (by unfold Oper.wp execOp; go_simp; all_goals ((try simp only [e82]); (try go_simp); (try rw [if_pos (by omega)]); (try rw [if_neg (by omega)]); first | done | rfl | exact ⟨rfl, rfl⟩ | trivial)) (by simp) rfl (hT.step 8 (by decide) hT.bel) (fun j v' h => ahF_up 8 (by decide) h)
                | 9, ho =>
                  cases ho
                  have f82 := (hpre { on := 6, ground := .data } (by simp) rfl).1
                  have h82 : ahF wr.heap.size g q3 c3 k a m dd n F fs f 6 W (a'.tmps.getD 82 undef) := (hpre { on := 6, ground := .data } (by simp) rfl).2
                  obtain ⟨V, e82a, hV⟩ := h82
                  have e82 := rg_ev e82a
                  exact rg_same4 (.int .i64 0) (by unfold Oper.wp execOp; go_simp; all_goals ((try simp only [e82]); (try go_simp); (try rw [if_pos (by omega)]); (try rw [if_neg (by omega)]); first | done | rfl | exact ⟨rfl, rfl⟩ | trivial)) (by simp) rfl (hT.step 9 (by decide) hT.bel) (fun j v' h => ahF_up 9 (by decide) h)
                | 10, ho =>
                  cases ho
                  unfold Oper.wp execOp
                  go_simp
                  refine ⟨_, rfl, ⟨W.heap.size, rfl, hT.bel.size, fun _ => World.alloc_heap_new _ _, fun e => ?_⟩, ?_, fun j _ hF => ?_⟩
                  · exfalso
                    have h11 : f 11 = true := by simpa using e
                    rw [hT.n11 hfi] at h11; cases h11
                  · have h5 := hT.step 10 (by decide) (hT.bel.alloc hT.bel.size (.cells #[.string ⟨#[]⟩, .slice none 0 0] 45))
                    simpa using h5
                  · have h5 := ahF_up 10 (by decide) (ahF_below (w' := W.alloc (.cells #[.string ⟨#[]⟩, .slice none 0 0] 45)) ((Below.refl W.heap.size W).alloc (Nat.le_refl _) _) hF)
                    simpa using h5
                | 11, ho =>
                  cases ho
                  have f20 := (hpre { on := 10, ground := .data } (by simp) rfl).1
                  have h20 : ahF wr.heap.size g q3 c3 k a m dd n F fs f 10 W (a'.tmps.getD 20 undef) := (hpre { on := 10, ground := .data } (by simp) rfl).2
                  have f89 := (hpre { on := 7, ground := .data } (by simp) rfl).1
                  have h89 : ahF wr.heap.size g q3 c3 k a m dd n F fs f 7 W (a'.tmps.getD 89 undef) := (hpre { on := 7, ground := .data } (by simp) rfl).2
                  obtain ⟨b, e20a, hB, hz, _⟩ := h20
                  obtain ⟨V, e89a, hV⟩ := h89
                  have e20 := rg_ev e20a
                  have e89 := rg_ev e89a
                  have hb := hz hfi
                  have z0 : W.cell? ⟨b, 0, none⟩ = some (.string ⟨#[]⟩) := by simp [World.cell?, hb]
                  have z1 : W.cell? ⟨b, 1, none⟩ = some (.slice none 0 0) := by simp [World.cell?, hb]
                  have y0 : W.frozen? ⟨b, 0, none⟩ = false := frozen_of_row _ _ _ _ _ hb
                  have y1 : W.frozen? ⟨b, 1, none⟩ = false := frozen_of_row _ _ _ _ _ hb
                  obtain ⟨pV, cV, rfl⟩ := hV.slice
                  unfold Hp.sx at e89
                  have hbn := hT.bel.setCell (p := ⟨b, 0, none⟩) hB (.string ⟨F.toArray⟩) |>.setCell (p := ⟨b, 1, none⟩) hB (.slice pV fs.length cV)
                  have hgA := heap_setCell_same _ _ 0 _ _ (.string ⟨F.toArray⟩) hb
                  have hgB := heap_setCell_same _ _ 1 _ _ (.slice pV fs.length cV) hgA
                  have hvk := fun (U : Value) (L : List Hp.Hd) (h : HS W U L) => HS.head h hb (.string ⟨F.toArray⟩) (.slice pV fs.length cV)
                  have HVK := Lib.hid hvk
                  have HBN := Lib.hid hbn
                  have HGB := Lib.hid hgB
                  have HBB := Lib.hid hB
                  have H89 := Lib.hid e89a
                  have H20 := Lib.hid e20a
                  have HVW := Lib.hid hV
                  clear e89a e20a hz hbn hgA hgB hvk hV hB
                  unfold Oper.wp execOp
                  go_simp
                  refine ⟨trivial, ⟨HBN.out, fun e => by simp [f20] at e⟩, fun j hj hF => ?_⟩
                  match j, hF with
                  | 0, h | 1, h | 2, h | 3, h | 4, h | 8, h | 9, h | 12, h | 13, h => exact h
                  | 5, h => obtain ⟨U, h1, h2⟩ := h; exact ⟨U, h1, HVK.out _ _ h2⟩
                  | 6, h => obtain ⟨U, h1, h2⟩ := h; exact ⟨U, h1, HVK.out _ _ h2⟩
                  | 7, h => obtain ⟨U, h1, h2⟩ := h; exact ⟨U, h1, HVK.out _ _ h2⟩
                  | 10, _ => exact ⟨b, rg_ev H20.out, HBB.out, fun e => by simp at e, fun _ => ⟨_, HGB.out, HVK.out _ _ HVW.out⟩⟩
                  | 11, h => rw [hfi] at hj; cases hj
                  | n + 14, h => exact h.elim
                | 12, ho =>
                  cases ho
                  have f90 := (hpre { on := 8, ground := .data } (by simp) rfl).1
                  have q90 : a'.tmps.getD 90 undef = .int .i64 n := (hpre { on := 8, ground := .data } (by simp) rfl).2
                  have e90 := rg_ev q90
                  exact rg_same4 (.int .i64 n) (by unfold Oper.wp execOp; go_simp; all_goals ((try simp only [e90]); (try go_simp); (try rw [if_pos (by omega)]); (try rw [if_neg (by omega)]); first | done | rfl | exact ⟨rfl, rfl⟩ | trivial)) (by simp) rfl (hT.step 12 (by decide) hT.bel) (fun j v' h => ahF_up 12 (by decide) h)
                | 13, ho =>
                  cases ho
                  have f91 := (hpre { on := 9, ground := .data } (by simp) rfl).1
                  have q91 : a'.tmps.getD 91 undef = .int .i64 0 := (hpre { on := 9, ground := .data } (by simp) rfl).2
                  have e91 := rg_ev q91
                  exact rg_same4 (.int .i64 0) (by unfold Oper.wp execOp; go_simp; all_goals ((try simp only [e91]); (try go_simp); (try rw [if_pos (by omega)]); (try rw [if_neg (by omega)]); first | done | rfl | exact ⟨rfl, rfl⟩ | trivial)) (by simp) rfl (hT.step 13 (by decide) hT.bel) (fun j v' h => ahF_up 13 (by decide) h)
                | n + 14, ho => exact absurd ho (by simp)
              case done =>
                intro f vs W hall hT hvs
                have v0 : vs 0 = .agg #[.int .i64 8192, .int .i64 65536, .int .i64 256] := hvs 0 (by decide)
                have v1 : vs 1 = .slice (some ⟨g, 0, none⟩) q3 c3 := hvs 1 (by decide)
                have v2 : vs 2 = .int .i64 k := hvs 2 (by decide)
                have v3 : vs 3 = .pointer (some ⟨g, k, none⟩) := hvs 3 (by decide)
                have v4 : vs 4 = .slice a m dd := hvs 4 (by decide)
                obtain ⟨y5, v5, w5⟩ : ∃ z, vs 5 = z ∧ ahF wr.heap.size g q3 c3 k a m dd n F fs f 5 W z := ⟨_, rfl, hvs 5 (by decide)⟩
                obtain ⟨y6, v6, w6⟩ : ∃ z, vs 6 = z ∧ ahF wr.heap.size g q3 c3 k a m dd n F fs f 6 W z := ⟨_, rfl, hvs 6 (by decide)⟩
                obtain ⟨y7, v7, w7⟩ : ∃ z, vs 7 = z ∧ ahF wr.heap.size g q3 c3 k a m dd n F fs f 7 W z := ⟨_, rfl, hvs 7 (by decide)⟩
                have v8 : vs 8 = .int .i64 n := hvs 8 (by decide)
                have v9 : vs 9 = .int .i64 0 := hvs 9 (by decide)
                obtain ⟨y10, v10, w10⟩ : ∃ z, vs 10 = z ∧ ahF wr.heap.size g q3 c3 k a m dd n F fs f 10 W z := ⟨_, rfl, hvs 10 (by decide)⟩
                obtain ⟨y11, v11, w11⟩ : ∃ z, vs 11 = z ∧ ahF wr.heap.size g q3 c3 k a m dd n F fs f 11 W z := ⟨_, rfl, hvs 11 (by decide)⟩
                have v12 : vs 12 = .int .i64 n := hvs 12 (by decide)
                have v13 : vs 13 = .int .i64 0 := hvs 13 (by decide)
                have HTW := Lib.hid hT
                simp only [fillN, List.size_toArray, List.length_cons, List.length_nil, Nat.reduceAdd, show List.range 14 = [0, 1, 2, 3, 4, 5, 6, 7, 8, 9, 10, 11, 12, 13] from rfl, List.foldl_cons, List.foldl_nil, show ahSlot 0 = 83 from rfl, show ahSlot 1 = 84 from rfl, show ahSlot 2 = 85 from rfl, show ahSlot 3 = 86 from rfl, show ahSlot 4 = 87 from rfl, show ahSlot 5 = 88 from rfl, show ahSlot 6 = 82 from rfl, show ahSlot 7 = 89 from rfl, show ahSlot 8 = 90 from rfl, show ahSlot 9 = 91 from rfl, show ahSlot 10 = 20 from rfl, show ahSlot 11 = 92 from rfl, show ahSlot 12 = 21 from rfl, show ahSlot 13 = 22 from rfl, v0, v1, v2, v3, v4, v5, v6, v7, v8, v9, v10, v11, v12, v13]
                obtain ⟨b, rfl, hBb, _, hb⟩ := w10
                obtain ⟨V, hgb, hVV⟩ := hb (hall 11 (by decide))
                obtain ⟨_, rfl, _⟩ := w5
                obtain ⟨_, rfl, _⟩ := w6
                obtain ⟨_, rfl, _⟩ := w7
                clear v0 v1 v2 v3 v4 v5 v6 v7 v8 v9 v10 v11 v12 v13 hvs hT
                go_simp
                have hbw := HBL.out.trans (HTW.out.bel.mono HBL.out.size)
                have HBW := Lib.hid hbw
                obtain ⟨pV, cV, rfl⟩ := hVV.slice
                unfold Hp.sx at hgb
                obtain ⟨fb, hfb⟩ : ∃ z : ByteArray, (⟨F.toArray⟩ : ByteArray) = z := ⟨_, rfl⟩
                have HFB := Lib.hid hfb
                rw [hfb] at hgb
                have b0 : W.cell? ⟨b, 0, none⟩ = some (.string fb) := by simp [World.cell?, hgb]
                have b1 : W.cell? ⟨b, 1, none⟩ = some (.slice pV fs.length cV) := by simp [World.cell?, hgb]
                have HVV := Lib.hid hVV
                obtain ⟨db, hdb⟩ : ∃ z, bx (Dp.digs 10 (l.length - n)) = z := ⟨_, rfl⟩
                have HDB := Lib.hid hdb
                have KG := Lib.hid (show Calls Tryd.prog 20 #[.agg #[.string fb, .slice pV fs.length cV], .string (bx Hp.cl)] W fun e w' => e = .returned (.tuple #[.string db, .int .i64 1]) ∧ Below W.heap.size W w' from by
                  have h := ref_Get F Hp.cl (.slice pV fs.length cV) fs W HVV.out hfl HFS.out (by decide)
                  rw [HGET.out] at h
                  unfold Hp.sx at h
                  rw [hfb, hdb] at h
                  exact h)
                clear hdb
                clear hbw hfb hgb hVV
                go_wp2_with fail
                refine KG.out.mono ?_
                rintro e w6 ⟨rfl, hb6⟩
                have HBX := Lib.hid (HTW.out.bel.trans (hb6.mono HTW.out.bel.size))
                have HBY := Lib.hid (HBW.out.trans (hb6.mono HBW.out.size))
                have hg6 := (HBX.out.block C HCL.out).trans HGC.out
                have HG6 := Lib.hid hg6
                have HO6 := Lib.hid (own_below HOW.out HBX.out)
                have HBR6 := Lib.hid (HBRW.out.below HBX.out)
                have hcx6 := (HBX.out.cell (p := ⟨g, k, none⟩) (lt_of_cell HCX.out)).trans HCX.out
                have HCX6 := Lib.hid hcx6
                obtain ⟨ga, oa, ha, hcel⟩ : ∃ ga oa, a = some ⟨ga, oa, none⟩ ∧ ∀ j, j < l.length → w6.cell? ⟨ga, oa + j, none⟩ = some (by8 (l.getD j 0)) := by
                  obtain ⟨ao, cap, h, _, h2⟩ := HBR6.out
                  cases h
                  rcases h2 with ⟨_, h, _⟩ | ⟨ga, oa, h, h3⟩
                  · rw [h] at hnl; simp at hnl
                  · exact ⟨ga, oa, h, h3⟩
                subst ha
                obtain ⟨D, hD⟩ : ∃ D, l.length - n = D := ⟨_, rfl⟩
                obtain ⟨E, hE⟩ : ∃ E, l.length - 1 = E := ⟨_, rfl⟩
                have hD2 : n + D = m := by rw [HM.out]; omega
                have hE2 : E + 1 = m := by rw [HM.out]; omega
                have hm8 : m ≤ 80000 := by rw [HM.out]; exact hsh
                have HCB := Lib.hid (show w6.cell? ⟨ga, oa + E, none⟩ = some (.int .u8 10) by
                  have h := hcel E (by omega)
                  have h2 := HLAST.out
                  rw [hE] at h2
                  rw [h2] at h
                  exact h)
                have HEW := Lib.hid (show IntKind.i64.wrap ((m : Int) - (n : Int)) = (D : Int) by rw [IntKind.wrap_i64]; omega)
                have HEU := Lib.hid (show IntKind.u64.wrap (D : Int) = (D : Int) by rw [IntKind.wrap_u64]; omega)
                have HEV := Lib.hid (show IntKind.i64.wrap ((m : Int) - 1) = (E : Int) by rw [IntKind.wrap_i64]; omega)
                have KT := Lib.hid (show ∀ W, Calls Tryd.prog 21 #[.int .u64 (D : Int)] W fun e w' => e = .returned (.string db) ∧ W = w' from fun W => by
                  have h := ref_text D (by omega) W
                  rw [← HDB.out, hD]
                  exact h)
                have HCL6 := Lib.hid (show C < w6.heap.size from Nat.lt_of_lt_of_le HCL.out HBX.out.size)
                clear hb6 b0 b1 hg6 hcx6 hcel hD hE hsh hnl
                go_wp2_with fail
                refine region_slotsG (fun i => 97 + min i 33) (aiF g k q3 c3 ga oa m dd n D E db) (fun _ => true) (by kernel_rfl) (by kernel_rfl) (fun i => by show 97 + min i 33 < _; simp; omega) (fun i j hi hj h => by have hi : i < 34 := hi; have hj : j < 34 := hj; omega) ?mono ?dst ?gu ?ng ?skip ?step ?done
                case mono =>
                  intro i W W' v h hbw
                  match i, h with
                  | 0, h | 1, h | 2, h | 3, h | 4, h | 5, h | 6, h | 7, h | 8, h | 9, h | 10, h | 11, h | 12, h | 13, h | 14, h | 15, h | 16, h | 17, h | 18, h | 19, h | 20, h | 21, h | 22, h | 23, h | 24, h | 25, h | 26, h | 27, h | 28, h | 29, h | 30, h | 31, h | 32, h | 33, h => exact h
                  | n + 34, h => exact h.elim
                case dst =>
                  intro i o ho
                  match i, ho with
                  | 0, ho | 1, ho | 2, ho | 3, ho | 4, ho | 5, ho | 6, ho | 7, ho | 8, ho | 9, ho | 10, ho | 11, ho | 12, ho | 13, ho | 14, ho | 15, ho | 16, ho | 17, ho | 18, ho | 19, ho | 20, ho | 21, ho | 22, ho | 23, ho | 24, ho | 25, ho | 26, ho | 27, ho | 28, ho | 29, ho | 30, ho | 31, ho | 32, ho | 33, ho => cases ho; rfl
                  | n + 34, ho => exact absurd ho (by simp)
                case gu =>
                  intro i o g b ho hgd W v hv
                  match i, ho with
                  | 0, ho => cases ho; cases hgd
                  | 1, ho => cases ho; cases hgd
                  | 2, ho => cases ho; cases hgd
                  | 3, ho => cases ho; cases hgd; exact hv
                  | 4, ho => cases ho; cases hgd; exact hv
                  | 5, ho => cases ho; cases hgd
                  | 6, ho => cases ho; cases hgd
                  | 7, ho => cases ho; cases hgd; exact hv
                  | 8, ho => cases ho; cases hgd; exact hv
                  | 9, ho => cases ho; cases hgd; exact hv
                  | 10, ho => cases ho; cases hgd; exact hv
                  | 11, ho => cases ho; cases hgd; exact hv
                  | 12, ho => cases ho; cases hgd; exact hv
                  | 13, ho => cases ho; cases hgd; exact hv
                  | 14, ho => cases ho; cases hgd; exact hv
                  | 15, ho => cases ho; cases hgd; exact hv
                  | 16, ho => cases ho; cases hgd; exact hv
                  | 17, ho => cases ho; cases hgd; exact hv
                  | 18, ho => cases ho; cases hgd
                  | 19, ho => cases ho; cases hgd
                  | 20, ho => cases ho; cases hgd; exact hv
                  | 21, ho => cases ho; cases hgd; exact hv
                  | 22, ho => cases ho; cases hgd; exact hv
                  | 23, ho => cases ho; cases hgd; exact hv
                  | 24, ho => cases ho; cases hgd; exact hv
                  | 25, ho => cases ho; cases hgd; exact hv
                  | 26, ho => cases ho; cases hgd; exact hv
                  | 27, ho => cases ho; cases hgd; exact hv
                  | 28, ho => cases ho; cases hgd; exact hv
                  | 29, ho => cases ho; cases hgd; exact hv
                  | 30, ho => cases ho; cases hgd; exact hv
                  | 31, ho => cases ho; cases hgd; exact hv
                  | 32, ho => cases ho; cases hgd; exact hv
                  | 33, ho => cases ho; cases hgd
                  | n + 34, ho => exact absurd ho (by simp)
                case ng =>
                  intro i o ho hgd
                  match i, ho with
                  | 0, ho => cases ho; first | rfl | cases hgd
                  | 1, ho => cases ho; first | rfl | cases hgd
                  | 2, ho => cases ho; first | rfl | cases hgd
                  | 3, ho => cases ho; first | rfl | cases hgd
                  | 4, ho => cases ho; first | rfl | cases hgd
                  | 5, ho => cases ho; first | rfl | cases hgd
                  | 6, ho => cases ho; first | rfl | cases hgd
                  | 7, ho => cases ho; first | rfl | cases hgd
                  | 8, ho => cases ho; first | rfl | cases hgd
                  | 9, ho => cases ho; first | rfl | cases hgd
                  | 10, ho => cases ho; first | rfl | cases hgd
                  | 11, ho => cases ho; first | rfl | cases hgd
                  | 12, ho => cases ho; first | rfl | cases hgd
                  | 13, ho => cases ho; first | rfl | cases hgd
                  | 14, ho => cases ho; first | rfl | cases hgd
                  | 15, ho => cases ho; first | rfl | cases hgd
                  | 16, ho => cases ho; first | rfl | cases hgd
                  | 17, ho => cases ho; first | rfl | cases hgd
                  | 18, ho => cases ho; first | rfl | cases hgd
                  | 19, ho => cases ho; first | rfl | cases hgd
                  | 20, ho => cases ho; first | rfl | cases hgd
                  | 21, ho => cases ho; first | rfl | cases hgd
                  | 22, ho => cases ho; first | rfl | cases hgd
                  | 23, ho => cases ho; first | rfl | cases hgd
                  | 24, ho => cases ho; first | rfl | cases hgd
                  | 25, ho => cases ho; first | rfl | cases hgd
                  | 26, ho => cases ho; first | rfl | cases hgd
                  | 27, ho => cases ho; first | rfl | cases hgd
                  | 28, ho => cases ho; first | rfl | cases hgd
                  | 29, ho => cases ho; first | rfl | cases hgd
                  | 30, ho => cases ho; first | rfl | cases hgd
                  | 31, ho => cases ho; first | rfl | cases hgd
                  | 32, ho => cases ho; first | rfl | cases hgd
                  | 33, ho => cases ho; first | rfl | cases hgd
                  | n + 34, ho => exact absurd ho (by simp)
                case skip =>
                  intro i W hi hsel
                  match i, hi, hsel with
                  | 0, _, hsel => first | exact absurd hsel (by decide) | rfl
                  | 1, _, hsel => first | exact absurd hsel (by decide) | rfl
                  | 2, _, hsel => first | exact absurd hsel (by decide) | rfl
                  | 3, _, hsel => first | exact absurd hsel (by decide) | rfl
                  | 4, _, hsel => first | exact absurd hsel (by decide) | rfl
                  | 5, _, hsel => first | exact absurd hsel (by decide) | rfl
                  | 6, _, hsel => first | exact absurd hsel (by decide) | rfl
                  | 7, _, hsel => first | exact absurd hsel (by decide) | rfl
                  | 8, _, hsel => first | exact absurd hsel (by decide) | rfl
                  | 9, _, hsel => first | exact absurd hsel (by decide) | rfl
                  | 10, _, hsel => first | exact absurd hsel (by decide) | rfl
                  | 11, _, hsel => first | exact absurd hsel (by decide) | rfl
                  | 12, _, hsel => first | exact absurd hsel (by decide) | rfl
                  | 13, _, hsel => first | exact absurd hsel (by decide) | rfl
                  | 14, _, hsel => first | exact absurd hsel (by decide) | rfl
                  | 15, _, hsel => first | exact absurd hsel (by decide) | rfl
                  | 16, _, hsel => first | exact absurd hsel (by decide) | rfl
                  | 17, _, hsel => first | exact absurd hsel (by decide) | rfl
                  | 18, _, hsel => first | exact absurd hsel (by decide) | rfl
                  | 19, _, hsel => first | exact absurd hsel (by decide) | rfl
                  | 20, _, hsel => first | exact absurd hsel (by decide) | rfl
                  | 21, _, hsel => first | exact absurd hsel (by decide) | rfl
                  | 22, _, hsel => first | exact absurd hsel (by decide) | rfl
                  | 23, _, hsel => first | exact absurd hsel (by decide) | rfl
                  | 24, _, hsel => first | exact absurd hsel (by decide) | rfl
                  | 25, _, hsel => first | exact absurd hsel (by decide) | rfl
                  | 26, _, hsel => first | exact absurd hsel (by decide) | rfl
                  | 27, _, hsel => first | exact absurd hsel (by decide) | rfl
                  | 28, _, hsel => first | exact absurd hsel (by decide) | rfl
                  | 29, _, hsel => first | exact absurd hsel (by decide) | rfl
                  | 30, _, hsel => first | exact absurd hsel (by decide) | rfl
                  | 31, _, hsel => first | exact absurd hsel (by decide) | rfl
                  | 32, _, hsel => first | exact absurd hsel (by decide) | rfl
                  | 33, _, hsel => first | exact absurd hsel (by decide) | rfl
                  | n + 34, hi, _ => exact absurd hi (by simp)
                case step =>
                  intro f a' W i o ho hsel hpre hbel hrest
                  match i, ho, hsel with
                  | 0, ho, _ =>
                    cases ho
                    have q22 : a'.tmps.getD 22 undef = .int .i64 0 := (hrest 22 (by intro i hi; have hi : i < 34 := hi; show 97 + min i 33 ≠ _; omega))
                    have e22 := rg_ev q22
                    exact rg_same (.int .i64 0) (by unfold Oper.wp execOp; go_simp; all_goals ((try simp only [e22]); (try go_simp); (try rw [if_pos (by omega)]); (try rw [if_neg (by omega)]); first | done | rfl | exact ⟨rfl, rfl⟩ | trivial)) rfl
                  | 1, ho, _ =>
                    cases ho
                    have q97 : a'.tmps.getD 97 undef = .int .i64 0 := (hpre { on := 0, ground := .data } (by simp) rfl)
                    have e97 := rg_ev q97
                    exact rg_same (.bool false) (by unfold Oper.wp execOp; go_simp; all_goals ((try simp only [e97]); (try go_simp); (try rw [if_pos (by omega)]); (try rw [if_neg (by omega)]); first | done | rfl | exact ⟨rfl, rfl⟩ | trivial)) rfl
                  | 2, ho, _ =>
                    cases ho
                    have q98 : a'.tmps.getD 98 undef = .bool false := (hpre { on := 1, ground := .data } (by simp) rfl)
                    have e98 := rg_ev q98
                    exact rg_same (.bool false) (by unfold Oper.wp execOp; go_simp; all_goals ((try simp only [e98]); (try go_simp); (try rw [if_pos (by omega)]); (try rw [if_neg (by omega)]); first | done | rfl | exact ⟨rfl, rfl⟩ | trivial)) rfl
                  | 3, ho, _ =>
                    cases ho
                    have q24 : a'.tmps.getD 24 undef = .int .i64 1 := (hrest 24 (by intro i hi; have hi : i < 34 := hi; show 97 + min i 33 ≠ _; omega))
                    have e24 := rg_ev q24
                    exact rg_same (.int .i64 1) (by unfold Oper.wp execOp; go_simp; all_goals ((try simp only [e24]); (try go_simp); (try rw [if_pos (by omega)]); (try rw [if_neg (by omega)]); first | done | rfl | exact ⟨rfl, rfl⟩ | trivial)) rfl
                  | 4, ho, _ =>
                    cases ho
                    have q100 : a'.tmps.getD 100 undef = .int .i64 1 := (hpre { on := 3, ground := .data } (by simp) rfl)
                    have e100 := rg_ev q100
                    exact rg_same (.bool false) (by unfold Oper.wp execOp; go_simp; all_goals ((try simp only [e100]); (try go_simp); (try rw [if_pos (by omega)]); (try rw [if_neg (by omega)]); first | done | rfl | exact ⟨rfl, rfl⟩ | trivial)) rfl
                  | 5, ho, _ =>
                    cases ho
                    have q99 : a'.tmps.getD 99 undef = .bool false := (hpre { on := 2, ground := .data } (by simp) rfl)
                    have q101 : a'.tmps.getD 101 undef = .bool false := (hpre { on := 4, ground := .data } (by simp) rfl)
                    have e99 := rg_ev q99
                    have e101 := rg_ev q101
                    exact rg_same (.bool false) (by unfold Oper.wp execOp; go_simp; all_goals ((try simp only [e99, e101]); (try go_simp); (try rw [if_pos (by omega)]); (try rw [if_neg (by omega)]); first | done | rfl | exact ⟨rfl, rfl⟩ | trivial)) rfl
                  | 6, ho, _ =>
                    cases ho
                    have q102 : a'.tmps.getD 102 undef = .bool false := (hpre { on := 5, ground := .data } (by simp) rfl)
                    have e102 := rg_ev q102
                    exact rg_same (.bool false) (by unfold Oper.wp execOp; go_simp; all_goals ((try simp only [e102]); (try go_simp); (try rw [if_pos (by omega)]); (try rw [if_neg (by omega)]); first | done | rfl | exact ⟨rfl, rfl⟩ | trivial)) rfl
                  | 7, ho, _ =>
                    cases ho
                    have q23 : a'.tmps.getD 23 undef = .string db := (hrest 23 (by intro i hi; have hi : i < 34 := hi; show 97 + min i 33 ≠ _; omega))
                    have e23 := rg_ev q23
                    exact rg_same (.string db) (by unfold Oper.wp execOp; go_simp; all_goals ((try simp only [e23]); (try go_simp); (try rw [if_pos (by omega)]); (try rw [if_neg (by omega)]); first | done | rfl | exact ⟨rfl, rfl⟩ | trivial)) rfl
                  | 8, ho, _ =>
                    cases ho
                    have q11 : a'.tmps.getD 11 undef = .slice (some ⟨g, 0, none⟩) q3 c3 := (hrest 11 (by intro i hi; have hi : i < 34 := hi; show 97 + min i 33 ≠ _; omega))
                    have e11 := rg_ev q11
                    exact rg_same (.slice (some ⟨g, 0, none⟩) q3 c3) (by unfold Oper.wp execOp; go_simp; all_goals ((try simp only [e11]); (try go_simp); (try rw [if_pos (by omega)]); (try rw [if_neg (by omega)]); first | done | rfl | exact ⟨rfl, rfl⟩ | trivial)) rfl
                  | 9, ho, _ =>
                    cases ho
                    have q19 : a'.tmps.getD 19 undef = .int .i64 k := (hrest 19 (by intro i hi; have hi : i < 34 := hi; show 97 + min i 33 ≠ _; omega))
                    have e19 := rg_ev q19
                    exact rg_same (.int .i64 k) (by unfold Oper.wp execOp; go_simp; all_goals ((try simp only [e19]); (try go_simp); (try rw [if_pos (by omega)]); (try rw [if_neg (by omega)]); first | done | rfl | exact ⟨rfl, rfl⟩ | trivial)) rfl
                  | 10, ho, _ =>
                    cases ho
                    have q105 : a'.tmps.getD 105 undef = .slice (some ⟨g, 0, none⟩) q3 c3 := (hpre { on := 8, ground := .data } (by simp) rfl)
                    have q106 : a'.tmps.getD 106 undef = .int .i64 k := (hpre { on := 9, ground := .data } (by simp) rfl)
                    have e105 := rg_ev q105
                    have e106 := rg_ev q106
                    exact rg_same (.pointer (some ⟨g, k, none⟩)) (by unfold Oper.wp execOp; go_simp; all_goals ((try simp only [e105, e106]); (try go_simp); (try rw [if_pos (by omega)]); (try rw [if_neg (by omega)]); first | done | rfl | exact ⟨rfl, rfl⟩ | trivial)) rfl
                  | 11, ho, _ =>
                    cases ho
                    have q107 : a'.tmps.getD 107 undef = .pointer (some ⟨g, k, none⟩) := (hpre { on := 10, ground := .data } (by simp) rfl)
                    have hcx := (hbel.cell (p := ⟨g, k, none⟩) (lt_of_cell HCX6.out)).trans HCX6.out
                    have e107 := rg_ev q107
                    exact rg_same (.slice (some ⟨ga, oa, none⟩) m dd) (by unfold Oper.wp execOp; go_simp; all_goals ((try simp only [e107]); (try go_simp); (try rw [if_pos (by omega)]); (try rw [if_neg (by omega)]); first | done | rfl | exact ⟨rfl, rfl⟩ | trivial)) rfl
                  | 12, ho, _ =>
                    cases ho
                    have q108 : a'.tmps.getD 108 undef = .slice (some ⟨ga, oa, none⟩) m dd := (hpre { on := 11, ground := .data } (by simp) rfl)
                    have e108 := rg_ev q108
                    exact rg_same (.int .i64 m) (by unfold Oper.wp execOp; go_simp; all_goals ((try simp only [e108]); (try go_simp); (try rw [if_pos (by omega)]); (try rw [if_neg (by omega)]); first | done | rfl | exact ⟨rfl, rfl⟩ | trivial)) rfl
                  | 13, ho, _ =>
                    cases ho
                    have q21 : a'.tmps.getD 21 undef = .int .i64 n := (hrest 21 (by intro i hi; have hi : i < 34 := hi; show 97 + min i 33 ≠ _; omega))
                    have e21 := rg_ev q21
                    exact rg_same (.int .i64 n) (by unfold Oper.wp execOp; go_simp; all_goals ((try simp only [e21]); (try go_simp); (try rw [if_pos (by omega)]); (try rw [if_neg (by omega)]); first | done | rfl | exact ⟨rfl, rfl⟩ | trivial)) rfl
                  | 14, ho, _ =>
                    cases ho
                    have q109 : a'.tmps.getD 109 undef = .int .i64 m := (hpre { on := 12, ground := .data } (by simp) rfl)
                    have q110 : a'.tmps.getD 110 undef = .int .i64 n := (hpre { on := 13, ground := .data } (by simp) rfl)
                    have eW := HEW.out
                    have e109 := rg_ev q109
                    have e110 := rg_ev q110
                    exact rg_same (.int .i64 D) (by unfold Oper.wp execOp; go_simp; all_goals ((try simp only [e109, e110]); (try go_simp); (try rw [if_pos (by omega)]); (try rw [if_neg (by omega)]); first | done | rfl | exact ⟨rfl, rfl⟩ | trivial)) rfl
                  | 15, ho, _ =>
                    cases ho
                    have q111 : a'.tmps.getD 111 undef = .int .i64 D := (hpre { on := 14, ground := .data } (by simp) rfl)
                    have eU := HEU.out
                    have e111 := rg_ev q111
                    exact rg_same (.int .u64 D) (by unfold Oper.wp execOp; go_simp; all_goals ((try simp only [e111]); (try go_simp); (try rw [if_pos (by omega)]); (try rw [if_neg (by omega)]); first | done | rfl | exact ⟨rfl, rfl⟩ | trivial)) rfl
                  | 16, ho, _ =>
                    cases ho
                    have q112 : a'.tmps.getD 112 undef = .int .u64 D := (hpre { on := 15, ground := .data } (by simp) rfl)
                    exact rg_call 112 21 _ _ _ rfl q112 (enters_of Tryd.func21 (by kernel_rfl) rfl) (KT.out W) (fun e w' h => ⟨_, h.1, _, rfl, rfl, by rw [← h.2]; exact Below.refl _ _⟩)
                  | 17, ho, _ =>
                    cases ho
                    have q104 : a'.tmps.getD 104 undef = .string db := (hpre { on := 7, ground := .data } (by simp) rfl)
                    have q113 : a'.tmps.getD 113 undef = .string db := (hpre { on := 16, ground := .data } (by simp) rfl)
                    have hnn : (db.toList == db.toList) = true := beq_self_eq_true _
                    have e104 := rg_ev q104
                    have e113 := rg_ev q113
                    exact rg_same (.bool false) (by unfold Oper.wp execOp; go_simp; all_goals ((try simp only [e104, e113]); (try go_simp); (try rw [if_pos (by omega)]); (try rw [if_neg (by omega)]); first | done | rfl | exact ⟨rfl, rfl⟩ | trivial)) rfl
                  | 18, ho, _ =>
                    cases ho
                    have q103 : a'.tmps.getD 103 undef = .bool false := (hpre { on := 6, ground := .data } (by simp) rfl)
                    have q114 : a'.tmps.getD 114 undef = .bool false := (hpre { on := 17, ground := .data } (by simp) rfl)
                    have e103 := rg_ev q103
                    have e114 := rg_ev q114
                    exact rg_same (.bool false) (by unfold Oper.wp execOp; go_simp; all_goals ((try simp only [e103, e114]); (try go_simp); (try rw [if_pos (by omega)]); (try rw [if_neg (by omega)]); first | done | rfl | exact ⟨rfl, rfl⟩ | trivial)) rfl
                  | 19, ho, _ =>
                    cases ho
                    have q115 : a'.tmps.getD 115 undef = .bool false := (hpre { on := 18, ground := .data } (by simp) rfl)
                    have e115 := rg_ev q115
                    exact rg_same (.bool false) (by unfold Oper.wp execOp; go_simp; all_goals ((try simp only [e115]); (try go_simp); (try rw [if_pos (by omega)]); (try rw [if_neg (by omega)]); first | done | rfl | exact ⟨rfl, rfl⟩ | trivial)) rfl
                  | 20, ho, _ =>
                    cases ho
                    have q11 : a'.tmps.getD 11 undef = .slice (some ⟨g, 0, none⟩) q3 c3 := (hrest 11 (by intro i hi; have hi : i < 34 := hi; show 97 + min i 33 ≠ _; omega))
                    have e11 := rg_ev q11
                    exact rg_same (.slice (some ⟨g, 0, none⟩) q3 c3) (by unfold Oper.wp execOp; go_simp; all_goals ((try simp only [e11]); (try go_simp); (try rw [if_pos (by omega)]); (try rw [if_neg (by omega)]); first | done | rfl | exact ⟨rfl, rfl⟩ | trivial)) rfl
                  | 21, ho, _ =>
                    cases ho
                    have q19 : a'.tmps.getD 19 undef = .int .i64 k := (hrest 19 (by intro i hi; have hi : i < 34 := hi; show 97 + min i 33 ≠ _; omega))
                    have e19 := rg_ev q19
                    exact rg_same (.int .i64 k) (by unfold Oper.wp execOp; go_simp; all_goals ((try simp only [e19]); (try go_simp); (try rw [if_pos (by omega)]); (try rw [if_neg (by omega)]); first | done | rfl | exact ⟨rfl, rfl⟩ | trivial)) rfl
                  | 22, ho, _ =>
                    cases ho
                    have q117 : a'.tmps.getD 117 undef = .slice (some ⟨g, 0, none⟩) q3 c3 := (hpre { on := 20, ground := .data } (by simp) rfl)
                    have q118 : a'.tmps.getD 118 undef = .int .i64 k := (hpre { on := 21, ground := .data } (by simp) rfl)
                    have e117 := rg_ev q117
                    have e118 := rg_ev q118
                    exact rg_same (.pointer (some ⟨g, k, none⟩)) (by unfold Oper.wp execOp; go_simp; all_goals ((try simp only [e117, e118]); (try go_simp); (try rw [if_pos (by omega)]); (try rw [if_neg (by omega)]); first | done | rfl | exact ⟨rfl, rfl⟩ | trivial)) rfl
                  | 23, ho, _ =>
                    cases ho
                    have q119 : a'.tmps.getD 119 undef = .pointer (some ⟨g, k, none⟩) := (hpre { on := 22, ground := .data } (by simp) rfl)
                    have hcx := (hbel.cell (p := ⟨g, k, none⟩) (lt_of_cell HCX6.out)).trans HCX6.out
                    have e119 := rg_ev q119
                    exact rg_same (.slice (some ⟨ga, oa, none⟩) m dd) (by unfold Oper.wp execOp; go_simp; all_goals ((try simp only [e119]); (try go_simp); (try rw [if_pos (by omega)]); (try rw [if_neg (by omega)]); first | done | rfl | exact ⟨rfl, rfl⟩ | trivial)) rfl
                  | 24, ho, _ =>
                    cases ho
                    have q11 : a'.tmps.getD 11 undef = .slice (some ⟨g, 0, none⟩) q3 c3 := (hrest 11 (by intro i hi; have hi : i < 34 := hi; show 97 + min i 33 ≠ _; omega))
                    have e11 := rg_ev q11
                    exact rg_same (.slice (some ⟨g, 0, none⟩) q3 c3) (by unfold Oper.wp execOp; go_simp; all_goals ((try simp only [e11]); (try go_simp); (try rw [if_pos (by omega)]); (try rw [if_neg (by omega)]); first | done | rfl | exact ⟨rfl, rfl⟩ | trivial)) rfl
                  | 25, ho, _ =>
                    cases ho
                    have q19 : a'.tmps.getD 19 undef = .int .i64 k := (hrest 19 (by intro i hi; have hi : i < 34 := hi; show 97 + min i 33 ≠ _; omega))
                    have e19 := rg_ev q19
                    exact rg_same (.int .i64 k) (by unfold Oper.wp execOp; go_simp; all_goals ((try simp only [e19]); (try go_simp); (try rw [if_pos (by omega)]); (try rw [if_neg (by omega)]); first | done | rfl | exact ⟨rfl, rfl⟩ | trivial)) rfl
                  | 26, ho, _ =>
                    cases ho
                    have q121 : a'.tmps.getD 121 undef = .slice (some ⟨g, 0, none⟩) q3 c3 := (hpre { on := 24, ground := .data } (by simp) rfl)
                    have q122 : a'.tmps.getD 122 undef = .int .i64 k := (hpre { on := 25, ground := .data } (by simp) rfl)
                    have e121 := rg_ev q121
                    have e122 := rg_ev q122
                    exact rg_same (.pointer (some ⟨g, k, none⟩)) (by unfold Oper.wp execOp; go_simp; all_goals ((try simp only [e121, e122]); (try go_simp); (try rw [if_pos (by omega)]); (try rw [if_neg (by omega)]); first | done | rfl | exact ⟨rfl, rfl⟩ | trivial)) rfl
                  | 27, ho, _ =>
                    cases ho
                    have q123 : a'.tmps.getD 123 undef = .pointer (some ⟨g, k, none⟩) := (hpre { on := 26, ground := .data } (by simp) rfl)
                    have hcx := (hbel.cell (p := ⟨g, k, none⟩) (lt_of_cell HCX6.out)).trans HCX6.out
                    have e123 := rg_ev q123
                    exact rg_same (.slice (some ⟨ga, oa, none⟩) m dd) (by unfold Oper.wp execOp; go_simp; all_goals ((try simp only [e123]); (try go_simp); (try rw [if_pos (by omega)]); (try rw [if_neg (by omega)]); first | done | rfl | exact ⟨rfl, rfl⟩ | trivial)) rfl
                  | 28, ho, _ =>
                    cases ho
                    have q124 : a'.tmps.getD 124 undef = .slice (some ⟨ga, oa, none⟩) m dd := (hpre { on := 27, ground := .data } (by simp) rfl)
                    have e124 := rg_ev q124
                    exact rg_same (.int .i64 m) (by unfold Oper.wp execOp; go_simp; all_goals ((try simp only [e124]); (try go_simp); (try rw [if_pos (by omega)]); (try rw [if_neg (by omega)]); first | done | rfl | exact ⟨rfl, rfl⟩ | trivial)) rfl
                  | 29, ho, _ =>
                    cases ho
                    have q125 : a'.tmps.getD 125 undef = .int .i64 m := (hpre { on := 28, ground := .data } (by simp) rfl)
                    have eV := HEV.out
                    have e125 := rg_ev q125
                    exact rg_same (.int .i64 E) (by unfold Oper.wp execOp; go_simp; all_goals ((try simp only [e125]); (try go_simp); (try rw [if_pos (by omega)]); (try rw [if_neg (by omega)]); first | done | rfl | exact ⟨rfl, rfl⟩ | trivial)) rfl
                  | 30, ho, _ =>
                    cases ho
                    have q120 : a'.tmps.getD 120 undef = .slice (some ⟨ga, oa, none⟩) m dd := (hpre { on := 23, ground := .data } (by simp) rfl)
                    have q126 : a'.tmps.getD 126 undef = .int .i64 E := (hpre { on := 29, ground := .data } (by simp) rfl)
                    have e120 := rg_ev q120
                    have e126 := rg_ev q126
                    exact rg_same (.pointer (some ⟨ga, oa + E, none⟩)) (by unfold Oper.wp execOp; go_simp; all_goals ((try simp only [e120, e126]); (try go_simp); (try rw [if_pos (by omega)]); (try rw [if_neg (by omega)]); first | done | rfl | exact ⟨rfl, rfl⟩ | trivial)) rfl
                  | 31, ho, _ =>
                    cases ho
                    have q127 : a'.tmps.getD 127 undef = .pointer (some ⟨ga, oa + E, none⟩) := (hpre { on := 30, ground := .data } (by simp) rfl)
                    have hcb := (hbel.cell (p := ⟨ga, oa + E, none⟩) (lt_of_cell HCB.out)).trans HCB.out
                    have e127 := rg_ev q127
                    exact rg_same (.int .u8 10) (by unfold Oper.wp execOp; go_simp; all_goals ((try simp only [e127]); (try go_simp); (try rw [if_pos (by omega)]); (try rw [if_neg (by omega)]); first | done | rfl | exact ⟨rfl, rfl⟩ | trivial)) rfl
                  | 32, ho, _ =>
                    cases ho
                    have q128 : a'.tmps.getD 128 undef = .int .u8 10 := (hpre { on := 31, ground := .data } (by simp) rfl)
                    have e128 := rg_ev q128
                    exact rg_same (.bool false) (by unfold Oper.wp execOp; go_simp; all_goals ((try simp only [e128]); (try go_simp); (try rw [if_pos (by omega)]); (try rw [if_neg (by omega)]); first | done | rfl | exact ⟨rfl, rfl⟩ | trivial)) rfl
                  | 33, ho, _ =>
                    cases ho
                    have q116 : a'.tmps.getD 116 undef = .bool false := (hpre { on := 19, ground := .data } (by simp) rfl)
                    have q129 : a'.tmps.getD 129 undef = .bool false := (hpre { on := 32, ground := .data } (by simp) rfl)
                    have e116 := rg_ev q116
                    have e129 := rg_ev q129
                    exact rg_same (.bool false) (by unfold Oper.wp execOp; go_simp; all_goals ((try simp only [e116, e129]); (try go_simp); (try rw [if_pos (by omega)]); (try rw [if_neg (by omega)]); first | done | rfl | exact ⟨rfl, rfl⟩ | trivial)) rfl
                  | n + 34, ho, _ => exact absurd ho (by simp)
                case done =>
                  intro vs W hbel hvs
                  have v0 : vs 0 = .int .i64 0 := hvs 0 (by decide)
                  have v1 : vs 1 = .bool false := hvs 1 (by decide)
                  have v2 : vs 2 = .bool false := hvs 2 (by decide)
                  have v3 : vs 3 = .int .i64 1 := hvs 3 (by decide)
                  have v4 : vs 4 = .bool false := hvs 4 (by decide)
                  have v5 : vs 5 = .bool false := hvs 5 (by decide)
                  have v6 : vs 6 = .bool false := hvs 6 (by decide)
                  have v7 : vs 7 = .string db := hvs 7 (by decide)
                  have v8 : vs 8 = .slice (some ⟨g, 0, none⟩) q3 c3 := hvs 8 (by decide)
                  have v9 : vs 9 = .int .i64 k := hvs 9 (by decide)
                  have v10 : vs 10 = .pointer (some ⟨g, k, none⟩) := hvs 10 (by decide)
                  have v11 : vs 11 = .slice (some ⟨ga, oa, none⟩) m dd := hvs 11 (by decide)
                  have v12 : vs 12 = .int .i64 m := hvs 12 (by decide)
                  have v13 : vs 13 = .int .i64 n := hvs 13 (by decide)
                  have v14 : vs 14 = .int .i64 D := hvs 14 (by decide)
                  have v15 : vs 15 = .int .u64 D := hvs 15 (by decide)
                  have v16 : vs 16 = .string db := hvs 16 (by decide)
                  have v17 : vs 17 = .bool false := hvs 17 (by decide)
                  have v18 : vs 18 = .bool false := hvs 18 (by decide)
                  have v19 : vs 19 = .bool false := hvs 19 (by decide)
                  have v20 : vs 20 = .slice (some ⟨g, 0, none⟩) q3 c3 := hvs 20 (by decide)
                  have v21 : vs 21 = .int .i64 k := hvs 21 (by decide)
                  have v22 : vs 22 = .pointer (some ⟨g, k, none⟩) := hvs 22 (by decide)
                  have v23 : vs 23 = .slice (some ⟨ga, oa, none⟩) m dd := hvs 23 (by decide)
                  have v24 : vs 24 = .slice (some ⟨g, 0, none⟩) q3 c3 := hvs 24 (by decide)
                  have v25 : vs 25 = .int .i64 k := hvs 25 (by decide)
                  have v26 : vs 26 = .pointer (some ⟨g, k, none⟩) := hvs 26 (by decide)
                  have v27 : vs 27 = .slice (some ⟨ga, oa, none⟩) m dd := hvs 27 (by decide)
                  have v28 : vs 28 = .int .i64 m := hvs 28 (by decide)
                  have v29 : vs 29 = .int .i64 E := hvs 29 (by decide)
                  have v30 : vs 30 = .pointer (some ⟨ga, oa + E, none⟩) := hvs 30 (by decide)
                  have v31 : vs 31 = .int .u8 10 := hvs 31 (by decide)
                  have v32 : vs 32 = .bool false := hvs 32 (by decide)
                  have v33 : vs 33 = .bool false := hvs 33 (by decide)
                  have HBR := Lib.hid hbel
                  simp only [fillN, List.size_toArray, List.length_cons, List.length_nil, Nat.reduceAdd, show List.range 34 = [0, 1, 2, 3, 4, 5, 6, 7, 8, 9, 10, 11, 12, 13, 14, 15, 16, 17, 18, 19, 20, 21, 22, 23, 24, 25, 26, 27, 28, 29, 30, 31, 32, 33] from rfl, List.foldl_cons, List.foldl_nil, show 97 + min 0 33 = 97 from rfl, show 97 + min 1 33 = 98 from rfl, show 97 + min 2 33 = 99 from rfl, show 97 + min 3 33 = 100 from rfl, show 97 + min 4 33 = 101 from rfl, show 97 + min 5 33 = 102 from rfl, show 97 + min 6 33 = 103 from rfl, show 97 + min 7 33 = 104 from rfl, show 97 + min 8 33 = 105 from rfl, show 97 + min 9 33 = 106 from rfl, show 97 + min 10 33 = 107 from rfl, show 97 + min 11 33 = 108 from rfl, show 97 + min 12 33 = 109 from rfl, show 97 + min 13 33 = 110 from rfl, show 97 + min 14 33 = 111 from rfl, show 97 + min 15 33 = 112 from rfl, show 97 + min 16 33 = 113 from rfl, show 97 + min 17 33 = 114 from rfl, show 97 + min 18 33 = 115 from rfl, show 97 + min 19 33 = 116 from rfl, show 97 + min 20 33 = 117 from rfl, show 97 + min 21 33 = 118 from rfl, show 97 + min 22 33 = 119 from rfl, show 97 + min 23 33 = 120 from rfl, show 97 + min 24 33 = 121 from rfl, show 97 + min 25 33 = 122 from rfl, show 97 + min 26 33 = 123 from rfl, show 97 + min 27 33 = 124 from rfl, show 97 + min 28 33 = 125 from rfl, show 97 + min 29 33 = 126 from rfl, show 97 + min 30 33 = 127 from rfl, show 97 + min 31 33 = 128 from rfl, show 97 + min 32 33 = 129 from rfl, show 97 + min 33 33 = 130 from rfl, v0, v1, v2, v3, v4, v5, v6, v7, v8, v9, v10, v11, v12, v13, v14, v15, v16, v17, v18, v19, v20, v21, v22, v23, v24, v25, v26, v27, v28, v29, v30, v31, v32, v33]
                  clear v0 v1 v2 v3 v4 v5 v6 v7 v8 v9 v10 v11 v12 v13 v14 v15 v16 v17 v18 v19 v20 v21 v22 v23 v24 v25 v26 v27 v28 v29 v30 v31 v32 v33 hvs hbel
                  go_simp
                  go_wp2_with fail
                  go_roundw
                  case rel => exact ⟨k + 1, hlt, by go_num, (HBR.out.block C HCL6.out).trans HG6.out, own_below HO6.out HBR.out, HBY.out.trans (HBR.out.mono HBY.out.size)⟩
                  case measure => simp [intOf]; omega
            · have HBL := Lib.hid hbl
              have HGC := Lib.hid hg
              clear hg hown hbl
              go_wp2_with fail
              go_loopw [25] (fun i wr => ∃ k : Nat, k ≤ 2 ∧ i = .int .i64 k ∧ wr.heap[C]? = some (.cells #[.int .i64 8192, .int .i64 65536, .int .i64 256] 42 (0, 0)) ∧ Below w3.heap.size w3 wr) (fun i _ => 2 - (intOf i).toNat)
              case atStart => exact ⟨0, Nat.zero_le _, rfl, HGC.out, HBL.out⟩
              case round =>
                obtain ⟨k2, hk2, rfl, hg2, hbl2⟩ := hrel
                have HG2 := Lib.hid hg2
                have HBL2 := Lib.hid hbl2
                have c0 : wr.cell? ⟨C, 0, none⟩ = some (.int .i64 8192) := by simp [World.cell?, hg2]
                have c1' : wr.cell? ⟨C, 1, none⟩ = some (.int .i64 65536) := by simp [World.cell?, hg2]
                have c2' : wr.cell? ⟨C, 2, none⟩ = some (.int .i64 256) := by simp [World.cell?, hg2]
                clear hg2 hbl2
                by_cases hlt2 : k2 < 2
                · obtain ⟨b, hb⟩ : ∃ b, ((k2 : Int) == 1) = b := ⟨_, rfl⟩
                  obtain ⟨s1, s2, s3, s4⟩ := Hr.stream_read b
                  have KS := Lib.hid (fun W => ans_Stream b W)
                  have KO := Lib.hid (fun W v (h : BRow W v (Hp.stream b)) => ref_Of Hp.ok200 (Hp.sfields b) (Hp.stream b).length (Hp.stream b) v W h (by omega) (by omega) s1)
                  have KG := Lib.hid (fun W V (h : HS W V (Hp.sfields b)) => (show Calls Tryd.prog 20 #[.agg #[Hp.sx Hp.ok200, V], .string (bx Hp.cl)] W fun e w' => e = .returned (.tuple #[.string (bx []), .int .i64 0]) ∧ Below W.heap.size W w' from by
                    have h := ref_Get Hp.ok200 Hp.cl V (Hp.sfields b) W h (by omega) s4 (by decide)
                    rw [Hr.get_sfields] at h
                    exact h))
                  obtain ⟨ls, hls⟩ : ∃ z, Hp.stream b = z := ⟨_, rfl⟩
                  rw [hls] at KS KO
                  obtain ⟨ln, hln⟩ : ∃ z, ls.length = z := ⟨_, rfl⟩
                  have HLN := Lib.hid hln
                  have hln8 : ln ≤ 2000 := by rw [hls, hln] at s2; exact s2
                  rw [hln] at KO
                  obtain ⟨fb, hfb⟩ : ∃ z, Hp.sx Hp.ok200 = .string z := ⟨_, rfl⟩
                  rw [hfb] at KO KG
                  clear s1 s2 s3 s4 hls hln hfb
                  go_wp2_with fail
                  refine (KS.out wr).mono ?_
                  rintro e w7 ⟨r, rfl, hr, hb7⟩
                  have HR7 := Lib.hid hr
                  obtain ⟨rp, rn, rc, rfl⟩ := hr.form
                  have hrn : rn = ln := by obtain ⟨_, _, h, _⟩ := hr; cases h; exact HLN.out
                  subst hrn
                  have hg7 := (hb7.block C (Array.getElem?_eq_some_iff.1 HG2.out).1).trans HG2.out
                  have HG7 := Lib.hid hg7
                  have HB7 := Lib.hid (HBL2.out.trans (hb7.mono HBL2.out.size))
                  have d0 : w7.cell? ⟨C, 0, none⟩ = some (.int .i64 8192) := by simp [World.cell?, hg7]
                  have d1' : w7.cell? ⟨C, 1, none⟩ = some (.int .i64 65536) := by simp [World.cell?, hg7]
                  have d2' : w7.cell? ⟨C, 2, none⟩ = some (.int .i64 256) := by simp [World.cell?, hg7]
                  clear c0 c1' c2' hr hb7 hg7
                  go_wp2_with fail
                  refine (KO.out w7 _ HR7.out).mono ?_
                  rintro e w8 ⟨V, rfl, hV, hb8⟩
                  have hg8 := (hb8.block C (Array.getElem?_eq_some_iff.1 HG7.out).1).trans HG7.out
                  have HG8 := Lib.hid hg8
                  have HB8 := Lib.hid (HB7.out.trans (hb8.mono HB7.out.size))
                  obtain ⟨pV, cV, rfl⟩ := hV.slice
                  have HV8 := Lib.hid hV
                  clear d0 d1' d2' hV hb8 hg8
                  go_wp2_with fail
                  refine (KG.out _ _ (HV8.out.below ((Below.refl _ _).alloc (Nat.le_refl _) _))).mono ?_
                  rintro e w9 ⟨rfl, hb9⟩
                  have HB9 := Lib.hid (show Below w3.heap.size w3 w9 from (HB8.out.alloc HB8.out.size _).trans (hb9.mono (by have := HB8.out.size; simp; omega)))
                  have hg9 := (hb9.block C (by have := (Array.getElem?_eq_some_iff.1 HG8.out).1; simp; omega)).trans (heap_alloc_old' _ HG8.out)
                  have HG9 := Lib.hid hg9
                  clear hb9 hg9
                  go_wp2_with fail
                  go_roundw
                  case rel => exact ⟨k2 + 1, hlt2, by go_num, HG9.out, HB9.out⟩
                  case measure => simp [intOf]; omega
                · have HTW := Lib.hid (HT3.out.bel HBL2.out)
                  clear c0 c1' c2'
                  go_wp2_with fail
                  refine (WK.out wr HTW.out).mono ?_
                  rintro e w9 ⟨rfl, hb9⟩
                  have HB9 := Lib.hid (HB3.out.trans ((HBL2.out.trans (hb9.mono HBL2.out.size)).mono HB3.out.size))
                  clear hb9
                  go_wp2_with fail
                  go_ret
                  exact ⟨rfl, HB9.out⟩
      
  · go_enter Tryd.func5, Tryd.ntmps5
    go_wp2_with fail
    refine (WK.out w HT.out).mono ?_
    rintro e w1 ⟨rfl, hb⟩
    have HB := Lib.hid hb
    clear hb
    go_wp2_with fail
    go_ret
    exact ⟨rfl, HB.out⟩
end Go.Proofs.YthfdnlcalefjeaaDoor
