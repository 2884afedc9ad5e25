/- Texts of this claim, one behind the other: Ss, St, Su, Sv, Sw. -/
import Derived.Test.YtbaakfcbakpmpaaGreatDoorSwm5
import Derived.BigRegion
import Derived.Lib.SlBytesConst
import Derived.WideShapes
import Derived.ChangeSlices
import Derived.OpenShut
/- script: Read's walk. No conditions but those that each law states. -/
namespace Go.Proofs.YtbaakfcbakpmpaaGreatDoor
set_option linter.unusedVariables false
set_option linter.unusedSimpArgs false
open Go.RowKit Go.Shelf
set_option maxHeartbeats 8000000
set_option maxRecDepth 100000
/-- a slice of steps -/
def StsRow (w : World) (v : Value) (xs : List Sc.St) : Prop := ∃ C ps, ps.map (·.1) = xs ∧ w.ownsRow C 26 6 v xs.length (stCs ps) ∧ (∀ q ∈ ps, BRow w q.2 q.1.bytes ∧ q.1.fine)
/-- what Read tells of a text -/
def Sc.read (s : List UInt8) : List Sc.St × Nat × Int := Sc.rd 0 (Gs.parts 10 [] s) []
theorem Sc.rd_end (L : List (List UInt8)) (k : Nat) (acc : List Sc.St) (h : L.length ≤ k) : Sc.rd k (L.drop k) acc = (acc, 0, 0) := by
  rw [List.drop_eq_nil_of_le h]; rfl
theorem three_cells {B : Nat} {w Y W : World} {a b c a' b' c' : Value} (h0 : Y.heap[B]? = some (.cells #[a] 53 (0, 0))) (h1 : Y.heap[B + 1]? = some (.cells #[b] 3 (0, 0))) (h2 : Y.heap[B + 2]? = some (.cells #[c] 31 (0, 0)))
    (hW : ((Y.setCell ⟨B, 0, none⟩ a').setCell ⟨B + 1, 0, none⟩ b').setCell ⟨B + 1 + 1, 0, none⟩ c' = W) (hb : Below B w Y) :
    W.heap[B]? = some (.cells #[a'] 53 (0, 0)) ∧ W.heap[B + 1]? = some (.cells #[b'] 3 (0, 0)) ∧ W.heap[B + 1 + 1]? = some (.cells #[c'] 31 (0, 0)) ∧ (∀ g, B + 3 ≤ g → W.heap[g]? = Y.heap[g]?) ∧ Below B w W := by
  have e0 := heap_setCell_same Y B 0 _ _ a' h0
  have e1 := heap_setCell_same (Y.setCell ⟨B, 0, none⟩ a') (B + 1) 0 _ _ b' ((Below.heap_setCell _ _ _ _ (by show B + 1 ≠ B; omega)).trans h1)
  have e2 := heap_setCell_same ((Y.setCell ⟨B, 0, none⟩ a').setCell ⟨B + 1, 0, none⟩ b') (B + 1 + 1) 0 _ _ c' ((Below.heap_setCell _ _ _ _ (by show B + 1 + 1 ≠ B + 1; omega)).trans ((Below.heap_setCell _ _ _ _ (by show B + 1 + 1 ≠ B; omega)).trans h2))
  subst hW
  refine ⟨?_, ?_, by rw [e2]; simp, fun g hg => ?_, ?_⟩
  · rw [Below.heap_setCell _ _ _ _ (by show B ≠ B + 1 + 1; omega), Below.heap_setCell _ _ _ _ (by show B ≠ B + 1; omega), e0]; simp
  · rw [Below.heap_setCell _ _ _ _ (by show B + 1 ≠ B + 1 + 1; omega), e1]; simp
  · rw [Below.heap_setCell _ _ _ _ (by show g ≠ B + 1 + 1; omega), Below.heap_setCell _ _ _ _ (by show g ≠ B + 1; omega), Below.heap_setCell _ _ _ _ (by show g ≠ B; omega)]
  · exact ((hb.setCell (p := ⟨B, 0, none⟩) (Nat.le_refl B) _).setCell (p := ⟨B + 1, 0, none⟩) (by show B ≤ B + 1; omega) _).setCell (p := ⟨B + 1 + 1, 0, none⟩) (by show B ≤ B + 1 + 1; omega) _
theorem sc_Read (s : ByteArray) (w : World) (hs : s.size ≤ 50000) (ht : Tabs w) (hm : ML w) :
    Calls Tryz.prog 28 #[.string s] w fun e w' => ∃ v, e = .returned (.tuple #[v, .int .i64 ((Sc.read s.data.toList).2.1 : Nat), .int .i64 (Sc.read s.data.toList).2.2]) ∧ StsRow w' v (Sc.read s.data.toList).1 ∧ Below w.heap.size w w' := by
  have hmf : ∀ (fn : Fn) (first cap : Array Value) (w : World), (Instr.makeFunc fn first cap).run Tryz.prog w = .ok (.func fn first cap) w := fun _ _ _ _ => rfl
  obtain ⟨B, hB⟩ : ∃ z, w.heap.size = z := ⟨_, rfl⟩
  obtain ⟨L, hL⟩ : ∃ z, Gs.parts 10 [] s.data.toList = z := ⟨_, rfl⟩
  have hLs : Sc.read s.data.toList = Sc.rd 0 L [] := by unfold Sc.read; rw [hL]
  rw [hLs]
  obtain ⟨w3, hw3⟩ : ∃ z, ((w.alloc (.cells #[.slice none 0 0] 53)).alloc (.cells #[.int .i64 0] 3)).alloc (.cells #[.int .i64 0] 31) = z := ⟨_, rfl⟩
  have hb3 : Below w.heap.size w w3 := by rw [← hw3]; exact (((Below.refl _ _).alloc (Nat.le_refl _) _).alloc (by simp) _).alloc (by simp; omega) _
  have hz3 : w3.heap.size = B + 3 := by rw [← hw3, ← hB]; simp
  have h0 : w3.heap[B]? = some (.cells #[.slice none 0 0] 53 (0, 0)) := by
    rw [← hw3, Below.heap_alloc _ _ _ (by simp; omega), Below.heap_alloc _ _ _ (by simp; omega), ← hB]
    exact World.alloc_heap_new _ _
  have h1 : w3.heap[B + 1]? = some (.cells #[.int .i64 0] 3 (0, 0)) := by
    rw [← hw3, Below.heap_alloc _ _ _ (by simp; omega), ← hB]
    have := World.alloc_heap_new (w.alloc (.cells #[.slice none 0 0] 53)) (.cells #[.int .i64 0] 3)
    simpa using this
  have h2 : w3.heap[B + 2]? = some (.cells #[.int .i64 0] 31 (0, 0)) := by
    rw [← hw3, ← hB]
    have := World.alloc_heap_new ((w.alloc (.cells #[.slice none 0 0] 53)).alloc (.cells #[.int .i64 0] 3)) (.cells #[.int .i64 0] 31)
    simpa using this
  have KE := sc_every s 56 #[.pointer (some ⟨B + 1, 0, none⟩), .pointer (some ⟨B + 2, 0, none⟩), .pointer (some ⟨B, 0, none⟩)] L hL hs (RdJ B w L) (RdX B w L) w3
    (by rw [hz3]; exact fun k X Y h ht => h.turn ht) (by rw [hz3]; exact fun X Y h ht => h.turn ht)
    (fun k X h => by obtain ⟨_, _, _, _, _, hb, _⟩ := h; rw [← hB] at hb; exact ⟨ht.below hb, hm.below hb⟩)
    (enters_of Tryz.func56 (by kernel_rfl) rfl)
    (fun k X hk hsay h => by
      obtain ⟨ps, lv, o1, a1, a2⟩ := h
      exact ⟨ps, lv, o1, by rw [a1, drop_at hk, Sc.rd_skip hsay], a2⟩)
    (by rw [hz3]; exact fun k X0 X u hk hsay hj hsz hb hn hu hf => rd_tell k X0 X u hk hsay hj hsz hb hn hu hf)
    ⟨[], .slice none 0 0, 0, rfl, by simp, by rw [← hB]; exact hb3, h0, h1, h2, ⟨World.ownsRow_nil _ _ _ _, fun q hq => by simp at hq, fun q hq => by simp at hq, fun q hq => by simp at hq, fun q hq => by simp at hq⟩⟩
  have KE := Lib.hid KE
  obtain ⟨r, hr⟩ : ∃ z, Sc.rd 0 L [] = z := ⟨_, rfl⟩
  rw [hr]
  have HRR := Lib.hid hr
  have hI : ¬ (4194304 : Int) < (s.size : Int) := by omega
  have HB := Lib.hid hB
  have HW3 := Lib.hid hw3
  clear hr hL hLs hb3 hz3 h0 h1 h2 hw3 hB ht hm
  go_enter Tryz.func28, Tryz.ntmps28
  go_wp2_with fail
  rw [HB.out, HW3.out]
  refine KE.out.mono ?_
  rintro e Y ⟨⟨v, rfl⟩, hj | hx⟩
  · obtain ⟨ps, lv, o1, a1, a2, a3, a4, a5, a6, a7⟩ := hj
    rw [Sc.rd_end L _ _ (Nat.le_refl _)] at a1
    have HR1 := Lib.hid (HRR.out.symm.trans a1)
    obtain ⟨p, c, rfl⟩ := own_slS a7.own
    have c0 : Y.cell? ⟨B, 0, none⟩ = some (.slice p ps.length c) := by simp [World.cell?, a4]
    have c1 : Y.cell? ⟨B + 1, 0, none⟩ = some (.int .i64 o1) := by simp [World.cell?, a5]
    have c2 : Y.cell? ⟨B + 1 + 1, 0, none⟩ = some (.int .i64 0) := by simp [World.cell?, a6]
    have z0 : Y.frozen? ⟨B, 0, none⟩ = false := frozen_of_row _ _ _ _ _ a4
    have z1 : Y.frozen? ⟨B + 1, 0, none⟩ = false := frozen_of_row _ _ _ _ _ a5
    have z2 : Y.frozen? ⟨B + 1 + 1, 0, none⟩ = false := frozen_of_row _ _ _ _ _ a6
    have A3 := Lib.hid a3
    have A4 := Lib.hid a4
    have A5 := Lib.hid a5
    have A6 := Lib.hid a6
    have A7 := Lib.hid a7
    obtain ⟨n, hn⟩ : ∃ z, ps.length = z := ⟨_, rfl⟩
    rw [hn] at c0
    have HN := Lib.hid hn
    clear a1 a3 a4 a5 a6 a7 hn
    go_wp2_with fail
    obtain ⟨W, hW⟩ : ∃ z, ((Y.setCell ⟨B, 0, none⟩ (.slice p n c)).setCell ⟨B + 1, 0, none⟩ (.int .i64 0)).setCell ⟨B + 1 + 1, 0, none⟩ (.int .i64 0) = z := ⟨_, rfl⟩
    rw [hW]
    obtain ⟨w0', w1', w2', wo, wb⟩ := three_cells A4.out A5.out A6.out hW A3.out
    have x0 : W.cell? ⟨B, 0, none⟩ = some (.slice p n c) := by simp [World.cell?, w0']
    have x1 : W.cell? ⟨B + 1, 0, none⟩ = some (.int .i64 0) := by simp [World.cell?, w1']
    have x2 : W.cell? ⟨B + 1 + 1, 0, none⟩ = some (.int .i64 0) := by simp [World.cell?, w2']
    have HSR := Lib.hid (show StsRow W (.slice p n c) (ps.map (·.1)) from by
      have h := A7.out
      refine ⟨B + 3 + 5, ps, rfl, ?_, fun q hq => ⟨brow_keep (h.brow q hq) (fun hl g hg _ => wo g (by have := h.new q hq g hg; omega)), h.fine q hq⟩⟩
      rw [List.length_map]
      have ho := h.own
      rw [HN.out] at ho ⊢
      exact ⟨ho.1, ho.2.imp id (fun ⟨g, cap, cur, k1, k2, k3, k4⟩ => ⟨g, cap, cur, k1, k2, (wo g (by omega)).trans k3, k4⟩)⟩)
    have HWB := Lib.hid wb
    clear hW w0' w1' w2' wo wb c0 c1 c2 z0 z1 z2
    simp [bodyPost, results, Tryz.results28, go_sem, x0, x1, x2]
    rw [HR1.out]
    exact ⟨_, ⟨rfl, rfl, rfl⟩, HSR.out, by rw [HB.out]; exact HWB.out⟩
  · obtain ⟨k, no, lv, a1, a2, a3, ⟨p, n, c, rfl⟩, a4, a5, a6⟩ := hx
    have HR1 := Lib.hid (HRR.out.symm.trans a1)
    have c0 : Y.cell? ⟨B, 0, none⟩ = some (.slice p n c) := by simp [World.cell?, a4]
    have c1 : Y.cell? ⟨B + 1, 0, none⟩ = some (.int .i64 (k : Int)) := by simp [World.cell?, a5]
    have c2 : Y.cell? ⟨B + 1 + 1, 0, none⟩ = some (.int .i64 no) := by simp [World.cell?, a6]
    have z0 : Y.frozen? ⟨B, 0, none⟩ = false := frozen_of_row _ _ _ _ _ a4
    have z1 : Y.frozen? ⟨B + 1, 0, none⟩ = false := frozen_of_row _ _ _ _ _ a5
    have z2 : Y.frozen? ⟨B + 1 + 1, 0, none⟩ = false := frozen_of_row _ _ _ _ _ a6
    have q0 : (no != 0) = true := by simpa using a2
    have A3 := Lib.hid a3
    have A4 := Lib.hid a4
    have A5 := Lib.hid a5
    have A6 := Lib.hid a6
    clear a1 a2 a3 a4 a5 a6
    go_upto_region 5 with (fail)
    go_region
    obtain ⟨W', hW⟩ : ∃ z, ((Y.setCell ⟨B, 0, none⟩ (.slice none 0 0)).setCell ⟨B + 1, 0, none⟩ (.int .i64 (k : Int))).setCell ⟨B + 1 + 1, 0, none⟩ (.int .i64 no) = z := ⟨_, rfl⟩
    rw [hW]
    obtain ⟨w0', w1', w2', wo, wb⟩ := three_cells A4.out A5.out A6.out hW A3.out
    obtain ⟨W, hWd⟩ : ∃ z, W'.drew = z := ⟨_, rfl⟩
    have x0 : W.cell? ⟨B, 0, none⟩ = some (.slice none 0 0) := by rw [← hWd]; show W'.cell? _ = _; simp [World.cell?, w0']
    have x1 : W.cell? ⟨B + 1, 0, none⟩ = some (.int .i64 (k : Int)) := by rw [← hWd]; show W'.cell? _ = _; simp [World.cell?, w1']
    have x2 : W.cell? ⟨B + 1 + 1, 0, none⟩ = some (.int .i64 no) := by rw [← hWd]; show W'.cell? _ = _; simp [World.cell?, w2']
    have HWB := Lib.hid (show Below B w W by rw [← hWd]; exact wb.drew)
    rw [hWd]
    clear hW hWd w0' w1' w2' wo wb c0 c1 c2 z0 z1 z2 q0
    go_wp2_with fail
    simp [bodyPost, results, Tryz.results28, go_sem, x0, x1, x2]
    rw [HR1.out]
    exact ⟨_, ⟨rfl, rfl, rfl⟩, ⟨0, [], rfl, World.ownsRow_nil _ _ _ _, fun q hq => by simp at hq⟩, by rw [HB.out]; exact HWB.out⟩
end Go.Proofs.YtbaakfcbakpmpaaGreatDoor

/- script: num, none, and what works' lines say. No conditions but those that each law states. Printed by genSt.py. -/
namespace Go.Proofs.YtbaakfcbakpmpaaGreatDoor
set_option linter.unusedVariables false
set_option linter.unusedSimpArgs false
open Go.RowKit Go.Shelf
set_option maxHeartbeats 8000000
set_option maxRecDepth 1000000
deriving instance DecidableEq for Sc.St
namespace Sc
def wx1 : St := ⟨3, 3, 0, 0, 0, [97, 32, 98]⟩
def wx2 : St := ⟨2, 0, 0, 0, 0, []⟩
def wx3 : St := ⟨2, 3, 0, 0, 0, []⟩
def wx4 : St := ⟨6, 0, -1, 0, 0, []⟩
def wo1 : St := ⟨0, 0, 2, 0, 0, [71, 69, 84]⟩
theorem works_t1 : line stepT 3 wx1 = some [98, 121, 116, 101, 115, 32, 51, 32, 61, 97, 37, 50, 48, 98] := by decide +kernel
theorem works_t2 : line stepT 2 wx2 = some [111, 112, 101, 110] := by decide +kernel
theorem works_t3 : line stepT 2 wx3 = none := by decide +kernel
theorem works_t4 : line stepT 6 wx4 = none := by decide +kernel
theorem works_t5 : line outT 5 wo1 = some [97, 115, 107, 32, 50, 32, 61, 71, 69, 84] := by decide +kernel
theorem works_p1 : parse stepT [99, 111, 109, 101, 32, 48, 32, 55, 32, 61] = some (8, ⟨0, 0, 0, 0, 7, []⟩) := by decide +kernel
theorem works_p2 : parse outT [99, 108, 111, 115, 101, 100, 32, 57] = some (3, ⟨0, 9, 0, 0, 0, []⟩) := by decide +kernel
theorem works_r1 : read [111, 112, 101, 110, 10, 10, 35, 32, 120, 10, 116, 105, 99, 107, 32, 49, 32, 48] = ([⟨2, 0, 0, 0, 0, []⟩, ⟨1, 0, 0, 1, 0, []⟩], 0, 0) := by decide +kernel
theorem works_r2 : read [111, 112, 101, 110, 10, 111, 112, 101, 110, 115] = ([], 1, 390) := by decide +kernel

theorem works_n0 : parse stepT [116, 105, 99, 107, 32, 49, 32, 48, 50] = none := by decide +kernel
theorem works_n1 : parse stepT [116, 105, 99, 107, 32, 49] = none := by decide +kernel
theorem works_n2 : parse stepT [98, 121, 116, 101, 115, 32, 51, 32, 97] = none := by decide +kernel
theorem works_n3 : parse stepT [98, 121, 116, 101, 115, 32, 51, 32, 61, 97, 37, 50, 102] = none := by decide +kernel
theorem works_n4 : parse stepT [111, 112, 101, 110, 32] = none := by decide +kernel
def noL : List ByteArray := [⟨#[116, 105, 99, 107, 32, 49, 32, 48, 50]⟩, ⟨#[116, 105, 99, 107, 32, 49]⟩, ⟨#[98, 121, 116, 101, 115, 32, 51, 32, 97]⟩, ⟨#[98, 121, 116, 101, 115, 32, 51, 32, 61, 97, 37, 50, 102]⟩, ⟨#[111, 112, 101, 110, 32]⟩]
theorem works_n : ∀ t ∈ noL, parse stepT t.data.toList = none ∧ t.size ≤ 50000 := by
  intro t ht
  simp only [noL, List.mem_cons, List.not_mem_nil, or_false] at ht
  rcases ht with rfl | rfl | rfl | rfl | rfl
  · exact ⟨works_n0, by decide⟩
  · exact ⟨works_n1, by decide⟩
  · exact ⟨works_n2, by decide⟩
  · exact ⟨works_n3, by decide⟩
  · exact ⟨works_n4, by decide⟩
end Sc
theorem sc_num (n : Int) (w : World) : Calls Tryz.prog 16 #[.int .i64 n] w fun e w' => e = .returned (.int .i64 n) ∧ w' = w := by
  go_enter Tryz.func16, Tryz.ntmps16
  go_wp2
  go_ret
  exact ⟨rfl, rfl⟩
theorem sc_none (D : List ByteArray) (g : Nat) (w : World) (hD : ∀ t ∈ D, Sc.parse Sc.stepT t.data.toList = none ∧ t.size ≤ 50000) (hg : w.heap[g]? = some (.cells (D.map Value.string).toArray 9 (0, 0))) (hl : D.length ≤ 100) (ht : Tabs w) (hm : ML w) :
    Calls Tryz.prog 36 #[.slice (some ⟨g, 0, none⟩) D.length D.length] w fun e w' => e = .returned (.bool true) ∧ Below w.heap.size w w' := by
  have KN := Lib.hid sc_num
  obtain ⟨N, hN⟩ : ∃ z, D.length = z := ⟨_, rfl⟩
  rw [hN]
  rw [hN] at hl
  have HD := Lib.hid hD
  have HN := Lib.hid hN
  have HG := Lib.hid hg
  have HT := Lib.hid ht
  have HM := Lib.hid hm
  clear hD hN hg ht hm
  go_enter Tryz.func36, Tryz.ntmps36
  go_wp2_with fail
  go_loopw [3] (fun i wr => ∃ k : Nat, k ≤ N ∧ i = .int .i64 k ∧ Below w.heap.size w wr) (fun i _ => N - (intOf i).toNat)
  case atStart => exact ⟨0, Nat.zero_le _, rfl, Below.refl _ _⟩
  case round =>
    obtain ⟨k, hk, rfl, hb⟩ := hrel
    have HB := Lib.hid hb
    clear hb
    by_cases hlt : k < N
    · have hI : (k : Int) < (N : Int) := by omega
      have hkD : k < D.length := by rw [HN.out]; exact hlt
      obtain ⟨t, htt⟩ : ∃ z, D[k] = z := ⟨_, rfl⟩
      obtain ⟨hp, hs⟩ := HD.out t (by rw [← htt]; exact List.getElem_mem _)
      have hc : wr.cell? ⟨g, k, none⟩ = some (.string t) := by
        have h := (HB.out.block g (Array.getElem?_eq_some_iff.1 HG.out).1).trans HG.out
        simp only [World.cell?, h]
        simp [List.getElem?_eq_getElem hkD, htt]
      have K := sc_Parse t wr hs (HT.out.below HB.out) (HM.out.below HB.out)
      rw [hp] at K
      have K := Lib.hid K
      clear htt hp hs hkD
      go_wp2_with fail
      refine K.out.mono ?_
      rintro e w2 ⟨u, rfl, hu, _, _, hb2⟩
      obtain ⟨p, n, c, rfl⟩ := hu.sl
      have HB2 := Lib.hid (HB.out.trans (hb2.mono HB.out.size))
      clear hb2 hu K hc
      unfold stVal
      go_wp2_with fail
      refine (KN.out _ _).mono ?_
      rintro e w3 ⟨rfl, hw⟩
      subst w3
      have HB3 := Lib.hid (show Below w.heap.size w (w2.alloc (.cells #[.int .i64 (stp none).kind, .int .u64 ((stp none).conn : Int), .int .i64 (stp none).topic, .int .u64 ((stp none).n : Int), .int .u64 ((stp none).draw : Int), .slice p n c] 26)) from HB2.out.alloc HB2.out.size _)
      have he : (erS none : Int) = 390 := rfl
      go_wp2_with fail
      go_roundw
      case rel => exact ⟨k + 1, hlt, by go_num, HB3.out⟩
      case measure => simp [intOf]; omega
    · have hI : ¬ (k : Int) < (N : Int) := by omega
      go_wp2_with fail
      go_ret
      exact ⟨rfl, HB.out⟩
end Go.Proofs.YtbaakfcbakpmpaaGreatDoor

/- script: the laws' works. No conditions but those that each law states. Printed by genSu.py. -/
namespace Go.Proofs.YtbaakfcbakpmpaaGreatDoor
set_option linter.unusedVariables false
set_option linter.unusedSimpArgs false
open Go.RowKit Go.Shelf
set_option maxHeartbeats 8000000
set_option maxRecDepth 1000000
theorem brow_lit {w : World} {g : Nat} {l : List UInt8} {fr : Nat × Nat} (h : w.heap[g]? = some (.cells (l.map by8).toArray 5 fr)) : BRow w (.slice (some ⟨g, 0, none⟩) l.length l.length) l := by
  refine ⟨_, _, rfl, Nat.le_refl _, .inr ⟨g, 0, rfl, fun j hj => ?_⟩⟩
  simp [World.cell?, h, List.getElem?_eq_getElem hj]
theorem StsRow.below {w w' : World} {v : Value} {xs : List Sc.St} (h : StsRow w v xs) (hb : Below w.heap.size w w') : StsRow w' v xs := by
  obtain ⟨C, ps, h1, h2, h3⟩ := h
  exact ⟨C, ps, h1, own_belS h2 hb, fun q hq => ⟨(h3 q hq).1.below hb, (h3 q hq).2⟩⟩
theorem StsRow.two {w : World} {v : Value} {a b : Sc.St} (h : StsRow w v [a, b]) : ∃ g c u u', v = .slice (some ⟨g, 0, none⟩) 2 c ∧ BRow w u a.bytes ∧ BRow w u' b.bytes ∧ isSl u ∧ isSl u' ∧ (∀ j x, (stC (a, u) ++ stC (b, u'))[j]? = some x → w.cell? ⟨g, j, none⟩ = some x) := by
  obtain ⟨C, ps, h1, h2, h3⟩ := h
  obtain ⟨⟨a', u⟩, ⟨b', u'⟩, rfl⟩ : ∃ q q', ps = [q, q'] := by
    match ps, h1 with
    | [q, q'], _ => exact ⟨q, q', rfl⟩
    | [], h => simp at h
    | [_], h => simp at h
    | _ :: _ :: _ :: _, h => simp at h
  obtain ⟨rfl, rfl⟩ : a' = a ∧ b' = b := by simpa using h1
  have hu := (h3 _ List.mem_cons_self).1
  have hu' := (h3 _ (List.mem_cons_of_mem _ List.mem_cons_self)).1
  rcases h2.2 with ⟨_, h0⟩ | ⟨g, cap, cur, rfl, _, hg, _⟩
  · simp at h0
  · refine ⟨g, cap, u, u', rfl, hu, hu', hu.sl, hu'.sl, fun j x hx => ?_⟩
    have h4 := h2.cells (g := g) rfl j x (by simpa [stCs] using hx)
    have hadd : (⟨g, 0, none⟩ : Addr).add j = ⟨g, j, none⟩ := by unfold Addr.add; split <;> simp_all
    rw [hadd] at h4
    exact h4
theorem sc_works (w : World) (ht : Tabs w) (hm : ML w) :
    Calls Tryz.prog 11 #[] w fun e w' => e = .returned (.bool true) ∧ Below w.heap.size w w' := by
  have KN := Lib.hid sc_num
  have kc := fun (W : World) (C : Array Value) (n c : Nat) => Lib.run_convert_bytes_const (P := Tryz.prog) W 24 5 C n c Tryz.underlying24 Tryz.underlying5
  have HT := Lib.hid ht
  have HM := Lib.hid hm
  have HB := Lib.hid (Below.refl w.heap.size w)
  clear ht hm
  go_enter Tryz.func11, Tryz.ntmps11
  obtain ⟨g1, hg⟩ : ∃ z, w.heap.size = z := ⟨_, rfl⟩
  obtain ⟨wa1, hw⟩ : ∃ z, w.alloc (.cells #[.int .u8 97, .int .u8 32, .int .u8 98] 5 (3, 4)) = z := ⟨_, rfl⟩
  have hb : Below w.heap.size w wa1 := by rw [← hw]; exact (Below.refl _ _).alloc (Nat.le_refl _) _
  have HU := Lib.hid (brow_lit (l := [97, 32, 98]) (show wa1.heap[g1]? = some (.cells (List.map by8 [97, 32, 98]).toArray 5 (3, 4)) by rw [← hw, ← hg]; exact World.alloc_heap_new _ _))
  have HB := Lib.hid (HB.out.trans (hb.mono HB.out.size))
  have HW := Lib.hid hw
  have HG := Lib.hid hg
  clear hb hw hg
  have K : Calls Tryz.prog 12 #[.agg #[.int .i64 3, .int .u64 3, .int .i64 0, .int .u64 0, .int .u64 0, .slice (some ⟨g1, 0, none⟩) 3 3]] wa1 fun e w' => e = .returned (.tuple #[.string ⟨#[98, 121, 116, 101, 115, 32, 51, 32, 61, 97, 37, 50, 48, 98]⟩, .int .i64 0]) ∧ Below wa1.heap.size wa1 w' := by
    have h := sc_Text Sc.wx1 (.slice (some ⟨g1, 0, none⟩) 3 3) wa1 HU.out (by decide) ⟨by decide, by decide, by decide⟩ (HT.out.below HB.out)
    rw [show Sc.line Sc.stepT (Sc.wx1).kind Sc.wx1 = _ from Sc.works_t1] at h
    exact h
  have K := Lib.hid K
  go_wp2_with fail
  rw [HG.out, HW.out]
  refine K.out.mono ?_
  rintro e wb1 ⟨rfl, hb⟩
  have HB := Lib.hid (HB.out.trans (hb.mono HB.out.size))
  clear hb K
  have K : Calls Tryz.prog 12 #[.agg #[.int .i64 2, .int .u64 0, .int .i64 0, .int .u64 0, .int .u64 0, .slice none 0 0]] wb1 fun e w' => e = .returned (.tuple #[.string ⟨#[111, 112, 101, 110]⟩, .int .i64 0]) ∧ Below wb1.heap.size wb1 w' := by
    have h := sc_Text Sc.wx2 (.slice none 0 0) wb1 (BRow.nil _) (by decide) ⟨by decide, by decide, by decide⟩ (HT.out.below HB.out)
    rw [show Sc.line Sc.stepT (Sc.wx2).kind Sc.wx2 = _ from Sc.works_t2] at h
    exact h
  have K := Lib.hid K
  go_wp2_with fail
  refine K.out.mono ?_
  rintro e wb2 ⟨rfl, hb⟩
  have HB := Lib.hid (HB.out.trans (hb.mono HB.out.size))
  clear hb K
  have K : Calls Tryz.prog 12 #[.agg #[.int .i64 2, .int .u64 3, .int .i64 0, .int .u64 0, .int .u64 0, .slice none 0 0]] wb2 fun e w' => e = .returned (.tuple #[.string ⟨#[]⟩, .int .i64 2]) ∧ Below wb2.heap.size wb2 w' := by
    have h := sc_Text Sc.wx3 (.slice none 0 0) wb2 (BRow.nil _) (by decide) ⟨by decide, by decide, by decide⟩ (HT.out.below HB.out)
    rw [show Sc.line Sc.stepT (Sc.wx3).kind Sc.wx3 = _ from Sc.works_t3] at h
    exact h
  have K := Lib.hid K
  go_wp2_with fail
  refine K.out.mono ?_
  rintro e wb3 ⟨rfl, hb⟩
  have HB := Lib.hid (HB.out.trans (hb.mono HB.out.size))
  clear hb K
  have K : Calls Tryz.prog 12 #[.agg #[.int .i64 6, .int .u64 0, .int .i64 (-1), .int .u64 0, .int .u64 0, .slice none 0 0]] wb3 fun e w' => e = .returned (.tuple #[.string ⟨#[]⟩, .int .i64 2]) ∧ Below wb3.heap.size wb3 w' := by
    have h := sc_Text Sc.wx4 (.slice none 0 0) wb3 (BRow.nil _) (by decide) ⟨by decide, by decide, by decide⟩ (HT.out.below HB.out)
    rw [show Sc.line Sc.stepT (Sc.wx4).kind Sc.wx4 = _ from Sc.works_t4] at h
    exact h
  have K := Lib.hid K
  go_wp2_with fail
  refine K.out.mono ?_
  rintro e wb4 ⟨rfl, hb⟩
  have HB := Lib.hid (HB.out.trans (hb.mono HB.out.size))
  clear hb K
  have K : Calls Tryz.prog 17 #[.string ⟨#[99, 111, 109, 101, 32, 48, 32, 55, 32, 61]⟩] wb4 fun e w' => ∃ u, e = .returned (.tuple #[.agg #[.int .i64 8, .int .u64 0, .int .i64 0, .int .u64 0, .int .u64 7, u], .int .i64 0]) ∧ BRow w' u [] ∧ isSl u ∧ Below wb4.heap.size wb4 w' := by
    refine (sc_Parse ⟨#[99, 111, 109, 101, 32, 48, 32, 55, 32, 61]⟩ wb4 (by decide) (HT.out.below HB.out) (HM.out.below HB.out)).mono ?_
    rintro e w' ⟨u, rfl, h1, h2, h3, h4⟩
    rw [show Sc.parse Sc.stepT (⟨#[99, 111, 109, 101, 32, 48, 32, 55, 32, 61]⟩ : ByteArray).data.toList = _ from Sc.works_p1] at h1 ⊢
    exact ⟨u, rfl, h1, h1.sl, h4⟩
  have K := Lib.hid K
  go_wp2_with fail
  refine K.out.mono ?_
  rintro e wb5 ⟨u5, rfl, hu5, ⟨p5, n5, c5, rfl⟩, hb⟩
  have HU5 := Lib.hid hu5
  have HB := Lib.hid (HB.out.trans (hb.mono HB.out.size))
  clear hb K hu5
  go_upto_region 6 with (fail)
  obtain ⟨G5, hg⟩ : ∃ z, wb5.heap.size = z := ⟨_, rfl⟩
  obtain ⟨wc5, hw⟩ : ∃ z, wb5.alloc (.cells #[.int .i64 8, .int .u64 0, .int .i64 0, .int .u64 0, .int .u64 7, .slice p5 n5 c5] 26) = z := ⟨_, rfl⟩
  have hb : Below wb5.heap.size wb5 wc5 := by rw [← hw]; exact (Below.refl _ _).alloc (Nat.le_refl _) _
  have HX5 := Lib.hid (show wc5.heap[G5]? = some (.cells #[.int .i64 8, .int .u64 0, .int .i64 0, .int .u64 0, .int .u64 7, .slice p5 n5 c5] 26 (0, 0)) by rw [← hw, ← hg]; exact World.alloc_heap_new _ _)
  rw [hg, hw]
  have HB := Lib.hid (HB.out.trans (hb.mono HB.out.size))
  have HU5 := Lib.hid (HU5.out.below hb)
  clear hb hw hg
  obtain ⟨g6, hg⟩ : ∃ z, wc5.heap.size = z := ⟨_, rfl⟩
  obtain ⟨wa6, hw⟩ : ∃ z, wc5.alloc (.cells #[.int .u8 71, .int .u8 69, .int .u8 84] 5 (3, 4)) = z := ⟨_, rfl⟩
  have hb : Below wc5.heap.size wc5 wa6 := by rw [← hw]; exact (Below.refl _ _).alloc (Nat.le_refl _) _
  have HU := Lib.hid (brow_lit (l := [71, 69, 84]) (show wa6.heap[g6]? = some (.cells (List.map by8 [71, 69, 84]).toArray 5 (3, 4)) by rw [← hw, ← hg]; exact World.alloc_heap_new _ _))
  have HB := Lib.hid (HB.out.trans (hb.mono HB.out.size))
  have HU5 := Lib.hid (HU5.out.below hb)
  have HX5 := Lib.hid ((hb.block _ (Array.getElem?_eq_some_iff.1 HX5.out).1).trans HX5.out)
  have HW := Lib.hid hw
  have HG := Lib.hid hg
  clear hb hw hg
  have K : Calls Tryz.prog 13 #[.agg #[.int .i64 5, .int .u64 0, .int .i64 2, .slice (some ⟨g6, 0, none⟩) 3 3]] wa6 fun e w' => e = .returned (.tuple #[.string ⟨#[97, 115, 107, 32, 50, 32, 61, 71, 69, 84]⟩, .int .i64 0]) ∧ Below wa6.heap.size wa6 w' := by
    have h := sc_OutText 5 Sc.wo1 (.slice (some ⟨g6, 0, none⟩) 3 3) wa6 HU.out (by decide) ⟨by decide, by decide, by decide⟩ (HT.out.below HB.out) ⟨rfl, rfl, rfl⟩
    rw [Sc.works_t5] at h
    exact h
  have K := Lib.hid K
  go_wp2_with fail
  rw [HG.out, HW.out]
  refine K.out.mono ?_
  rintro e wb6 ⟨rfl, hb⟩
  have HB := Lib.hid (HB.out.trans (hb.mono HB.out.size))
  have HU5 := Lib.hid (HU5.out.below hb)
  have HX5 := Lib.hid ((hb.block _ (Array.getElem?_eq_some_iff.1 HX5.out).1).trans HX5.out)
  clear hb K
  have K : Calls Tryz.prog 18 #[.string ⟨#[99, 108, 111, 115, 101, 100, 32, 57]⟩] wb6 fun e w' => ∃ u, e = .returned (.tuple #[.agg #[.int .i64 3, .int .u64 9, .int .i64 0, u], .int .i64 0]) ∧ BRow w' u [] ∧ isSl u ∧ Below wb6.heap.size wb6 w' := by
    refine (sc_OutParse ⟨#[99, 108, 111, 115, 101, 100, 32, 57]⟩ wb6 (by decide) (HT.out.below HB.out) (HM.out.below HB.out)).mono ?_
    rintro e w' ⟨u, rfl, h1, h3, h4⟩
    rw [show Sc.parse Sc.outT (⟨#[99, 108, 111, 115, 101, 100, 32, 57]⟩ : ByteArray).data.toList = _ from Sc.works_p2] at h1 ⊢
    exact ⟨u, rfl, h1, h1.sl, h4⟩
  have K := Lib.hid K
  go_wp2_with fail
  refine K.out.mono ?_
  rintro e wb7 ⟨u7, rfl, hu7, ⟨p7, n7, c7, rfl⟩, hb⟩
  have HU7 := Lib.hid hu7
  have HB := Lib.hid (HB.out.trans (hb.mono HB.out.size))
  have HU5 := Lib.hid (HU5.out.below hb)
  have HX5 := Lib.hid ((hb.block _ (Array.getElem?_eq_some_iff.1 HX5.out).1).trans HX5.out)
  clear hb K hu7
  go_upto_region 8 with (fail)
  obtain ⟨G7, hg⟩ : ∃ z, wb7.heap.size = z := ⟨_, rfl⟩
  obtain ⟨wc7, hw⟩ : ∃ z, wb7.alloc (.cells #[.int .i64 3, .int .u64 9, .int .i64 0, .slice p7 n7 c7] 29) = z := ⟨_, rfl⟩
  have hb : Below wb7.heap.size wb7 wc7 := by rw [← hw]; exact (Below.refl _ _).alloc (Nat.le_refl _) _
  have HX7 := Lib.hid (show wc7.heap[G7]? = some (.cells #[.int .i64 3, .int .u64 9, .int .i64 0, .slice p7 n7 c7] 29 (0, 0)) by rw [← hw, ← hg]; exact World.alloc_heap_new _ _)
  rw [hg, hw]
  have HB := Lib.hid (HB.out.trans (hb.mono HB.out.size))
  have HU5 := Lib.hid (HU5.out.below hb)
  have HU7 := Lib.hid (HU7.out.below hb)
  have HX5 := Lib.hid ((hb.block _ (Array.getElem?_eq_some_iff.1 HX5.out).1).trans HX5.out)
  clear hb hw hg
  have K : Calls Tryz.prog 28 #[.string ⟨#[111, 112, 101, 110, 10, 10, 35, 32, 120, 10, 116, 105, 99, 107, 32, 49, 32, 48]⟩] wc7 fun e w' => ∃ v, e = .returned (.tuple #[v, .int .i64 0, .int .i64 0]) ∧ StsRow w' v [⟨2, 0, 0, 0, 0, []⟩, ⟨1, 0, 0, 1, 0, []⟩] ∧ Below wc7.heap.size wc7 w' := by
    refine (sc_Read ⟨#[111, 112, 101, 110, 10, 10, 35, 32, 120, 10, 116, 105, 99, 107, 32, 49, 32, 48]⟩ wc7 (by decide) (HT.out.below HB.out) (HM.out.below HB.out)).mono ?_
    rintro e w' ⟨v, rfl, h1, h2⟩
    rw [show Sc.read (⟨#[111, 112, 101, 110, 10, 10, 35, 32, 120, 10, 116, 105, 99, 107, 32, 49, 32, 48]⟩ : ByteArray).data.toList = _ from Sc.works_r1] at h1 ⊢
    exact ⟨v, rfl, h1, h2⟩
  have K := Lib.hid K
  go_wp2_with fail
  refine K.out.mono ?_
  rintro e wb8 ⟨v8, rfl, hv, hb⟩
  have HB := Lib.hid (HB.out.trans (hb.mono HB.out.size))
  have HU5 := Lib.hid (HU5.out.below hb)
  have HU7 := Lib.hid (HU7.out.below hb)
  have HX5 := Lib.hid ((hb.block _ (Array.getElem?_eq_some_iff.1 HX5.out).1).trans HX5.out)
  have HX7 := Lib.hid ((hb.block _ (Array.getElem?_eq_some_iff.1 HX7.out).1).trans HX7.out)
  have HV := Lib.hid hv
  clear hb K hv
  have K : Calls Tryz.prog 28 #[.string ⟨#[111, 112, 101, 110, 10, 111, 112, 101, 110, 115]⟩] wb8 fun e w' => ∃ v, e = .returned (.tuple #[v, .int .i64 1, .int .i64 390]) ∧ StsRow w' v [] ∧ Below wb8.heap.size wb8 w' := by
    refine (sc_Read ⟨#[111, 112, 101, 110, 10, 111, 112, 101, 110, 115]⟩ wb8 (by decide) (HT.out.below HB.out) (HM.out.below HB.out)).mono ?_
    rintro e w' ⟨v, rfl, h1, h2⟩
    rw [show Sc.read (⟨#[111, 112, 101, 110, 10, 111, 112, 101, 110, 115]⟩ : ByteArray).data.toList = _ from Sc.works_r2] at h1 ⊢
    exact ⟨v, rfl, h1, h2⟩
  have K := Lib.hid K
  go_wp2_with fail
  refine K.out.mono ?_
  rintro e wb9 ⟨v9, rfl, hv, hb⟩
  have HB := Lib.hid (HB.out.trans (hb.mono HB.out.size))
  have HU5 := Lib.hid (HU5.out.below hb)
  have HU7 := Lib.hid (HU7.out.below hb)
  have HV := Lib.hid (HV.out.below hb)
  have HX5 := Lib.hid ((hb.block _ (Array.getElem?_eq_some_iff.1 HX5.out).1).trans HX5.out)
  have HX7 := Lib.hid ((hb.block _ (Array.getElem?_eq_some_iff.1 HX7.out).1).trans HX7.out)
  clear hb K hv
  obtain ⟨g8, c8, u8, u8', rfl, hu8, hu8', ⟨a1, a2, a3, rfl⟩, ⟨b1, b2, b3, rfl⟩, hc⟩ := HV.out.two
  go_wp2_with fail
  refine (KN.out _ _).mono ?_
  rintro e w' ⟨rfl, hw⟩
  subst w'
  go_wp2_with fail
  refine (KN.out _ _).mono ?_
  rintro e w' ⟨rfl, hw⟩
  subst w'
  go_wp2_with fail
  refine (KN.out _ _).mono ?_
  rintro e w' ⟨rfl, hw⟩
  subst w'
  go_wp2_with fail
  refine (KN.out _ _).mono ?_
  rintro e w' ⟨rfl, hw⟩
  subst w'
  go_wp2_with fail
  refine (KN.out _ _).mono ?_
  rintro e w' ⟨rfl, hw⟩
  subst w'
  go_wp2_with fail
  refine (KN.out _ _).mono ?_
  rintro e w' ⟨rfl, hw⟩
  subst w'
  go_wp2_with fail
  refine (KN.out _ _).mono ?_
  rintro e w' ⟨rfl, hw⟩
  subst w'
  go_wp2_with fail
  refine (KN.out _ _).mono ?_
  rintro e w' ⟨rfl, hw⟩
  subst w'
  go_wp2_with fail
  refine (KN.out _ _).mono ?_
  rintro e w' ⟨rfl, hw⟩
  subst w'

  have HC := Lib.hid hc
  have HU8 := Lib.hid hu8
  have HU9 := Lib.hid hu8'
  have hx5 := HX5.out
  have y0 : wb9.cell? ⟨G5, 0, none⟩ = some (.int .i64 8) := by simp [World.cell?, hx5]
  have y1 : wb9.cell? ⟨G5, 1, none⟩ = some (.int .u64 0) := by simp [World.cell?, hx5]
  have y2 : wb9.cell? ⟨G5, 2, none⟩ = some (.int .i64 0) := by simp [World.cell?, hx5]
  have y3 : wb9.cell? ⟨G5, 3, none⟩ = some (.int .u64 0) := by simp [World.cell?, hx5]
  have y4 : wb9.cell? ⟨G5, 4, none⟩ = some (.int .u64 7) := by simp [World.cell?, hx5]
  have y5 : wb9.cell? ⟨G5, 5, none⟩ = some (.slice p5 n5 c5) := by simp [World.cell?, hx5]
  have K := Lib.hid (rf_SameStep 8 0 0 0 7 8 0 0 0 7 (.slice p5 n5 c5) (.slice none 0 0) [] [] wb9 HU5.out (BRow.nil _))
  rw [show decide ((8 : Int) = 8 ∧ (0 : Int) = 0 ∧ (0 : Int) = 0 ∧ (0 : Int) = 0 ∧ (7 : Int) = 7 ∧ ([] : List UInt8) = []) = true by decide] at K
  clear hx5 hc hu8 hu8'
  go_wp2_with fail
  refine K.out.mono ?_
  rintro e wd1 ⟨rfl, hb⟩
  have HB := Lib.hid (HB.out.trans (hb.mono HB.out.size))
  have HU7 := Lib.hid (HU7.out.below hb)
  have HU8 := Lib.hid (HU8.out.below hb)
  have HU9 := Lib.hid (HU9.out.below hb)
  have HX7 := Lib.hid ((hb.block _ (Array.getElem?_eq_some_iff.1 HX7.out).1).trans HX7.out)
  have HC := Lib.hid (fun j x h => cell_below hb (HC.out j x h))
  clear hb K y0 y1 y2 y3 y4 y5
  have hx7 := HX7.out
  have y0 : wd1.cell? ⟨G7, 0, none⟩ = some (.int .i64 3) := by simp [World.cell?, hx7]
  have y1 : wd1.cell? ⟨G7, 1, none⟩ = some (.int .u64 9) := by simp [World.cell?, hx7]
  have y2 : wd1.cell? ⟨G7, 2, none⟩ = some (.int .i64 0) := by simp [World.cell?, hx7]
  have y3 : wd1.cell? ⟨G7, 3, none⟩ = some (.slice p7 n7 c7) := by simp [World.cell?, hx7]
  have K := Lib.hid (rf_SameOut 3 9 0 3 9 0 (.slice p7 n7 c7) (.slice none 0 0) [] [] wd1 HU7.out (BRow.nil _))
  rw [show decide ((3 : Int) = 3 ∧ (9 : Int) = 9 ∧ (0 : Int) = 0 ∧ ([] : List UInt8) = []) = true by decide] at K
  clear hx7
  go_wp2_with fail
  refine K.out.mono ?_
  rintro e wd2 ⟨rfl, hb⟩
  have HB := Lib.hid (HB.out.trans (hb.mono HB.out.size))
  have HU8 := Lib.hid (HU8.out.below hb)
  have HU9 := Lib.hid (HU9.out.below hb)
  have HC := Lib.hid (fun j x h => cell_below hb (HC.out j x h))
  clear hb K y0 y1 y2 y3
  have y0 : wd2.cell? ⟨g8, 0, none⟩ = some (.int .i64 2) := HC.out 0 _ rfl
  have y1 : wd2.cell? ⟨g8, 1, none⟩ = some (.int .u64 0) := HC.out 1 _ rfl
  have y2 : wd2.cell? ⟨g8, 2, none⟩ = some (.int .i64 0) := HC.out 2 _ rfl
  have y3 : wd2.cell? ⟨g8, 3, none⟩ = some (.int .u64 0) := HC.out 3 _ rfl
  have y4 : wd2.cell? ⟨g8, 4, none⟩ = some (.int .u64 0) := HC.out 4 _ rfl
  have y5 : wd2.cell? ⟨g8, 5, none⟩ = some (.slice a1 a2 a3) := HC.out 5 _ rfl
  have K := Lib.hid (rf_SameStep 2 0 0 0 0 2 0 0 0 0 (.slice a1 a2 a3) (.slice none 0 0) [] [] wd2 HU8.out (BRow.nil _))
  rw [show decide ((2 : Int) = 2 ∧ (0 : Int) = 0 ∧ (0 : Int) = 0 ∧ (0 : Int) = 0 ∧ (0 : Int) = 0 ∧ ([] : List UInt8) = []) = true by decide] at K
  go_wp2_with fail
  refine K.out.mono ?_
  rintro e wd3 ⟨rfl, hb⟩
  have HB := Lib.hid (HB.out.trans (hb.mono HB.out.size))
  have HU8 := Lib.hid (HU8.out.below hb)
  have HU9 := Lib.hid (HU9.out.below hb)
  have HC := Lib.hid (fun j x h => cell_below hb (HC.out j x h))
  clear hb K y0 y1 y2 y3 y4 y5
  have y0 : wd3.cell? ⟨g8, 6, none⟩ = some (.int .i64 1) := HC.out 6 _ rfl
  have y1 : wd3.cell? ⟨g8, 7, none⟩ = some (.int .u64 0) := HC.out 7 _ rfl
  have y2 : wd3.cell? ⟨g8, 8, none⟩ = some (.int .i64 0) := HC.out 8 _ rfl
  have y3 : wd3.cell? ⟨g8, 9, none⟩ = some (.int .u64 1) := HC.out 9 _ rfl
  have y4 : wd3.cell? ⟨g8, 10, none⟩ = some (.int .u64 0) := HC.out 10 _ rfl
  have y5 : wd3.cell? ⟨g8, 11, none⟩ = some (.slice b1 b2 b3) := HC.out 11 _ rfl
  have K := Lib.hid (rf_SameStep 1 0 0 1 0 1 0 0 1 0 (.slice b1 b2 b3) (.slice none 0 0) [] [] wd3 HU9.out (BRow.nil _))
  rw [show decide ((1 : Int) = 1 ∧ (0 : Int) = 0 ∧ (0 : Int) = 0 ∧ (1 : Int) = 1 ∧ (0 : Int) = 0 ∧ ([] : List UInt8) = []) = true by decide] at K
  go_wp2_with fail
  refine K.out.mono ?_
  rintro e wd4 ⟨rfl, hb⟩
  have HB := Lib.hid (HB.out.trans (hb.mono HB.out.size))
  clear hb K y0 y1 y2 y3 y4 y5
  obtain ⟨gn, hg⟩ : ∃ z, wd4.heap.size = z := ⟨_, rfl⟩
  obtain ⟨wn, hw⟩ : ∃ z, wd4.alloc (.cells #[.string ⟨#[116, 105, 99, 107, 32, 49, 32, 48, 50]⟩, .string ⟨#[116, 105, 99, 107, 32, 49]⟩, .string ⟨#[98, 121, 116, 101, 115, 32, 51, 32, 97]⟩, .string ⟨#[98, 121, 116, 101, 115, 32, 51, 32, 61, 97, 37, 50, 102]⟩, .string ⟨#[111, 112, 101, 110, 32]⟩] 9) = z := ⟨_, rfl⟩
  have hb : Below wd4.heap.size wd4 wn := by rw [← hw]; exact (Below.refl _ _).alloc (Nat.le_refl _) _
  have hgn : wn.heap[gn]? = some (.cells (Sc.noL.map Value.string).toArray 9 (0, 0)) := by rw [← hw, ← hg]; exact World.alloc_heap_new _ _
  have HB := Lib.hid (HB.out.trans (hb.mono HB.out.size))
  have K := Lib.hid (sc_none Sc.noL gn wn Sc.works_n hgn (by decide) (HT.out.below HB.out) (HM.out.below HB.out))
  have HG := Lib.hid hg
  have HW := Lib.hid hw
  clear hb hgn hg hw
  go_wp2_with fail
  rw [HG.out, HW.out]
  refine K.out.mono ?_
  rintro e wz ⟨rfl, hb⟩
  have HB := Lib.hid (HB.out.trans (hb.mono HB.out.size))
  clear hb K
  go_wp2_with fail
  go_ret
  exact ⟨rfl, HB.out⟩
end Go.Proofs.YtbaakfcbakpmpaaGreatDoor

/- script: steps and outs that come in. No conditions but those that each law states. -/
namespace Go.Proofs.YtbaakfcbakpmpaaGreatDoor
set_option linter.unusedVariables false
set_option linter.unusedSimpArgs false
open Go.RowKit Go.Shelf Go.WideShapes Go.ChangeShapes Go.ChangeAt
set_option maxHeartbeats 8000000
set_option maxRecDepth 100000
section
variable {H : Type} {enc : TypeId × Value → H} {w : World} {base : Nat} {spare : Nat → Bool} {held : Bool}
theorem bytes_in {fuel : Nat} {v : Value} {y : DataW H × List MemPlace} {r : Reach} {b0 : Nat} (hok : Cell.okWide Tryz.prog w r b0 24 v) (h : DataW.trod enc Tryz.prog w base spare held fuel 24 [v] = some y) : ∃ l, BRow w v l := by
  rcases open_ints Tryz.underlying24 Tryz.underlying5 (by kernel_rfl) h with ⟨hcs, _⟩ | ⟨a, len, cap, zs, hcs, _, hl, hm, hz, _, hc, hw⟩
  · cases hcs
    exact ⟨[], BRow.nil w⟩
  · simp only [List.cons.injEq, and_true] at hcs
    subst hcs
    obtain ⟨b, off, spot⟩ := a
    have hsp : spot = none := by
      simp only [Tryz.underlying24, Cell.okWide, Cell.ok] at hok
      exact hok.2.2.2.1
    subst hsp
    have hlen : len ≤ zs.length := by rw [hz]; split <;> omega
    have hll : ((zs.take len).map (fun z => UInt8.ofNat z.toNat)).length = len := by rw [List.length_map, List.length_take]; omega
    refine ⟨(zs.take len).map (fun z => UInt8.ofNat z.toNat), ⟨some ⟨b, off, none⟩, cap, by rw [hll], by rw [hll]; exact hl, .inr ⟨b, off, rfl, fun j hj => ?_⟩⟩⟩
    rw [hll] at hj
    have h1 := hc j (by omega)
    rw [Lib.add_plain] at h1
    rw [h1]
    have h2 : zs[j]? = some (zs.getD j 0) := by
      rw [List.getD_eq_getElem?_getD, List.getElem?_eq_getElem (by omega)]; rfl
    have h3 := hw _ (List.mem_of_getElem? h2)
    have h4 : 0 ≤ zs.getD j 0 ∧ zs.getD j 0 ≤ 255 := by simpa [Lit.wf, IntKind.min, IntKind.max, IntKind.signed, IntKind.bits] using h3
    have h5 : ((zs.take len).map (fun z => UInt8.ofNat z.toNat)).getD j 0 = UInt8.ofNat (zs.getD j 0).toNat := by
      rw [List.getD_eq_getElem?_getD, List.getElem?_map, List.getElem?_take_of_lt hj, h2]; rfl
    rw [h5]
    unfold by8
    congr 2
    rw [UInt8.toNat_ofNat']
    omega
theorem array6S {α : Type} {cs : Array α} (h : cs.size = 6) : ∃ c0 c1 c2 c3 c4 c5, cs = #[c0, c1, c2, c3, c4, c5] := by
  obtain ⟨l⟩ := cs
  match l, h with
  | [c0, c1, c2, c3, c4, c5], _ => exact ⟨c0, c1, c2, c3, c4, c5, rfl⟩
theorem array4S {α : Type} {cs : Array α} (h : cs.size = 4) : ∃ c0 c1 c2 c3, cs = #[c0, c1, c2, c3] := by
  obtain ⟨l⟩ := cs
  match l, h with
  | [c0, c1, c2, c3], _ => exact ⟨c0, c1, c2, c3, rfl⟩
theorem step_cells : Tryz.prog.cellsOf 26 = 6 ∧ Tryz.prog.cellsOf 29 = 4 ∧ Tryz.prog.cellsOf 3 = 1 ∧ Tryz.prog.cellsOf 23 = 1 ∧ Tryz.prog.cellsOf 24 = 1 ∧ Tryz.prog.cellsOf 22 = 1 ∧ Tryz.prog.cellsOf 27 = 1 := ⟨by kernel_rfl, by kernel_rfl, by kernel_rfl, by kernel_rfl, by kernel_rfl, by kernel_rfl, by kernel_rfl⟩
theorem step_in {r : Reach} {b0 : Nat} {v : Value} {d : DataW H} {p : List MemPlace} (hv : Value.okWide Tryz.prog w r b0 26 v) (h : DataW.Trod enc Tryz.prog w base spare held 26 v d p) :
    ∃ (x : Sc.St) (u : Value), v = stVal x u ∧ BRow w u x.bytes ∧ x.ok := by
  obtain ⟨hc6, hc4, hc1, hc2, hc3, hc5, hc7⟩ := step_cells
  have hv' := hv
  obtain ⟨cs, rfl, hsz⟩ := okWide_struct Tryz.underlying26 hv
  obtain ⟨c0, c1, c2, c3, c4, c5, rfl⟩ := array6S (hsz.trans hc6)
  simp only [Value.okWide, Tryz.underlying26] at hv'
  obtain ⟨cs, hcs, _, ts, hts, _, hall⟩ := hv'
  cases hcs
  have hts' : ts = [22, 23, 3, 23, 23, 24] := Option.some.inj (hts.symm.trans (by kernel_rfl))
  subst hts'
  obtain ⟨u5, e5, k5⟩ := hall 5 c5 rfl
  cases e5
  obtain ⟨fuel, hf⟩ := h
  obtain ⟨xs, n, _, hxe, hl, hlen, hx⟩ := DataW.trod_struct Tryz.underlying26 hf
  match xs, hlen with
  | [y0, y1, y2, y3, y4, y5], _ =>
    have h0 := hx 0 _ rfl
    have h1 := hx 1 _ rfl
    have h2 := hx 2 _ rfl
    have h3 := hx 3 _ rfl
    have h4 := hx 4 _ rfl
    have h5 := hx 5 _ rfl
    simp [Value.cells, hc1, hc2, hc3, hc5, hc7] at h0 h1 h2 h3 h4 h5
    obtain ⟨l, hl5⟩ := bytes_in k5 h5
    obtain ⟨a0, e0, _, w0⟩ := DataW.trod_int Tryz.underlying22 h0
    obtain ⟨a1, e1, _, w1⟩ := DataW.trod_int Tryz.underlying23 h1
    obtain ⟨a2, e2, _, w2⟩ := DataW.trod_int Tryz.underlying3 h2
    obtain ⟨a3, e3, _, w3⟩ := DataW.trod_int Tryz.underlying23 h3
    obtain ⟨a4, e4, _, w4⟩ := DataW.trod_int Tryz.underlying23 h4
    simp [Lit.wf, IntKind.min, IntKind.max, IntKind.signed, IntKind.bits] at w1 w3 w4
    simp at e0 e1 e2 e3 e4
    subst e0 e1 e2 e3 e4
    refine ⟨⟨a0, a1.toNat, a2, a3.toNat, a4.toNat, l⟩, _, ?_, hl5, ?_⟩
    · unfold stVal
      rw [Int.toNat_of_nonneg (by omega), Int.toNat_of_nonneg (by omega), Int.toNat_of_nonneg (by omega)]
    · exact ⟨by show a1.toNat < _; omega, by show a3.toNat < _; omega, by show a4.toNat < _; omega⟩
theorem out_in {r : Reach} {b0 : Nat} {v : Value} {d : DataW H} {p : List MemPlace} (hv : Value.okWide Tryz.prog w r b0 29 v) (h : DataW.Trod enc Tryz.prog w base spare held 29 v d p) :
    ∃ (k : Int) (x : Sc.St) (u : Value), v = otVal k x u ∧ BRow w u x.bytes ∧ x.ok ∧ x.n = 0 ∧ x.draw = 0 ∧ x.kind = 0 := by
  obtain ⟨hc6, hc4, hc1, hc2, hc3, hc5, hc7⟩ := step_cells
  have hv' := hv
  obtain ⟨cs, rfl, hsz⟩ := okWide_struct Tryz.underlying29 hv
  obtain ⟨c0, c1, c2, c3, rfl⟩ := array4S (hsz.trans hc4)
  simp only [Value.okWide, Tryz.underlying29] at hv'
  obtain ⟨cs, hcs, _, ts, hts, _, hall⟩ := hv'
  cases hcs
  have hts' : ts = [27, 23, 3, 24] := Option.some.inj (hts.symm.trans (by kernel_rfl))
  subst hts'
  obtain ⟨u5, e5, k5⟩ := hall 3 c3 rfl
  cases e5
  obtain ⟨fuel, hf⟩ := h
  obtain ⟨xs, n, _, hxe, hl, hlen, hx⟩ := DataW.trod_struct Tryz.underlying29 hf
  match xs, hlen with
  | [y0, y1, y2, y3], _ =>
    have h0 := hx 0 _ rfl
    have h1 := hx 1 _ rfl
    have h2 := hx 2 _ rfl
    have h3 := hx 3 _ rfl
    simp [Value.cells, hc1, hc2, hc3, hc5, hc7] at h0 h1 h2 h3
    obtain ⟨l, hl5⟩ := bytes_in k5 h3
    obtain ⟨a0, e0, _, w0⟩ := DataW.trod_int Tryz.underlying27 h0
    obtain ⟨a1, e1, _, w1⟩ := DataW.trod_int Tryz.underlying23 h1
    obtain ⟨a2, e2, _, w2⟩ := DataW.trod_int Tryz.underlying3 h2
    simp [Lit.wf, IntKind.min, IntKind.max, IntKind.signed, IntKind.bits] at w1
    simp at e0 e1 e2
    subst e0 e1 e2
    refine ⟨a0, ⟨0, a1.toNat, a2, 0, 0, l⟩, _, ?_, hl5, ?_, rfl, rfl, rfl⟩
    · unfold otVal
      rw [Int.toNat_of_nonneg (by omega)]
    · exact ⟨by show a1.toNat < _; omega, by show (0 : Nat) < _; omega, by show (0 : Nat) < _; omega⟩
end
structure KX (w : World) : Prop where
  ml : ML w
  tabs : Tabs w
theorem KX.of {w : World} (h : ML w) (t : Tabs w) : KX w := ⟨h, t⟩
theorem KX.below {w w' : World} (h : KX w) (hb : Below w.heap.size w w') : KX w' := ⟨h.ml.below hb, h.tabs.below hb⟩
end Go.Proofs.YtbaakfcbakpmpaaGreatDoor

/- script: how long lines are. No program in sight. No conditions but those that each law states. -/
namespace Go.Proofs.YtbaakfcbakpmpaaGreatDoor
set_option linter.unusedVariables false
set_option linter.unusedSimpArgs false
open Go.RowKit Go.Shelf
set_option maxHeartbeats 8000000
set_option maxRecDepth 100000
theorem tell_short {x : Sc.St} (p : UInt8) (hl : x.bytes.length ≤ 10000) (hx : x.fine) : (Sc.tell x p).length ≤ 3 * x.bytes.length + 100 := by
  obtain ⟨⟨x1, x2, x3⟩, x4⟩ := hx
  have h1 := digs_short x.n x2
  have h2 := digs_short x.draw x3
  have h3 := digs_short x.conn x1
  have h4 := digs_short x.topic.toNat (by omega)
  have h5 := (Gt.enc_length x.bytes).2
  unfold Sc.tell
  split
  · omega
  · split
    · omega
    · split
      · omega
      · split
        · omega
        · simp; omega
theorem told_short (x : Sc.St) (hl : x.bytes.length ≤ 10000) (hx : x.fine) : ∀ ps : List UInt8, (Sc.told ps x).length ≤ ps.length * (3 * x.bytes.length + 101)
  | [] => by simp [Sc.told]
  | p :: ps => by
    have h1 := told_short x hl hx ps
    have h2 := tell_short p hl hx
    unfold Sc.told at h1 ⊢
    rw [List.flatMap_cons, List.length_append]
    simp only [List.length_cons]
    rw [Nat.add_mul]
    omega
theorem shape_short {T : Sc.Shapes} (hT : T = Sc.stepT ∨ T = Sc.outT) {k : Int} {nm ps : List UInt8} (h : Sc.shape T k = some (nm, ps)) : nm.length ≤ 10 ∧ ps.length ≤ 3 := by
  unfold Sc.shape at h
  cases hf : T.find? (fun e => e.1 == k) with
  | none => rw [hf] at h; cases h
  | some e =>
    rw [hf] at h
    have hm := List.mem_of_find?_eq_some hf
    obtain ⟨k', nm', ps'⟩ := e
    cases h
    have hall : (T.all fun e => decide (e.2.1.length ≤ 10 ∧ e.2.2.length ≤ 3)) = true := by rcases hT with rfl | rfl <;> decide
    have := List.all_eq_true.1 hall _ hm
    simpa using this
theorem line_short {T : Sc.Shapes} (hT : T = Sc.stepT ∨ T = Sc.outT) {k : Int} {x : Sc.St} {l : List UInt8} (hx : x.ok) (hl : x.bytes.length ≤ 10000) (h : Sc.line T k x = some l) : l.length ≤ 10 + 3 * (3 * x.bytes.length + 101) := by
  unfold Sc.line at h
  cases hs : Sc.shape T k with
  | none => rw [hs] at h; cases h
  | some e =>
    obtain ⟨nm, ps⟩ := e
    rw [hs] at h
    simp only at h
    by_cases hf : Sc.fit ps x = true
    · rw [if_pos hf] at h
      cases h
      obtain ⟨h1, h2⟩ := shape_short hT hs
      have hf2 : 0 ≤ x.topic ∧ x.topic ≤ 2147483647 := by
        unfold Sc.fit at hf
        rw [Bool.and_eq_true] at hf
        exact of_decide_eq_true hf.1
      have h3 := told_short x hl ⟨hx, hf2⟩ ps
      have h4 : ps.length * (3 * x.bytes.length + 101) ≤ 3 * (3 * x.bytes.length + 101) := Nat.mul_le_mul_right _ h2
      rw [List.length_append]
      omega
    · rw [if_neg hf] at h; cases h
theorem told_mem {x : Sc.St} {p : UInt8} : ∀ {ps : List UInt8}, p ∈ ps → (Sc.tell x p).length ≤ (Sc.told ps x).length
  | [], h => absurd h List.not_mem_nil
  | q :: ps, h => by
    unfold Sc.told
    rw [List.flatMap_cons, List.length_append]
    rcases List.mem_cons.1 h with rfl | h
    · simp only [List.length_cons]; omega
    · have := told_mem (x := x) h
      unfold Sc.told at this
      omega
theorem line_bytes {T : Sc.Shapes} {k : Int} {x : Sc.St} {l : List UInt8} (h : Sc.line T k x = some l) : x.bytes.length ≤ l.length := by
  unfold Sc.line at h
  cases hs : Sc.shape T k with
  | none => rw [hs] at h; cases h
  | some e =>
    obtain ⟨nm, ps⟩ := e
    rw [hs] at h
    simp only at h
    by_cases hf : Sc.fit ps x = true
    · rw [if_pos hf] at h
      cases h
      rw [List.length_append]
      by_cases hb : x.bytes = []
      · rw [hb]; simp
      · have h66 : 66 ∈ ps := by
          unfold Sc.fit Sc.rest at hf
          simp only [Bool.and_eq_true, Bool.or_eq_true] at hf
          rcases hf.2.2 with h | h
          · exact List.contains_iff_mem.1 h
          · exact absurd (by simpa using h) hb
        have h1 := told_mem (x := x) h66
        have h2 := (Gt.enc_length x.bytes).1
        have h3 : Sc.tell x 66 = 61 :: Gt.enc x.bytes := rfl
        rw [h3] at h1
        simp only [List.length_cons] at h1
        omega
    · rw [if_neg hf] at h; cases h
/-- a line that is written is read as what was written -/
theorem step_back {x : Sc.St} {l : List UInt8} (hx : x.ok) (h : Sc.line Sc.stepT x.kind x = some l) : stp (Sc.parse Sc.stepT l) = x ∧ erS (Sc.parse Sc.stepT l) = 0 := by
  rw [Sc.line_parse (.inl rfl) hx h]
  exact ⟨rfl, rfl⟩
theorem out_back {k : Int} {x : Sc.St} {l : List UInt8} (hx : x.ok) (h0 : x.kind = 0) (h : Sc.line Sc.outT k x = some l) : otk (Sc.parse Sc.outT l) = k ∧ ots (Sc.parse Sc.outT l) = x ∧ erS (Sc.parse Sc.outT l) = 0 := by
  rw [Sc.line_parse (.inr rfl) hx h]
  refine ⟨rfl, ?_, rfl⟩
  show { x with kind := 0 } = x
  rw [← h0]
theorem line_back {s : List UInt8} {k : Int} {y : Sc.St} (h : Sc.parse Sc.stepT s = some (k, y)) : Sc.line Sc.stepT (stp (some (k, y))).kind (stp (some (k, y))) = some s ∧ (stp (some (k, y))).bytes.length ≤ s.length ∧ (stp (some (k, y))).ok := by
  obtain ⟨h1, h2⟩ := Sc.parse_line (.inl rfl) h
  exact ⟨h1, line_bytes h1, h2.1⟩
theorem oline_back {s : List UInt8} {k : Int} {y : Sc.St} (h : Sc.parse Sc.outT s = some (k, y)) : Sc.line Sc.outT k y = some s ∧ y.bytes.length ≤ s.length ∧ y.ok := by
  obtain ⟨h1, h2⟩ := Sc.parse_line (.inr rfl) h
  exact ⟨h1, line_bytes h1, h2.1⟩
theorem read1_kind {p : UInt8} {w : List UInt8} {x y : Sc.St} (h : Sc.read1 p w x = some y) : y.kind = x.kind := by
  unfold Sc.read1 at h
  repeat' split at h
  all_goals first | (cases h; rfl) | cases h
theorem reads_kind : ∀ (ps : List UInt8) (ws : List (List UInt8)) (x y : Sc.St), Sc.reads ps ws x = some y → y.kind = x.kind
  | [], [], x, y, h => by cases h; rfl
  | [], w :: ws, x, y, h => by cases h
  | p :: ps, [], x, y, h => by cases h
  | p :: ps, w :: ws, x, y, h => by
    have h' : (Sc.read1 p w x).bind (Sc.reads ps ws) = some y := h
    cases h1 : Sc.read1 p w x with
    | none => rw [h1] at h'; cases h'
    | some z =>
      rw [h1] at h'
      exact (reads_kind ps ws z y h').trans (read1_kind h1)
theorem parse_kind {T : Sc.Shapes} {l : List UInt8} {k : Int} {y : Sc.St} (h : Sc.parse T l = some (k, y)) : y.kind = 0 := by
  unfold Sc.parse at h
  split at h
  · cases h
  · split at h
    · cases h
    · rename_i hr
      cases hx : Sc.reads _ _ Sc.St.zero with
      | none => rw [hx] at h; cases h
      | some z =>
        rw [hx] at h
        cases h
        exact reads_kind _ _ _ _ hx
theorem out_zero {l : List UInt8} {k : Int} {y : Sc.St} (h : Sc.parse Sc.outT l = some (k, y)) : y.n = 0 ∧ y.draw = 0 ∧ y.kind = 0 := by
  have h1 := (oline_back h).1
  unfold Sc.line at h1
  cases hs : Sc.shape Sc.outT k with
  | none => rw [hs] at h1; cases h1
  | some e =>
    obtain ⟨nm, ps⟩ := e
    rw [hs] at h1
    simp only at h1
    by_cases hf : Sc.fit ps y = true
    · have hp : ps.contains 78 = false ∧ ps.contains 68 = false := by
        unfold Sc.shape at hs
        cases hfd : Sc.outT.find? (fun e => e.1 == k) with
        | none => rw [hfd] at hs; cases hs
        | some e =>
          rw [hfd] at hs
          have hm := List.mem_of_find?_eq_some hfd
          obtain ⟨k', nm', ps'⟩ := e
          cases hs
          have hall : (Sc.outT.all fun e => !e.2.2.contains 78 && !e.2.2.contains 68) = true := by decide
          have := List.all_eq_true.1 hall _ hm
          simpa using this
      unfold Sc.fit Sc.rest at hf
      rw [hp.1, hp.2] at hf
      simp only [Bool.and_eq_true, Bool.or_eq_true, Bool.false_eq_true, false_or] at hf
      exact ⟨by simpa using hf.2.1.1.1.1, by simpa using hf.2.1.1.1.2, parse_kind h⟩
    · rw [if_neg hf] at h1; cases h1
end Go.Proofs.YtbaakfcbakpmpaaGreatDoor
