/- Texts of this claim, one behind the other: LSP. -/
import Derived.Test.YtbaakfcbakpmpaaGreatDoorUem7
import Derived.Deep.Cut
import Derived.Deep.DeepCutAuto
/- ScriptParses returns true for any text: the walk. The tables of the library, and its cell of a bound, read as they are laid. -/
namespace Go.Proofs.YtbaakfcbakpmpaaGreatDoor
set_option linter.unusedVariables false
set_option linter.unusedSimpArgs false
open Go.RowKit Go.Shelf
set_option maxHeartbeats 8000000
set_option maxRecDepth 100000
theorem walkSP (s : ByteArray) (w : World) (hs : s.size ≤ maxLen) (hk : KX w) :
    Calls Tryz.prog 4 #[.string s] w fun e w' => e = .returned (.bool true) ∧ Below w.heap.size w w' := by
  unfold maxLen at hs
  obtain ⟨N, hN⟩ : ∃ z, s.size = z := ⟨_, rfl⟩
  have HB := Lib.hid (Below.refl w.heap.size w)
  have HK := Lib.hid hk
  have HN := Lib.hid hN
  have KN := Lib.hid sc_num
  rw [hN] at hs
  clear hk
  go_enter Tryz.func4, Tryz.ntmps4
  by_cases h1 : 200 < N
  · have q1 : ((200 : Int) < (N : Int)) := by omega
    go_wp2_with fail
    refine (sc_works w HK.out.tabs HK.out.ml).mono ?_
    rintro e w2 ⟨rfl, hb⟩
    have HB := Lib.hid (HB.out.trans (hb.mono HB.out.size))
    clear hb
    go_wp2_with fail
    go_ret
    exact ⟨rfl, HB.out⟩
  have q1 : ¬ ((200 : Int) < (N : Int)) := by omega
  have hs5 : s.size ≤ 50000 := by rw [hN]; omega
  have HS5 := Lib.hid hs5
  obtain ⟨x, hx⟩ : ∃ z, stp (Sc.parse Sc.stepT s.data.toList) = z := ⟨_, rfl⟩
  obtain ⟨y, hy⟩ : ∃ z, ots (Sc.parse Sc.outT s.data.toList) = z := ⟨_, rfl⟩
  obtain ⟨ky, hky⟩ : ∃ z, otk (Sc.parse Sc.outT s.data.toList) = z := ⟨_, rfl⟩
  obtain ⟨na, hna⟩ : ∃ z, erS (Sc.parse Sc.stepT s.data.toList) = z := ⟨_, rfl⟩
  obtain ⟨nb, hnb⟩ : ∃ z, erS (Sc.parse Sc.outT s.data.toList) = z := ⟨_, rfl⟩
  have HX := Lib.hid hx
  have HY := Lib.hid hy
  have HKY := Lib.hid hky
  have HNA := Lib.hid hna
  have HNB := Lib.hid hnb
  have ea : (na == na) = true := beq_self_eq_true _
  have eb : (nb == nb) = true := beq_self_eq_true _
  clear h1 hx hy hky hna hnb hs5
  have K := sc_Parse s w HS5.out HK.out.tabs HK.out.ml
  rw [HX.out, HNA.out] at K
  have K := Lib.hid K
  go_wp2_with fail
  refine K.out.mono ?_
  rintro e v0 ⟨u, rfl, hu, _, _, hb⟩
  clear K
  obtain ⟨p0, n0, c0, rfl⟩ := hu.sl
  unfold stVal
  obtain ⟨B0, hB⟩ : ∃ z, v0.heap.size = z := ⟨_, rfl⟩
  obtain ⟨w0, hw⟩ : ∃ z, v0.alloc (.cells #[.int .i64 x.kind, .int .u64 (x.conn : Int), .int .i64 x.topic, .int .u64 (x.n : Int), .int .u64 (x.draw : Int), .slice p0 n0 c0] 26) = z := ⟨_, rfl⟩
  have hb2 : Below v0.heap.size v0 w0 := by rw [← hw]; exact (Below.refl _ _).alloc (Nat.le_refl _) _
  have hr : w0.heap[B0]? = some (stObj x (.slice p0 n0 c0)) := by rw [← hw, ← hB]; exact World.alloc_heap_new _ _
  have hb3 := hb.trans (hb2.mono hb.size)
  have HR0 := Lib.hid hr
  have HU0 := Lib.hid (hu.below hb2)
  have HK := Lib.hid (HK.out.below hb3)
  have HB := Lib.hid (HB.out.trans (hb3.mono HB.out.size))
  have HBB := Lib.hid hB
  have HWW := Lib.hid hw
  clear hb hb2 hb3 hr hB hw hu
  go_upto_region 4 with (fail)
  rw [HBB.out, HWW.out]
  clear HBB HWW
  have K := sc_OutParse s w0 HS5.out HK.out.tabs HK.out.ml
  rw [HY.out, HKY.out, HNB.out] at K
  have K := Lib.hid K
  go_wp2_with fail
  refine K.out.mono ?_
  rintro e v1 ⟨u, rfl, hu, _, hb⟩
  clear K
  obtain ⟨p1, n1, c1, rfl⟩ := hu.sl
  unfold otVal
  obtain ⟨B1, hB⟩ : ∃ z, v1.heap.size = z := ⟨_, rfl⟩
  obtain ⟨w1, hw⟩ : ∃ z, v1.alloc (.cells #[.int .i64 ky, .int .u64 (y.conn : Int), .int .i64 y.topic, .slice p1 n1 c1] 29) = z := ⟨_, rfl⟩
  have hb2 : Below v1.heap.size v1 w1 := by rw [← hw]; exact (Below.refl _ _).alloc (Nat.le_refl _) _
  have hr : w1.heap[B1]? = some (otObj ky y (.slice p1 n1 c1)) := by rw [← hw, ← hB]; exact World.alloc_heap_new _ _
  have hb3 := hb.trans (hb2.mono hb.size)
  have HR0 := Lib.hid ((hb3.block _ (Array.getElem?_eq_some_iff.1 HR0.out).1).trans HR0.out)
  have HU0 := Lib.hid (HU0.out.below hb3)
  have HR1 := Lib.hid hr
  have HU1 := Lib.hid (hu.below hb2)
  have HK := Lib.hid (HK.out.below hb3)
  have HB := Lib.hid (HB.out.trans (hb3.mono HB.out.size))
  have HBB := Lib.hid hB
  have HWW := Lib.hid hw
  clear hb hb2 hb3 hr hB hw hu
  go_upto_region 5 with (fail)
  rw [HBB.out, HWW.out]
  clear HBB HWW
  have K := rf_Parse s w1 HS5.out
  rw [HX.out, HNA.out] at K
  have K := Lib.hid K
  go_wp2_with fail
  refine K.out.mono ?_
  rintro e v2 ⟨u, rfl, hu, _, hb⟩
  clear K
  obtain ⟨p2, n2, c2, rfl⟩ := hu.sl
  unfold stVal
  obtain ⟨B2, hB⟩ : ∃ z, v2.heap.size = z := ⟨_, rfl⟩
  obtain ⟨w2, hw⟩ : ∃ z, v2.alloc (.cells #[.int .i64 x.kind, .int .u64 (x.conn : Int), .int .i64 x.topic, .int .u64 (x.n : Int), .int .u64 (x.draw : Int), .slice p2 n2 c2] 26) = z := ⟨_, rfl⟩
  have hb2 : Below v2.heap.size v2 w2 := by rw [← hw]; exact (Below.refl _ _).alloc (Nat.le_refl _) _
  have hr : w2.heap[B2]? = some (stObj x (.slice p2 n2 c2)) := by rw [← hw, ← hB]; exact World.alloc_heap_new _ _
  have hb3 := hb.trans (hb2.mono hb.size)
  have HR0 := Lib.hid ((hb3.block _ (Array.getElem?_eq_some_iff.1 HR0.out).1).trans HR0.out)
  have HR1 := Lib.hid ((hb3.block _ (Array.getElem?_eq_some_iff.1 HR1.out).1).trans HR1.out)
  have HU0 := Lib.hid (HU0.out.below hb3)
  have HU1 := Lib.hid (HU1.out.below hb3)
  have HR2 := Lib.hid hr
  have HU2 := Lib.hid (hu.below hb2)
  have HK := Lib.hid (HK.out.below hb3)
  have HB := Lib.hid (HB.out.trans (hb3.mono HB.out.size))
  have HBB := Lib.hid hB
  have HWW := Lib.hid hw
  clear hb hb2 hb3 hr hB hw hu
  go_upto_region 6 with (fail)
  rw [HBB.out, HWW.out]
  clear HBB HWW
  have K := rf_OutParse s w2 HS5.out
  rw [HY.out, HKY.out, HNB.out] at K
  have K := Lib.hid K
  go_wp2_with fail
  refine K.out.mono ?_
  rintro e v3 ⟨u, rfl, hu, _, hb⟩
  clear K
  obtain ⟨p3, n3, c3, rfl⟩ := hu.sl
  unfold otVal
  obtain ⟨B3, hB⟩ : ∃ z, v3.heap.size = z := ⟨_, rfl⟩
  obtain ⟨w3, hw⟩ : ∃ z, v3.alloc (.cells #[.int .i64 ky, .int .u64 (y.conn : Int), .int .i64 y.topic, .slice p3 n3 c3] 29) = z := ⟨_, rfl⟩
  have hb2 : Below v3.heap.size v3 w3 := by rw [← hw]; exact (Below.refl _ _).alloc (Nat.le_refl _) _
  have hr : w3.heap[B3]? = some (otObj ky y (.slice p3 n3 c3)) := by rw [← hw, ← hB]; exact World.alloc_heap_new _ _
  have hb3 := hb.trans (hb2.mono hb.size)
  have HR0 := Lib.hid ((hb3.block _ (Array.getElem?_eq_some_iff.1 HR0.out).1).trans HR0.out)
  have HR1 := Lib.hid ((hb3.block _ (Array.getElem?_eq_some_iff.1 HR1.out).1).trans HR1.out)
  have HR2 := Lib.hid ((hb3.block _ (Array.getElem?_eq_some_iff.1 HR2.out).1).trans HR2.out)
  have HU0 := Lib.hid (HU0.out.below hb3)
  have HU1 := Lib.hid (HU1.out.below hb3)
  have HU2 := Lib.hid (HU2.out.below hb3)
  have HR3 := Lib.hid hr
  have HU3 := Lib.hid (hu.below hb2)
  have HK := Lib.hid (HK.out.below hb3)
  have HB := Lib.hid (HB.out.trans (hb3.mono HB.out.size))
  have HBB := Lib.hid hB
  have HWW := Lib.hid hw
  clear hb hb2 hb3 hr hB hw hu
  go_upto_region 7 with (fail)
  rw [HBB.out, HWW.out]
  clear HBB HWW
  obtain ⟨a0, a1, a2, a3, a4, a5, _⟩ := SR.of HR0.out
  obtain ⟨b0, b1, b2, b3, b4, b5, _⟩ := SR.of HR2.out
  have K := rf_SameStep x.kind (x.conn : Int) x.topic (x.n : Int) (x.draw : Int) x.kind (x.conn : Int) x.topic (x.n : Int) (x.draw : Int) (.slice p0 n0 c0) (.slice p2 n2 c2) x.bytes x.bytes w3 HU0.out HU2.out
  rw [decide_eq_true (show x.kind = x.kind ∧ (x.conn : Int) = (x.conn : Int) ∧ x.topic = x.topic ∧ (x.n : Int) = (x.n : Int) ∧ (x.draw : Int) = (x.draw : Int) ∧ x.bytes = x.bytes from ⟨rfl, rfl, rfl, rfl, rfl, rfl⟩)] at K
  have K := Lib.hid K
  go_wp2_with fail
  refine K.out.mono ?_
  rintro e w4 ⟨rfl, hb⟩
  have HR0 := Lib.hid ((hb.block _ (Array.getElem?_eq_some_iff.1 HR0.out).1).trans HR0.out)
  have HR1 := Lib.hid ((hb.block _ (Array.getElem?_eq_some_iff.1 HR1.out).1).trans HR1.out)
  have HR2 := Lib.hid ((hb.block _ (Array.getElem?_eq_some_iff.1 HR2.out).1).trans HR2.out)
  have HR3 := Lib.hid ((hb.block _ (Array.getElem?_eq_some_iff.1 HR3.out).1).trans HR3.out)
  have HU0 := Lib.hid (HU0.out.below hb)
  have HU1 := Lib.hid (HU1.out.below hb)
  have HU2 := Lib.hid (HU2.out.below hb)
  have HU3 := Lib.hid (HU3.out.below hb)
  have HK := Lib.hid (HK.out.below hb)
  have HB := Lib.hid (HB.out.trans (hb.mono HB.out.size))
  clear hb K a0 a1 a2 a3 a4 a5 b0 b1 b2 b3 b4 b5
  go_wp2_with fail
  refine (KN.out _ _).mono ?_
  rintro e w' ⟨rfl, hw⟩
  subst w'
  obtain ⟨a0, a1, a2, a3, _⟩ := OR.of HR1.out
  obtain ⟨b0, b1, b2, b3, _⟩ := OR.of HR3.out
  have K := rf_SameOut ky (y.conn : Int) y.topic ky (y.conn : Int) y.topic (.slice p1 n1 c1) (.slice p3 n3 c3) y.bytes y.bytes w4 HU1.out HU3.out
  rw [decide_eq_true (show ky = ky ∧ (y.conn : Int) = (y.conn : Int) ∧ y.topic = y.topic ∧ y.bytes = y.bytes from ⟨rfl, rfl, rfl, rfl⟩)] at K
  have K := Lib.hid K
  go_wp2_with fail
  refine K.out.mono ?_
  rintro e w5 ⟨rfl, hb⟩
  have HK := Lib.hid (HK.out.below hb)
  have HB := Lib.hid (HB.out.trans (hb.mono HB.out.size))
  clear hb K a0 a1 a2 a3 b0 b1 b2 b3
  go_wp2_with fail
  refine (KN.out _ _).mono ?_
  rintro e w' ⟨rfl, hw⟩
  subst w'
  have KW := Lib.hid (sc_works w5 HK.out.tabs HK.out.ml)
  go_wp2_with fail
  refine KW.out.mono ?_
  rintro e w2 ⟨rfl, hb⟩
  have HB := Lib.hid (HB.out.trans (hb.mono HB.out.size))
  clear hb
  go_wp2_with fail
  go_ret
  exact ⟨rfl, HB.out⟩
end Go.Proofs.YtbaakfcbakpmpaaGreatDoor
