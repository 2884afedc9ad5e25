/- Texts of this claim, one behind the other: LSH. -/
import Derived.Test.YtbaakfcbakpmpaaGreatDoorSwm6
import Derived.Deep.Cut
import Derived.Deep.DeepCutAuto
/- ScriptHolds returns true for any step, any out and any text: the walk. The tables of the library, and its cell of a bound, read as they are laid. -/
namespace Go.Proofs.YtbaakfcbakpmpaaGreatDoor
set_option linter.unusedVariables false
set_option linter.unusedSimpArgs false
open Go.RowKit Go.Shelf
set_option maxHeartbeats 8000000
set_option maxRecDepth 100000
theorem walkSH (x : Sc.St) (ux : Value) (k : Int) (o : Sc.St) (uo : Value) (s : ByteArray) (w : World) (hx : BRow w ux x.bytes) (hxo : x.ok) (ho : BRow w uo o.bytes) (hoo : o.ok) (h0 : o.n = 0 ∧ o.draw = 0 ∧ o.kind = 0) (hs : s.size ≤ maxLen) (hk : KX w) :
    Calls Tryz.prog 6 #[stVal x ux, otVal k o uo, .string s] w fun e w' => e = .returned (.bool true) ∧ Below w.heap.size w w' := by
  obtain ⟨px, cx, rfl⟩ : ∃ p c, ux = .slice p x.bytes.length c := by obtain ⟨p, c, h, _⟩ := hx; exact ⟨p, c, h⟩
  obtain ⟨po, co, rfl⟩ : ∃ p c, uo = .slice p o.bytes.length c := by obtain ⟨p, c, h, _⟩ := ho; exact ⟨p, c, h⟩
  obtain ⟨nx, hnx⟩ : ∃ z, x.bytes.length = z := ⟨_, rfl⟩
  obtain ⟨no, hno⟩ : ∃ z, o.bytes.length = z := ⟨_, rfl⟩
  rw [hnx] at hx ⊢
  rw [hno] at ho ⊢
  obtain ⟨B, hB⟩ : ∃ z, w.heap.size = z := ⟨_, rfl⟩
  obtain ⟨W, hW⟩ : ∃ z, (w.alloc (.cells #[.int .i64 x.kind, .int .u64 (x.conn : Int), .int .i64 x.topic, .int .u64 (x.n : Int), .int .u64 (x.draw : Int), .slice px nx cx] 26)).alloc (.cells #[.int .i64 k, .int .u64 (o.conn : Int), .int .i64 o.topic, .slice po no co] 29) = z := ⟨_, rfl⟩
  have hb : Below w.heap.size w W := by rw [← hW]; exact ((Below.refl _ _).alloc (Nat.le_refl _) _).alloc (by simp) _
  have hX : W.heap[B]? = some (stObj x (.slice px nx cx)) := by rw [← hW, Below.heap_alloc _ _ _ (by simp [hB]), ← hB]; exact World.alloc_heap_new _ _
  have hO : W.heap[B + 1]? = some (otObj k o (.slice po no co)) := by
    rw [← hW]
    have h := World.alloc_heap_new (w.alloc (.cells #[.int .i64 x.kind, .int .u64 (x.conn : Int), .int .i64 x.topic, .int .u64 (x.n : Int), .int .u64 (x.draw : Int), .slice px nx cx] 26)) (.cells #[.int .i64 k, .int .u64 (o.conn : Int), .int .i64 o.topic, .slice po no co] 29)
    have h2 : w.heap.size + 1 = B + 1 := by rw [hB]
    rw [World.size_alloc, h2] at h
    exact h
  obtain ⟨x0, x1, x2, x3, x4, x5, _⟩ := SR.of hX
  obtain ⟨o0, o1, o2, o3, _⟩ := OR.of hO
  have HX := Lib.hid hX
  have HO := Lib.hid hO
  have HU := Lib.hid (hx.below hb)
  have HV := Lib.hid (ho.below hb)
  have HB := Lib.hid hb
  have HK := Lib.hid (hk.below hb)
  have HBB := Lib.hid hB
  have HWW := Lib.hid hW
  have HNX := Lib.hid hnx
  have HNO := Lib.hid hno
  have KN := Lib.hid sc_num
  have HXO := Lib.hid hxo
  have HOO := Lib.hid hoo
  have HZO := Lib.hid h0
  clear hxo hoo h0
  clear hX hO hx ho hb hk hB hW hnx hno
  unfold stVal otVal
  go_enter Tryz.func6, Tryz.ntmps6
  go_upto_region 1 with (fail)
  rw [HBB.out, HWW.out]
  by_cases h1 : 200 < nx
  · have q1 : ((200 : Int) < (nx : Int)) := by omega
    go_wp2_with fail
    refine (sc_works W HK.out.tabs HK.out.ml).mono ?_
    rintro e w2 ⟨rfl, hb⟩
    have HB := Lib.hid (HB.out.trans (hb.mono HB.out.size))
    clear hb
    go_wp2_with fail
    go_ret
    exact ⟨rfl, HB.out⟩
  have q1 : ¬ ((200 : Int) < (nx : Int)) := by omega
  by_cases h2 : 200 < no
  · have q2 : ((200 : Int) < (no : Int)) := by omega
    go_wp2_with fail
    refine (sc_works W HK.out.tabs HK.out.ml).mono ?_
    rintro e w2 ⟨rfl, hb⟩
    have HB := Lib.hid (HB.out.trans (hb.mono HB.out.size))
    clear hb
    go_wp2_with fail
    go_ret
    exact ⟨rfl, HB.out⟩
  have q2 : ¬ ((200 : Int) < (no : Int)) := by omega
  by_cases h3 : 200 < s.size
  · have q3 : ((200 : Int) < (s.size : Int)) := by omega
    go_wp2_with fail
    refine (sc_works W HK.out.tabs HK.out.ml).mono ?_
    rintro e w2 ⟨rfl, hb⟩
    have HB := Lib.hid (HB.out.trans (hb.mono HB.out.size))
    clear hb
    go_wp2_with fail
    go_ret
    exact ⟨rfl, HB.out⟩
  have q3 : ¬ ((200 : Int) < (s.size : Int)) := by omega
  go_upto_region 3 with (fail)
  clear x0 x1 x2 x3 x4 x5 o0 o1 o2 o3 q1 q2 q3
  have K := sc_Text x (.slice px nx cx) W HU.out (by have := HNX.out; omega) HXO.out HK.out.tabs
  unfold stVal at K
  obtain ⟨x0, x1, x2, x3, x4, x5, _⟩ := SR.of HX.out
  cases hl : Sc.line Sc.stepT x.kind x with
  | none =>
    rw [hl] at K
    unfold txtOut at K
    simp only at K
    have K := Lib.hid K
    clear hl
    go_wp2_with fail
    refine K.out.mono ?_
    rintro e v1 ⟨rfl, hb⟩
    have HX := Lib.hid ((hb.block _ (Array.getElem?_eq_some_iff.1 HX.out).1).trans HX.out)
    have HO := Lib.hid ((hb.block _ (Array.getElem?_eq_some_iff.1 HO.out).1).trans HO.out)
    have HU := Lib.hid (HU.out.below hb)
    have HV := Lib.hid (HV.out.below hb)
    have HB := Lib.hid (HB.out.trans (hb.mono HB.out.size))
    have HK := Lib.hid (HK.out.below hb)
    clear hb K x0 x1 x2 x3 x4 x5
    go_wp2_with fail
    refine (KN.out _ _).mono ?_
    rintro e w' ⟨rfl, hw⟩
    subst w'
    go_upto_region 8 with (fail)
    have K := sc_OutText k o (.slice po no co) v1 HV.out (by have := HNO.out; omega) HOO.out HK.out.tabs HZO.out
    unfold otVal at K
    obtain ⟨x0, x1, x2, x3, _⟩ := OR.of HO.out
    cases hl : Sc.line Sc.outT k o with
    | none =>
      rw [hl] at K
      unfold txtOut at K
      simp only at K
      have K := Lib.hid K
      clear hl
      go_wp2_with fail
      refine K.out.mono ?_
      rintro e v2 ⟨rfl, hb⟩
      have HX := Lib.hid ((hb.block _ (Array.getElem?_eq_some_iff.1 HX.out).1).trans HX.out)
      have HO := Lib.hid ((hb.block _ (Array.getElem?_eq_some_iff.1 HO.out).1).trans HO.out)
      have HU := Lib.hid (HU.out.below hb)
      have HV := Lib.hid (HV.out.below hb)
      have HB := Lib.hid (HB.out.trans (hb.mono HB.out.size))
      have HK := Lib.hid (HK.out.below hb)
      clear hb K x0 x1 x2 x3
      go_wp2_with fail
      refine (KN.out _ _).mono ?_
      rintro e w' ⟨rfl, hw⟩
      subst w'
      go_upto_region 13 with (fail)
      have K := sc_Parse s v2 (by omega) HK.out.tabs HK.out.ml
      cases hp : Sc.parse Sc.stepT s.data.toList with
      | none =>
        rw [hp] at K
        obtain ⟨yy, hyy⟩ : ∃ z, stp none = z := ⟨_, rfl⟩
        rw [hyy] at K
        rw [show (erS none : Int) = 390 from rfl] at K
        have K := Lib.hid K
        clear hp hyy
        go_wp2_with fail
        refine K.out.mono ?_
        rintro e v3 ⟨u, rfl, hu, _, _, hb⟩
        obtain ⟨pu, nu, cu, rfl⟩ := hu.sl
        have HUU := Lib.hid hu
        have HX := Lib.hid ((hb.block _ (Array.getElem?_eq_some_iff.1 HX.out).1).trans HX.out)
        have HO := Lib.hid ((hb.block _ (Array.getElem?_eq_some_iff.1 HO.out).1).trans HO.out)
        have HU := Lib.hid (HU.out.below hb)
        have HV := Lib.hid (HV.out.below hb)
        have HB := Lib.hid (HB.out.trans (hb.mono HB.out.size))
        have HK := Lib.hid (HK.out.below hb)
        clear hb K hu
        unfold stVal
        go_upto_region 14 with (fail)
        obtain ⟨G, hG⟩ : ∃ z, v3.heap.size = z := ⟨_, rfl⟩
        obtain ⟨v4, hw⟩ : ∃ z, v3.alloc (.cells #[.int .i64 yy.kind, .int .u64 (yy.conn : Int), .int .i64 yy.topic, .int .u64 (yy.n : Int), .int .u64 (yy.draw : Int), .slice pu nu cu] 26) = z := ⟨_, rfl⟩
        have hb : Below v3.heap.size v3 v4 := by rw [← hw]; exact (Below.refl _ _).alloc (Nat.le_refl _) _
        have hg : v4.heap[G]? = some (stObj yy (.slice pu nu cu)) := by rw [← hw, ← hG]; exact World.alloc_heap_new _ _
        have HUU := Lib.hid (HUU.out.below hb)
        have HX := Lib.hid ((hb.block _ (Array.getElem?_eq_some_iff.1 HX.out).1).trans HX.out)
        have HO := Lib.hid ((hb.block _ (Array.getElem?_eq_some_iff.1 HO.out).1).trans HO.out)
        have HU := Lib.hid (HU.out.below hb)
        have HV := Lib.hid (HV.out.below hb)
        have HB := Lib.hid (HB.out.trans (hb.mono HB.out.size))
        have HK := Lib.hid (HK.out.below hb)
        rw [hG, hw]
        clear hb hG hw
        clear hg
        go_wp2_with fail
        refine (KN.out _ _).mono ?_
        rintro e w' ⟨rfl, hw⟩
        subst w'
        go_upto_region 18 with (fail)
        have K := sc_OutParse s v4 (by omega) HK.out.tabs HK.out.ml
        cases hp : Sc.parse Sc.outT s.data.toList with
        | none =>
          rw [hp] at K
          obtain ⟨yy, hyy⟩ : ∃ z, ots none = z := ⟨_, rfl⟩
          obtain ⟨kk, hkk⟩ : ∃ z, otk none = z := ⟨_, rfl⟩
          rw [hyy, hkk] at K
          rw [show (erS none : Int) = 390 from rfl] at K
          have K := Lib.hid K
          clear hp hyy hkk
          go_wp2_with fail
          refine K.out.mono ?_
          rintro e v5 ⟨u, rfl, hu, _, hb⟩
          obtain ⟨pu, nu, cu, rfl⟩ := hu.sl
          have HUU := Lib.hid hu
          have HX := Lib.hid ((hb.block _ (Array.getElem?_eq_some_iff.1 HX.out).1).trans HX.out)
          have HO := Lib.hid ((hb.block _ (Array.getElem?_eq_some_iff.1 HO.out).1).trans HO.out)
          have HU := Lib.hid (HU.out.below hb)
          have HV := Lib.hid (HV.out.below hb)
          have HB := Lib.hid (HB.out.trans (hb.mono HB.out.size))
          have HK := Lib.hid (HK.out.below hb)
          clear hb K hu
          unfold otVal
          go_upto_region 19 with (fail)
          obtain ⟨G, hG⟩ : ∃ z, v5.heap.size = z := ⟨_, rfl⟩
          obtain ⟨v6, hw⟩ : ∃ z, v5.alloc (.cells #[.int .i64 kk, .int .u64 (yy.conn : Int), .int .i64 yy.topic, .slice pu nu cu] 29) = z := ⟨_, rfl⟩
          have hb : Below v5.heap.size v5 v6 := by rw [← hw]; exact (Below.refl _ _).alloc (Nat.le_refl _) _
          have hg : v6.heap[G]? = some (otObj kk yy (.slice pu nu cu)) := by rw [← hw, ← hG]; exact World.alloc_heap_new _ _
          have HUU := Lib.hid (HUU.out.below hb)
          have HX := Lib.hid ((hb.block _ (Array.getElem?_eq_some_iff.1 HX.out).1).trans HX.out)
          have HO := Lib.hid ((hb.block _ (Array.getElem?_eq_some_iff.1 HO.out).1).trans HO.out)
          have HU := Lib.hid (HU.out.below hb)
          have HV := Lib.hid (HV.out.below hb)
          have HB := Lib.hid (HB.out.trans (hb.mono HB.out.size))
          have HK := Lib.hid (HK.out.below hb)
          rw [hG, hw]
          clear hb hG hw
          clear hg
          go_wp2_with fail
          refine (KN.out _ _).mono ?_
          rintro e w' ⟨rfl, hw⟩
          subst w'
          go_upto_region 23 with (fail)
          have KW := Lib.hid (sc_works v6 HK.out.tabs HK.out.ml)
          go_wp2_with fail
          refine KW.out.mono ?_
          rintro e v7 ⟨rfl, hb⟩
          have HB := Lib.hid (HB.out.trans (hb.mono HB.out.size))
          clear hb
          go_wp2_with fail
          go_ret
          exact ⟨rfl, HB.out⟩
        | some r =>
          obtain ⟨kk, y⟩ := r
          rw [hp] at K
          obtain ⟨b1, b2, b3⟩ := oline_back hp
          have b4 := out_zero hp
          obtain ⟨yy, hyy⟩ : ∃ z, ots (some (kk, y)) = z := ⟨_, rfl⟩
          have hyk : otk (some (kk, y)) = kk := rfl
          have hy2 : y = yy := hyy
          rw [hyy, hyk] at K
          rw [hy2] at b1 b2 b3 b4
          rw [show (erS (some (kk, y)) : Int) = 0 from rfl] at K
          have K := Lib.hid K
          have HB1 := Lib.hid b1
          have HB3 := Lib.hid b3
          have HB4 := Lib.hid b4
          have HB2 := Lib.hid (show yy.bytes.length ≤ 100000 by
            have h2 : s.data.toList.length = s.size := by simp
            omega)
          clear hp hyy b1 b2 b3 b4 hyk hy2
          go_wp2_with fail
          refine K.out.mono ?_
          rintro e v8 ⟨u, rfl, hu, _, hb⟩
          obtain ⟨pu, nu, cu, rfl⟩ := hu.sl
          have HUU := Lib.hid hu
          have HX := Lib.hid ((hb.block _ (Array.getElem?_eq_some_iff.1 HX.out).1).trans HX.out)
          have HO := Lib.hid ((hb.block _ (Array.getElem?_eq_some_iff.1 HO.out).1).trans HO.out)
          have HU := Lib.hid (HU.out.below hb)
          have HV := Lib.hid (HV.out.below hb)
          have HB := Lib.hid (HB.out.trans (hb.mono HB.out.size))
          have HK := Lib.hid (HK.out.below hb)
          clear hb K hu
          unfold otVal
          go_upto_region 19 with (fail)
          obtain ⟨G, hG⟩ : ∃ z, v8.heap.size = z := ⟨_, rfl⟩
          obtain ⟨v9, hw⟩ : ∃ z, v8.alloc (.cells #[.int .i64 kk, .int .u64 (yy.conn : Int), .int .i64 yy.topic, .slice pu nu cu] 29) = z := ⟨_, rfl⟩
          have hb : Below v8.heap.size v8 v9 := by rw [← hw]; exact (Below.refl _ _).alloc (Nat.le_refl _) _
          have hg : v9.heap[G]? = some (otObj kk yy (.slice pu nu cu)) := by rw [← hw, ← hG]; exact World.alloc_heap_new _ _
          have HUU := Lib.hid (HUU.out.below hb)
          have HX := Lib.hid ((hb.block _ (Array.getElem?_eq_some_iff.1 HX.out).1).trans HX.out)
          have HO := Lib.hid ((hb.block _ (Array.getElem?_eq_some_iff.1 HO.out).1).trans HO.out)
          have HU := Lib.hid (HU.out.below hb)
          have HV := Lib.hid (HV.out.below hb)
          have HB := Lib.hid (HB.out.trans (hb.mono HB.out.size))
          have HK := Lib.hid (HK.out.below hb)
          rw [hG, hw]
          clear hb hG hw
          obtain ⟨g0, g1, g2, g3, _⟩ := OR.of hg
          have K := sc_OutText kk yy (.slice pu nu cu) v9 HUU.out HB2.out HB3.out HK.out.tabs HB4.out
          rw [HB1.out] at K
          unfold txtOut otVal at K
          simp only at K
          rw [ba_eta] at K
          have K := Lib.hid K
          clear hg
          go_wp2_with fail
          refine (KN.out _ _).mono ?_
          rintro e w' ⟨rfl, hw⟩
          subst w'
          go_wp2_with fail
          refine K.out.mono ?_
          rintro e v10 ⟨rfl, hb⟩
          have HX := Lib.hid ((hb.block _ (Array.getElem?_eq_some_iff.1 HX.out).1).trans HX.out)
          have HO := Lib.hid ((hb.block _ (Array.getElem?_eq_some_iff.1 HO.out).1).trans HO.out)
          have HU := Lib.hid (HU.out.below hb)
          have HV := Lib.hid (HV.out.below hb)
          have HB := Lib.hid (HB.out.trans (hb.mono HB.out.size))
          have HK := Lib.hid (HK.out.below hb)
          clear hb K g0 g1 g2 g3
          go_wp2_with fail
          refine (KN.out _ _).mono ?_
          rintro e w' ⟨rfl, hw⟩
          subst w'
          go_upto_region 23 with (fail)
          have KW := Lib.hid (sc_works v10 HK.out.tabs HK.out.ml)
          go_wp2_with fail
          refine KW.out.mono ?_
          rintro e v11 ⟨rfl, hb⟩
          have HB := Lib.hid (HB.out.trans (hb.mono HB.out.size))
          clear hb
          go_wp2_with fail
          go_ret
          exact ⟨rfl, HB.out⟩
      | some r =>
        obtain ⟨kk, y⟩ := r
        rw [hp] at K
        obtain ⟨b1, b2, b3⟩ := line_back hp
        obtain ⟨yy, hyy⟩ : ∃ z, stp (some (kk, y)) = z := ⟨_, rfl⟩
        rw [hyy] at K b1 b2 b3
        rw [show (erS (some (kk, y)) : Int) = 0 from rfl] at K
        have K := Lib.hid K
        have HB1 := Lib.hid b1
        have HB3 := Lib.hid b3
        have HB2 := Lib.hid (show yy.bytes.length ≤ 100000 by
          have h2 : s.data.toList.length = s.size := by simp
          omega)
        clear hp hyy b1 b2 b3
        go_wp2_with fail
        refine K.out.mono ?_
        rintro e v12 ⟨u, rfl, hu, _, _, hb⟩
        obtain ⟨pu, nu, cu, rfl⟩ := hu.sl
        have HUU := Lib.hid hu
        have HX := Lib.hid ((hb.block _ (Array.getElem?_eq_some_iff.1 HX.out).1).trans HX.out)
        have HO := Lib.hid ((hb.block _ (Array.getElem?_eq_some_iff.1 HO.out).1).trans HO.out)
        have HU := Lib.hid (HU.out.below hb)
        have HV := Lib.hid (HV.out.below hb)
        have HB := Lib.hid (HB.out.trans (hb.mono HB.out.size))
        have HK := Lib.hid (HK.out.below hb)
        clear hb K hu
        unfold stVal
        go_upto_region 14 with (fail)
        obtain ⟨G, hG⟩ : ∃ z, v12.heap.size = z := ⟨_, rfl⟩
        obtain ⟨v13, hw⟩ : ∃ z, v12.alloc (.cells #[.int .i64 yy.kind, .int .u64 (yy.conn : Int), .int .i64 yy.topic, .int .u64 (yy.n : Int), .int .u64 (yy.draw : Int), .slice pu nu cu] 26) = z := ⟨_, rfl⟩
        have hb : Below v12.heap.size v12 v13 := by rw [← hw]; exact (Below.refl _ _).alloc (Nat.le_refl _) _
        have hg : v13.heap[G]? = some (stObj yy (.slice pu nu cu)) := by rw [← hw, ← hG]; exact World.alloc_heap_new _ _
        have HUU := Lib.hid (HUU.out.below hb)
        have HX := Lib.hid ((hb.block _ (Array.getElem?_eq_some_iff.1 HX.out).1).trans HX.out)
        have HO := Lib.hid ((hb.block _ (Array.getElem?_eq_some_iff.1 HO.out).1).trans HO.out)
        have HU := Lib.hid (HU.out.below hb)
        have HV := Lib.hid (HV.out.below hb)
        have HB := Lib.hid (HB.out.trans (hb.mono HB.out.size))
        have HK := Lib.hid (HK.out.below hb)
        rw [hG, hw]
        clear hb hG hw
        obtain ⟨g0, g1, g2, g3, g4, g5, _⟩ := SR.of hg
        have K := sc_Text yy (.slice pu nu cu) v13 HUU.out HB2.out HB3.out HK.out.tabs
        rw [HB1.out] at K
        unfold txtOut stVal at K
        simp only at K
        rw [ba_eta] at K
        have K := Lib.hid K
        clear hg
        go_wp2_with fail
        refine (KN.out _ _).mono ?_
        rintro e w' ⟨rfl, hw⟩
        subst w'
        go_wp2_with fail
        refine K.out.mono ?_
        rintro e v14 ⟨rfl, hb⟩
        have HX := Lib.hid ((hb.block _ (Array.getElem?_eq_some_iff.1 HX.out).1).trans HX.out)
        have HO := Lib.hid ((hb.block _ (Array.getElem?_eq_some_iff.1 HO.out).1).trans HO.out)
        have HU := Lib.hid (HU.out.below hb)
        have HV := Lib.hid (HV.out.below hb)
        have HB := Lib.hid (HB.out.trans (hb.mono HB.out.size))
        have HK := Lib.hid (HK.out.below hb)
        clear hb K g0 g1 g2 g3 g4 g5
        go_wp2_with fail
        refine (KN.out _ _).mono ?_
        rintro e w' ⟨rfl, hw⟩
        subst w'
        go_upto_region 18 with (fail)
        have K := sc_OutParse s v14 (by omega) HK.out.tabs HK.out.ml
        cases hp : Sc.parse Sc.outT s.data.toList with
        | none =>
          rw [hp] at K
          obtain ⟨yy, hyy⟩ : ∃ z, ots none = z := ⟨_, rfl⟩
          obtain ⟨kk, hkk⟩ : ∃ z, otk none = z := ⟨_, rfl⟩
          rw [hyy, hkk] at K
          rw [show (erS none : Int) = 390 from rfl] at K
          have K := Lib.hid K
          clear hp hyy hkk
          go_wp2_with fail
          refine K.out.mono ?_
          rintro e v15 ⟨u, rfl, hu, _, hb⟩
          obtain ⟨pu, nu, cu, rfl⟩ := hu.sl
          have HUU := Lib.hid hu
          have HX := Lib.hid ((hb.block _ (Array.getElem?_eq_some_iff.1 HX.out).1).trans HX.out)
          have HO := Lib.hid ((hb.block _ (Array.getElem?_eq_some_iff.1 HO.out).1).trans HO.out)
          have HU := Lib.hid (HU.out.below hb)
          have HV := Lib.hid (HV.out.below hb)
          have HB := Lib.hid (HB.out.trans (hb.mono HB.out.size))
          have HK := Lib.hid (HK.out.below hb)
          clear hb K hu
          unfold otVal
          go_upto_region 19 with (fail)
          obtain ⟨G, hG⟩ : ∃ z, v15.heap.size = z := ⟨_, rfl⟩
          obtain ⟨v16, hw⟩ : ∃ z, v15.alloc (.cells #[.int .i64 kk, .int .u64 (yy.conn : Int), .int .i64 yy.topic, .slice pu nu cu] 29) = z := ⟨_, rfl⟩
          have hb : Below v15.heap.size v15 v16 := by rw [← hw]; exact (Below.refl _ _).alloc (Nat.le_refl _) _
          have hg : v16.heap[G]? = some (otObj kk yy (.slice pu nu cu)) := by rw [← hw, ← hG]; exact World.alloc_heap_new _ _
          have HUU := Lib.hid (HUU.out.below hb)
          have HX := Lib.hid ((hb.block _ (Array.getElem?_eq_some_iff.1 HX.out).1).trans HX.out)
          have HO := Lib.hid ((hb.block _ (Array.getElem?_eq_some_iff.1 HO.out).1).trans HO.out)
          have HU := Lib.hid (HU.out.below hb)
          have HV := Lib.hid (HV.out.below hb)
          have HB := Lib.hid (HB.out.trans (hb.mono HB.out.size))
          have HK := Lib.hid (HK.out.below hb)
          rw [hG, hw]
          clear hb hG hw
          clear hg
          go_wp2_with fail
          refine (KN.out _ _).mono ?_
          rintro e w' ⟨rfl, hw⟩
          subst w'
          go_upto_region 23 with (fail)
          have KW := Lib.hid (sc_works v16 HK.out.tabs HK.out.ml)
          go_wp2_with fail
          refine KW.out.mono ?_
          rintro e v17 ⟨rfl, hb⟩
          have HB := Lib.hid (HB.out.trans (hb.mono HB.out.size))
          clear hb
          go_wp2_with fail
          go_ret
          exact ⟨rfl, HB.out⟩
        | some r =>
          obtain ⟨kk, y⟩ := r
          rw [hp] at K
          obtain ⟨b1, b2, b3⟩ := oline_back hp
          have b4 := out_zero hp
          obtain ⟨yy, hyy⟩ : ∃ z, ots (some (kk, y)) = z := ⟨_, rfl⟩
          have hyk : otk (some (kk, y)) = kk := rfl
          have hy2 : y = yy := hyy
          rw [hyy, hyk] at K
          rw [hy2] at b1 b2 b3 b4
          rw [show (erS (some (kk, y)) : Int) = 0 from rfl] at K
          have K := Lib.hid K
          have HB1 := Lib.hid b1
          have HB3 := Lib.hid b3
          have HB4 := Lib.hid b4
          have HB2 := Lib.hid (show yy.bytes.length ≤ 100000 by
            have h2 : s.data.toList.length = s.size := by simp
            omega)
          clear hp hyy b1 b2 b3 b4 hyk hy2
          go_wp2_with fail
          refine K.out.mono ?_
          rintro e v18 ⟨u, rfl, hu, _, hb⟩
          obtain ⟨pu, nu, cu, rfl⟩ := hu.sl
          have HUU := Lib.hid hu
          have HX := Lib.hid ((hb.block _ (Array.getElem?_eq_some_iff.1 HX.out).1).trans HX.out)
          have HO := Lib.hid ((hb.block _ (Array.getElem?_eq_some_iff.1 HO.out).1).trans HO.out)
          have HU := Lib.hid (HU.out.below hb)
          have HV := Lib.hid (HV.out.below hb)
          have HB := Lib.hid (HB.out.trans (hb.mono HB.out.size))
          have HK := Lib.hid (HK.out.below hb)
          clear hb K hu
          unfold otVal
          go_upto_region 19 with (fail)
          obtain ⟨G, hG⟩ : ∃ z, v18.heap.size = z := ⟨_, rfl⟩
          obtain ⟨v19, hw⟩ : ∃ z, v18.alloc (.cells #[.int .i64 kk, .int .u64 (yy.conn : Int), .int .i64 yy.topic, .slice pu nu cu] 29) = z := ⟨_, rfl⟩
          have hb : Below v18.heap.size v18 v19 := by rw [← hw]; exact (Below.refl _ _).alloc (Nat.le_refl _) _
          have hg : v19.heap[G]? = some (otObj kk yy (.slice pu nu cu)) := by rw [← hw, ← hG]; exact World.alloc_heap_new _ _
          have HUU := Lib.hid (HUU.out.below hb)
          have HX := Lib.hid ((hb.block _ (Array.getElem?_eq_some_iff.1 HX.out).1).trans HX.out)
          have HO := Lib.hid ((hb.block _ (Array.getElem?_eq_some_iff.1 HO.out).1).trans HO.out)
          have HU := Lib.hid (HU.out.below hb)
          have HV := Lib.hid (HV.out.below hb)
          have HB := Lib.hid (HB.out.trans (hb.mono HB.out.size))
          have HK := Lib.hid (HK.out.below hb)
          rw [hG, hw]
          clear hb hG hw
          obtain ⟨g0, g1, g2, g3, _⟩ := OR.of hg
          have K := sc_OutText kk yy (.slice pu nu cu) v19 HUU.out HB2.out HB3.out HK.out.tabs HB4.out
          rw [HB1.out] at K
          unfold txtOut otVal at K
          simp only at K
          rw [ba_eta] at K
          have K := Lib.hid K
          clear hg
          go_wp2_with fail
          refine (KN.out _ _).mono ?_
          rintro e w' ⟨rfl, hw⟩
          subst w'
          go_wp2_with fail
          refine K.out.mono ?_
          rintro e v20 ⟨rfl, hb⟩
          have HX := Lib.hid ((hb.block _ (Array.getElem?_eq_some_iff.1 HX.out).1).trans HX.out)
          have HO := Lib.hid ((hb.block _ (Array.getElem?_eq_some_iff.1 HO.out).1).trans HO.out)
          have HU := Lib.hid (HU.out.below hb)
          have HV := Lib.hid (HV.out.below hb)
          have HB := Lib.hid (HB.out.trans (hb.mono HB.out.size))
          have HK := Lib.hid (HK.out.below hb)
          clear hb K g0 g1 g2 g3
          go_wp2_with fail
          refine (KN.out _ _).mono ?_
          rintro e w' ⟨rfl, hw⟩
          subst w'
          go_upto_region 23 with (fail)
          have KW := Lib.hid (sc_works v20 HK.out.tabs HK.out.ml)
          go_wp2_with fail
          refine KW.out.mono ?_
          rintro e v21 ⟨rfl, hb⟩
          have HB := Lib.hid (HB.out.trans (hb.mono HB.out.size))
          clear hb
          go_wp2_with fail
          go_ret
          exact ⟨rfl, HB.out⟩
    | some l =>
      rw [hl] at K
      unfold txtOut at K
      simp only at K
      obtain ⟨t, htt⟩ : ∃ z : ByteArray, (⟨l.toArray⟩ : ByteArray) = z := ⟨_, rfl⟩
      have htd : t.data.toList = l := by rw [← htt]
      have HSZ := Lib.hid (show t.size ≤ 50000 by
        have h1 := line_short (.inr rfl) HOO.out (by have := HNO.out; omega) hl
        have h2 : t.data.toList.length = t.size := by simp
        rw [htd] at h2
        have := HNO.out
        omega)
      obtain ⟨b0, b1, b2⟩ := out_back HOO.out HZO.out.2.2 hl
      rw [htt] at K
      have K := Lib.hid K
      have HTD := Lib.hid htd
      have HB1 := Lib.hid b1
      have HB2 := Lib.hid b2
      have HB0 := Lib.hid b0
      clear hl htt htd b1 b2 b0
      go_wp2_with fail
      refine K.out.mono ?_
      rintro e v22 ⟨rfl, hb⟩
      have HX := Lib.hid ((hb.block _ (Array.getElem?_eq_some_iff.1 HX.out).1).trans HX.out)
      have HO := Lib.hid ((hb.block _ (Array.getElem?_eq_some_iff.1 HO.out).1).trans HO.out)
      have HU := Lib.hid (HU.out.below hb)
      have HV := Lib.hid (HV.out.below hb)
      have HB := Lib.hid (HB.out.trans (hb.mono HB.out.size))
      have HK := Lib.hid (HK.out.below hb)
      clear hb K x0 x1 x2 x3
      have K := sc_OutParse t v22 HSZ.out HK.out.tabs HK.out.ml
      rw [HTD.out, HB0.out, HB1.out, HB2.out] at K
      have K := Lib.hid K
      go_wp2_with fail
      refine (KN.out _ _).mono ?_
      rintro e w' ⟨rfl, hw⟩
      subst w'
      go_wp2_with fail
      refine K.out.mono ?_
      rintro e v23 ⟨u, rfl, hu, _, hb⟩
      obtain ⟨pu, nu, cu, rfl⟩ := hu.sl
      have HUU := Lib.hid hu
      have HX := Lib.hid ((hb.block _ (Array.getElem?_eq_some_iff.1 HX.out).1).trans HX.out)
      have HO := Lib.hid ((hb.block _ (Array.getElem?_eq_some_iff.1 HO.out).1).trans HO.out)
      have HU := Lib.hid (HU.out.below hb)
      have HV := Lib.hid (HV.out.below hb)
      have HB := Lib.hid (HB.out.trans (hb.mono HB.out.size))
      have HK := Lib.hid (HK.out.below hb)
      clear hb K hu
      unfold otVal
      go_upto_region 11 with (fail)
      obtain ⟨G, hG⟩ : ∃ z, v23.heap.size = z := ⟨_, rfl⟩
      obtain ⟨v24, hw⟩ : ∃ z, v23.alloc (.cells #[.int .i64 k, .int .u64 (o.conn : Int), .int .i64 o.topic, .slice pu nu cu] 29) = z := ⟨_, rfl⟩
      have hb : Below v23.heap.size v23 v24 := by rw [← hw]; exact (Below.refl _ _).alloc (Nat.le_refl _) _
      have hg : v24.heap[G]? = some (otObj k o (.slice pu nu cu)) := by rw [← hw, ← hG]; exact World.alloc_heap_new _ _
      have HUU := Lib.hid (HUU.out.below hb)
      have HX := Lib.hid ((hb.block _ (Array.getElem?_eq_some_iff.1 HX.out).1).trans HX.out)
      have HO := Lib.hid ((hb.block _ (Array.getElem?_eq_some_iff.1 HO.out).1).trans HO.out)
      have HU := Lib.hid (HU.out.below hb)
      have HV := Lib.hid (HV.out.below hb)
      have HB := Lib.hid (HB.out.trans (hb.mono HB.out.size))
      have HK := Lib.hid (HK.out.below hb)
      rw [hG, hw]
      clear hb hG hw
      obtain ⟨x0, x1, x2, x3, _⟩ := OR.of HO.out
      obtain ⟨g0, g1, g2, g3, _⟩ := OR.of hg
      have K := sc_SameOut k (o.conn : Int) o.topic k (o.conn : Int) o.topic (.slice po no co) (.slice pu nu cu) o.bytes o.bytes v24 HV.out HUU.out
      rw [decide_eq_true (And.intro rfl (And.intro rfl (And.intro rfl rfl)))] at K
      have K := Lib.hid K
      clear hg
      go_wp2_with fail
      refine (KN.out _ _).mono ?_
      rintro e w' ⟨rfl, hw⟩
      subst w'
      go_wp2_with fail
      refine K.out.mono ?_
      rintro e v25 ⟨rfl, hb⟩
      have HX := Lib.hid ((hb.block _ (Array.getElem?_eq_some_iff.1 HX.out).1).trans HX.out)
      have HO := Lib.hid ((hb.block _ (Array.getElem?_eq_some_iff.1 HO.out).1).trans HO.out)
      have HU := Lib.hid (HU.out.below hb)
      have HV := Lib.hid (HV.out.below hb)
      have HB := Lib.hid (HB.out.trans (hb.mono HB.out.size))
      have HK := Lib.hid (HK.out.below hb)
      clear hb K x0 x1 x2 x3 g0 g1 g2 g3
      go_upto_region 13 with (fail)
      have K := sc_Parse s v25 (by omega) HK.out.tabs HK.out.ml
      cases hp : Sc.parse Sc.stepT s.data.toList with
      | none =>
        rw [hp] at K
        obtain ⟨yy, hyy⟩ : ∃ z, stp none = z := ⟨_, rfl⟩
        rw [hyy] at K
        rw [show (erS none : Int) = 390 from rfl] at K
        have K := Lib.hid K
        clear hp hyy
        go_wp2_with fail
        refine K.out.mono ?_
        rintro e v26 ⟨u, rfl, hu, _, _, hb⟩
        obtain ⟨pu, nu, cu, rfl⟩ := hu.sl
        have HUU := Lib.hid hu
        have HX := Lib.hid ((hb.block _ (Array.getElem?_eq_some_iff.1 HX.out).1).trans HX.out)
        have HO := Lib.hid ((hb.block _ (Array.getElem?_eq_some_iff.1 HO.out).1).trans HO.out)
        have HU := Lib.hid (HU.out.below hb)
        have HV := Lib.hid (HV.out.below hb)
        have HB := Lib.hid (HB.out.trans (hb.mono HB.out.size))
        have HK := Lib.hid (HK.out.below hb)
        clear hb K hu
        unfold stVal
        go_upto_region 14 with (fail)
        obtain ⟨G, hG⟩ : ∃ z, v26.heap.size = z := ⟨_, rfl⟩
        obtain ⟨v27, hw⟩ : ∃ z, v26.alloc (.cells #[.int .i64 yy.kind, .int .u64 (yy.conn : Int), .int .i64 yy.topic, .int .u64 (yy.n : Int), .int .u64 (yy.draw : Int), .slice pu nu cu] 26) = z := ⟨_, rfl⟩
        have hb : Below v26.heap.size v26 v27 := by rw [← hw]; exact (Below.refl _ _).alloc (Nat.le_refl _) _
        have hg : v27.heap[G]? = some (stObj yy (.slice pu nu cu)) := by rw [← hw, ← hG]; exact World.alloc_heap_new _ _
        have HUU := Lib.hid (HUU.out.below hb)
        have HX := Lib.hid ((hb.block _ (Array.getElem?_eq_some_iff.1 HX.out).1).trans HX.out)
        have HO := Lib.hid ((hb.block _ (Array.getElem?_eq_some_iff.1 HO.out).1).trans HO.out)
        have HU := Lib.hid (HU.out.below hb)
        have HV := Lib.hid (HV.out.below hb)
        have HB := Lib.hid (HB.out.trans (hb.mono HB.out.size))
        have HK := Lib.hid (HK.out.below hb)
        rw [hG, hw]
        clear hb hG hw
        clear hg
        go_wp2_with fail
        refine (KN.out _ _).mono ?_
        rintro e w' ⟨rfl, hw⟩
        subst w'
        go_upto_region 18 with (fail)
        have K := sc_OutParse s v27 (by omega) HK.out.tabs HK.out.ml
        cases hp : Sc.parse Sc.outT s.data.toList with
        | none =>
          rw [hp] at K
          obtain ⟨yy, hyy⟩ : ∃ z, ots none = z := ⟨_, rfl⟩
          obtain ⟨kk, hkk⟩ : ∃ z, otk none = z := ⟨_, rfl⟩
          rw [hyy, hkk] at K
          rw [show (erS none : Int) = 390 from rfl] at K
          have K := Lib.hid K
          clear hp hyy hkk
          go_wp2_with fail
          refine K.out.mono ?_
          rintro e v28 ⟨u, rfl, hu, _, hb⟩
          obtain ⟨pu, nu, cu, rfl⟩ := hu.sl
          have HUU := Lib.hid hu
          have HX := Lib.hid ((hb.block _ (Array.getElem?_eq_some_iff.1 HX.out).1).trans HX.out)
          have HO := Lib.hid ((hb.block _ (Array.getElem?_eq_some_iff.1 HO.out).1).trans HO.out)
          have HU := Lib.hid (HU.out.below hb)
          have HV := Lib.hid (HV.out.below hb)
          have HB := Lib.hid (HB.out.trans (hb.mono HB.out.size))
          have HK := Lib.hid (HK.out.below hb)
          clear hb K hu
          unfold otVal
          go_upto_region 19 with (fail)
          obtain ⟨G, hG⟩ : ∃ z, v28.heap.size = z := ⟨_, rfl⟩
          obtain ⟨v29, hw⟩ : ∃ z, v28.alloc (.cells #[.int .i64 kk, .int .u64 (yy.conn : Int), .int .i64 yy.topic, .slice pu nu cu] 29) = z := ⟨_, rfl⟩
          have hb : Below v28.heap.size v28 v29 := by rw [← hw]; exact (Below.refl _ _).alloc (Nat.le_refl _) _
          have hg : v29.heap[G]? = some (otObj kk yy (.slice pu nu cu)) := by rw [← hw, ← hG]; exact World.alloc_heap_new _ _
          have HUU := Lib.hid (HUU.out.below hb)
          have HX := Lib.hid ((hb.block _ (Array.getElem?_eq_some_iff.1 HX.out).1).trans HX.out)
          have HO := Lib.hid ((hb.block _ (Array.getElem?_eq_some_iff.1 HO.out).1).trans HO.out)
          have HU := Lib.hid (HU.out.below hb)
          have HV := Lib.hid (HV.out.below hb)
          have HB := Lib.hid (HB.out.trans (hb.mono HB.out.size))
          have HK := Lib.hid (HK.out.below hb)
          rw [hG, hw]
          clear hb hG hw
          clear hg
          go_wp2_with fail
          refine (KN.out _ _).mono ?_
          rintro e w' ⟨rfl, hw⟩
          subst w'
          go_upto_region 23 with (fail)
          have KW := Lib.hid (sc_works v29 HK.out.tabs HK.out.ml)
          go_wp2_with fail
          refine KW.out.mono ?_
          rintro e v30 ⟨rfl, hb⟩
          have HB := Lib.hid (HB.out.trans (hb.mono HB.out.size))
          clear hb
          go_wp2_with fail
          go_ret
          exact ⟨rfl, HB.out⟩
        | some r =>
          obtain ⟨kk, y⟩ := r
          rw [hp] at K
          obtain ⟨b1, b2, b3⟩ := oline_back hp
          have b4 := out_zero hp
          obtain ⟨yy, hyy⟩ : ∃ z, ots (some (kk, y)) = z := ⟨_, rfl⟩
          have hyk : otk (some (kk, y)) = kk := rfl
          have hy2 : y = yy := hyy
          rw [hyy, hyk] at K
          rw [hy2] at b1 b2 b3 b4
          rw [show (erS (some (kk, y)) : Int) = 0 from rfl] at K
          have K := Lib.hid K
          have HB1 := Lib.hid b1
          have HB3 := Lib.hid b3
          have HB4 := Lib.hid b4
          have HB2 := Lib.hid (show yy.bytes.length ≤ 100000 by
            have h2 : s.data.toList.length = s.size := by simp
            omega)
          clear hp hyy b1 b2 b3 b4 hyk hy2
          go_wp2_with fail
          refine K.out.mono ?_
          rintro e v31 ⟨u, rfl, hu, _, hb⟩
          obtain ⟨pu, nu, cu, rfl⟩ := hu.sl
          have HUU := Lib.hid hu
          have HX := Lib.hid ((hb.block _ (Array.getElem?_eq_some_iff.1 HX.out).1).trans HX.out)
          have HO := Lib.hid ((hb.block _ (Array.getElem?_eq_some_iff.1 HO.out).1).trans HO.out)
          have HU := Lib.hid (HU.out.below hb)
          have HV := Lib.hid (HV.out.below hb)
          have HB := Lib.hid (HB.out.trans (hb.mono HB.out.size))
          have HK := Lib.hid (HK.out.below hb)
          clear hb K hu
          unfold otVal
          go_upto_region 19 with (fail)
          obtain ⟨G, hG⟩ : ∃ z, v31.heap.size = z := ⟨_, rfl⟩
          obtain ⟨v32, hw⟩ : ∃ z, v31.alloc (.cells #[.int .i64 kk, .int .u64 (yy.conn : Int), .int .i64 yy.topic, .slice pu nu cu] 29) = z := ⟨_, rfl⟩
          have hb : Below v31.heap.size v31 v32 := by rw [← hw]; exact (Below.refl _ _).alloc (Nat.le_refl _) _
          have hg : v32.heap[G]? = some (otObj kk yy (.slice pu nu cu)) := by rw [← hw, ← hG]; exact World.alloc_heap_new _ _
          have HUU := Lib.hid (HUU.out.below hb)
          have HX := Lib.hid ((hb.block _ (Array.getElem?_eq_some_iff.1 HX.out).1).trans HX.out)
          have HO := Lib.hid ((hb.block _ (Array.getElem?_eq_some_iff.1 HO.out).1).trans HO.out)
          have HU := Lib.hid (HU.out.below hb)
          have HV := Lib.hid (HV.out.below hb)
          have HB := Lib.hid (HB.out.trans (hb.mono HB.out.size))
          have HK := Lib.hid (HK.out.below hb)
          rw [hG, hw]
          clear hb hG hw
          obtain ⟨g0, g1, g2, g3, _⟩ := OR.of hg
          have K := sc_OutText kk yy (.slice pu nu cu) v32 HUU.out HB2.out HB3.out HK.out.tabs HB4.out
          rw [HB1.out] at K
          unfold txtOut otVal at K
          simp only at K
          rw [ba_eta] at K
          have K := Lib.hid K
          clear hg
          go_wp2_with fail
          refine (KN.out _ _).mono ?_
          rintro e w' ⟨rfl, hw⟩
          subst w'
          go_wp2_with fail
          refine K.out.mono ?_
          rintro e v33 ⟨rfl, hb⟩
          have HX := Lib.hid ((hb.block _ (Array.getElem?_eq_some_iff.1 HX.out).1).trans HX.out)
          have HO := Lib.hid ((hb.block _ (Array.getElem?_eq_some_iff.1 HO.out).1).trans HO.out)
          have HU := Lib.hid (HU.out.below hb)
          have HV := Lib.hid (HV.out.below hb)
          have HB := Lib.hid (HB.out.trans (hb.mono HB.out.size))
          have HK := Lib.hid (HK.out.below hb)
          clear hb K g0 g1 g2 g3
          go_wp2_with fail
          refine (KN.out _ _).mono ?_
          rintro e w' ⟨rfl, hw⟩
          subst w'
          go_upto_region 23 with (fail)
          have KW := Lib.hid (sc_works v33 HK.out.tabs HK.out.ml)
          go_wp2_with fail
          refine KW.out.mono ?_
          rintro e v34 ⟨rfl, hb⟩
          have HB := Lib.hid (HB.out.trans (hb.mono HB.out.size))
          clear hb
          go_wp2_with fail
          go_ret
          exact ⟨rfl, HB.out⟩
      | some r =>
        obtain ⟨kk, y⟩ := r
        rw [hp] at K
        obtain ⟨b1, b2, b3⟩ := line_back hp
        obtain ⟨yy, hyy⟩ : ∃ z, stp (some (kk, y)) = z := ⟨_, rfl⟩
        rw [hyy] at K b1 b2 b3
        rw [show (erS (some (kk, y)) : Int) = 0 from rfl] at K
        have K := Lib.hid K
        have HB1 := Lib.hid b1
        have HB3 := Lib.hid b3
        have HB2 := Lib.hid (show yy.bytes.length ≤ 100000 by
          have h2 : s.data.toList.length = s.size := by simp
          omega)
        clear hp hyy b1 b2 b3
        go_wp2_with fail
        refine K.out.mono ?_
        rintro e v35 ⟨u, rfl, hu, _, _, hb⟩
        obtain ⟨pu, nu, cu, rfl⟩ := hu.sl
        have HUU := Lib.hid hu
        have HX := Lib.hid ((hb.block _ (Array.getElem?_eq_some_iff.1 HX.out).1).trans HX.out)
        have HO := Lib.hid ((hb.block _ (Array.getElem?_eq_some_iff.1 HO.out).1).trans HO.out)
        have HU := Lib.hid (HU.out.below hb)
        have HV := Lib.hid (HV.out.below hb)
        have HB := Lib.hid (HB.out.trans (hb.mono HB.out.size))
        have HK := Lib.hid (HK.out.below hb)
        clear hb K hu
        unfold stVal
        go_upto_region 14 with (fail)
        obtain ⟨G, hG⟩ : ∃ z, v35.heap.size = z := ⟨_, rfl⟩
        obtain ⟨v36, hw⟩ : ∃ z, v35.alloc (.cells #[.int .i64 yy.kind, .int .u64 (yy.conn : Int), .int .i64 yy.topic, .int .u64 (yy.n : Int), .int .u64 (yy.draw : Int), .slice pu nu cu] 26) = z := ⟨_, rfl⟩
        have hb : Below v35.heap.size v35 v36 := by rw [← hw]; exact (Below.refl _ _).alloc (Nat.le_refl _) _
        have hg : v36.heap[G]? = some (stObj yy (.slice pu nu cu)) := by rw [← hw, ← hG]; exact World.alloc_heap_new _ _
        have HUU := Lib.hid (HUU.out.below hb)
        have HX := Lib.hid ((hb.block _ (Array.getElem?_eq_some_iff.1 HX.out).1).trans HX.out)
        have HO := Lib.hid ((hb.block _ (Array.getElem?_eq_some_iff.1 HO.out).1).trans HO.out)
        have HU := Lib.hid (HU.out.below hb)
        have HV := Lib.hid (HV.out.below hb)
        have HB := Lib.hid (HB.out.trans (hb.mono HB.out.size))
        have HK := Lib.hid (HK.out.below hb)
        rw [hG, hw]
        clear hb hG hw
        obtain ⟨g0, g1, g2, g3, g4, g5, _⟩ := SR.of hg
        have K := sc_Text yy (.slice pu nu cu) v36 HUU.out HB2.out HB3.out HK.out.tabs
        rw [HB1.out] at K
        unfold txtOut stVal at K
        simp only at K
        rw [ba_eta] at K
        have K := Lib.hid K
        clear hg
        go_wp2_with fail
        refine (KN.out _ _).mono ?_
        rintro e w' ⟨rfl, hw⟩
        subst w'
        go_wp2_with fail
        refine K.out.mono ?_
        rintro e v37 ⟨rfl, hb⟩
        have HX := Lib.hid ((hb.block _ (Array.getElem?_eq_some_iff.1 HX.out).1).trans HX.out)
        have HO := Lib.hid ((hb.block _ (Array.getElem?_eq_some_iff.1 HO.out).1).trans HO.out)
        have HU := Lib.hid (HU.out.below hb)
        have HV := Lib.hid (HV.out.below hb)
        have HB := Lib.hid (HB.out.trans (hb.mono HB.out.size))
        have HK := Lib.hid (HK.out.below hb)
        clear hb K g0 g1 g2 g3 g4 g5
        go_wp2_with fail
        refine (KN.out _ _).mono ?_
        rintro e w' ⟨rfl, hw⟩
        subst w'
        go_upto_region 18 with (fail)
        have K := sc_OutParse s v37 (by omega) HK.out.tabs HK.out.ml
        cases hp : Sc.parse Sc.outT s.data.toList with
        | none =>
          rw [hp] at K
          obtain ⟨yy, hyy⟩ : ∃ z, ots none = z := ⟨_, rfl⟩
          obtain ⟨kk, hkk⟩ : ∃ z, otk none = z := ⟨_, rfl⟩
          rw [hyy, hkk] at K
          rw [show (erS none : Int) = 390 from rfl] at K
          have K := Lib.hid K
          clear hp hyy hkk
          go_wp2_with fail
          refine K.out.mono ?_
          rintro e v38 ⟨u, rfl, hu, _, hb⟩
          obtain ⟨pu, nu, cu, rfl⟩ := hu.sl
          have HUU := Lib.hid hu
          have HX := Lib.hid ((hb.block _ (Array.getElem?_eq_some_iff.1 HX.out).1).trans HX.out)
          have HO := Lib.hid ((hb.block _ (Array.getElem?_eq_some_iff.1 HO.out).1).trans HO.out)
          have HU := Lib.hid (HU.out.below hb)
          have HV := Lib.hid (HV.out.below hb)
          have HB := Lib.hid (HB.out.trans (hb.mono HB.out.size))
          have HK := Lib.hid (HK.out.below hb)
          clear hb K hu
          unfold otVal
          go_upto_region 19 with (fail)
          obtain ⟨G, hG⟩ : ∃ z, v38.heap.size = z := ⟨_, rfl⟩
          obtain ⟨v39, hw⟩ : ∃ z, v38.alloc (.cells #[.int .i64 kk, .int .u64 (yy.conn : Int), .int .i64 yy.topic, .slice pu nu cu] 29) = z := ⟨_, rfl⟩
          have hb : Below v38.heap.size v38 v39 := by rw [← hw]; exact (Below.refl _ _).alloc (Nat.le_refl _) _
          have hg : v39.heap[G]? = some (otObj kk yy (.slice pu nu cu)) := by rw [← hw, ← hG]; exact World.alloc_heap_new _ _
          have HUU := Lib.hid (HUU.out.below hb)
          have HX := Lib.hid ((hb.block _ (Array.getElem?_eq_some_iff.1 HX.out).1).trans HX.out)
          have HO := Lib.hid ((hb.block _ (Array.getElem?_eq_some_iff.1 HO.out).1).trans HO.out)
          have HU := Lib.hid (HU.out.below hb)
          have HV := Lib.hid (HV.out.below hb)
          have HB := Lib.hid (HB.out.trans (hb.mono HB.out.size))
          have HK := Lib.hid (HK.out.below hb)
          rw [hG, hw]
          clear hb hG hw
          clear hg
          go_wp2_with fail
          refine (KN.out _ _).mono ?_
          rintro e w' ⟨rfl, hw⟩
          subst w'
          go_upto_region 23 with (fail)
          have KW := Lib.hid (sc_works v39 HK.out.tabs HK.out.ml)
          go_wp2_with fail
          refine KW.out.mono ?_
          rintro e v40 ⟨rfl, hb⟩
          have HB := Lib.hid (HB.out.trans (hb.mono HB.out.size))
          clear hb
          go_wp2_with fail
          go_ret
          exact ⟨rfl, HB.out⟩
        | some r =>
          obtain ⟨kk, y⟩ := r
          rw [hp] at K
          obtain ⟨b1, b2, b3⟩ := oline_back hp
          have b4 := out_zero hp
          obtain ⟨yy, hyy⟩ : ∃ z, ots (some (kk, y)) = z := ⟨_, rfl⟩
          have hyk : otk (some (kk, y)) = kk := rfl
          have hy2 : y = yy := hyy
          rw [hyy, hyk] at K
          rw [hy2] at b1 b2 b3 b4
          rw [show (erS (some (kk, y)) : Int) = 0 from rfl] at K
          have K := Lib.hid K
          have HB1 := Lib.hid b1
          have HB3 := Lib.hid b3
          have HB4 := Lib.hid b4
          have HB2 := Lib.hid (show yy.bytes.length ≤ 100000 by
            have h2 : s.data.toList.length = s.size := by simp
            omega)
          clear hp hyy b1 b2 b3 b4 hyk hy2
          go_wp2_with fail
          refine K.out.mono ?_
          rintro e v41 ⟨u, rfl, hu, _, hb⟩
          obtain ⟨pu, nu, cu, rfl⟩ := hu.sl
          have HUU := Lib.hid hu
          have HX := Lib.hid ((hb.block _ (Array.getElem?_eq_some_iff.1 HX.out).1).trans HX.out)
          have HO := Lib.hid ((hb.block _ (Array.getElem?_eq_some_iff.1 HO.out).1).trans HO.out)
          have HU := Lib.hid (HU.out.below hb)
          have HV := Lib.hid (HV.out.below hb)
          have HB := Lib.hid (HB.out.trans (hb.mono HB.out.size))
          have HK := Lib.hid (HK.out.below hb)
          clear hb K hu
          unfold otVal
          go_upto_region 19 with (fail)
          obtain ⟨G, hG⟩ : ∃ z, v41.heap.size = z := ⟨_, rfl⟩
          obtain ⟨v42, hw⟩ : ∃ z, v41.alloc (.cells #[.int .i64 kk, .int .u64 (yy.conn : Int), .int .i64 yy.topic, .slice pu nu cu] 29) = z := ⟨_, rfl⟩
          have hb : Below v41.heap.size v41 v42 := by rw [← hw]; exact (Below.refl _ _).alloc (Nat.le_refl _) _
          have hg : v42.heap[G]? = some (otObj kk yy (.slice pu nu cu)) := by rw [← hw, ← hG]; exact World.alloc_heap_new _ _
          have HUU := Lib.hid (HUU.out.below hb)
          have HX := Lib.hid ((hb.block _ (Array.getElem?_eq_some_iff.1 HX.out).1).trans HX.out)
          have HO := Lib.hid ((hb.block _ (Array.getElem?_eq_some_iff.1 HO.out).1).trans HO.out)
          have HU := Lib.hid (HU.out.below hb)
          have HV := Lib.hid (HV.out.below hb)
          have HB := Lib.hid (HB.out.trans (hb.mono HB.out.size))
          have HK := Lib.hid (HK.out.below hb)
          rw [hG, hw]
          clear hb hG hw
          obtain ⟨g0, g1, g2, g3, _⟩ := OR.of hg
          have K := sc_OutText kk yy (.slice pu nu cu) v42 HUU.out HB2.out HB3.out HK.out.tabs HB4.out
          rw [HB1.out] at K
          unfold txtOut otVal at K
          simp only at K
          rw [ba_eta] at K
          have K := Lib.hid K
          clear hg
          go_wp2_with fail
          refine (KN.out _ _).mono ?_
          rintro e w' ⟨rfl, hw⟩
          subst w'
          go_wp2_with fail
          refine K.out.mono ?_
          rintro e v43 ⟨rfl, hb⟩
          have HX := Lib.hid ((hb.block _ (Array.getElem?_eq_some_iff.1 HX.out).1).trans HX.out)
          have HO := Lib.hid ((hb.block _ (Array.getElem?_eq_some_iff.1 HO.out).1).trans HO.out)
          have HU := Lib.hid (HU.out.below hb)
          have HV := Lib.hid (HV.out.below hb)
          have HB := Lib.hid (HB.out.trans (hb.mono HB.out.size))
          have HK := Lib.hid (HK.out.below hb)
          clear hb K g0 g1 g2 g3
          go_wp2_with fail
          refine (KN.out _ _).mono ?_
          rintro e w' ⟨rfl, hw⟩
          subst w'
          go_upto_region 23 with (fail)
          have KW := Lib.hid (sc_works v43 HK.out.tabs HK.out.ml)
          go_wp2_with fail
          refine KW.out.mono ?_
          rintro e v44 ⟨rfl, hb⟩
          have HB := Lib.hid (HB.out.trans (hb.mono HB.out.size))
          clear hb
          go_wp2_with fail
          go_ret
          exact ⟨rfl, HB.out⟩
  | some l =>
    rw [hl] at K
    unfold txtOut at K
    simp only at K
    obtain ⟨t, htt⟩ : ∃ z : ByteArray, (⟨l.toArray⟩ : ByteArray) = z := ⟨_, rfl⟩
    have htd : t.data.toList = l := by rw [← htt]
    have HSZ := Lib.hid (show t.size ≤ 50000 by
      have h1 := line_short (.inl rfl) HXO.out (by have := HNX.out; omega) hl
      have h2 : t.data.toList.length = t.size := by simp
      rw [htd] at h2
      have := HNX.out
      omega)
    obtain ⟨b1, b2⟩ := step_back HXO.out hl
    rw [htt] at K
    have K := Lib.hid K
    have HTD := Lib.hid htd
    have HB1 := Lib.hid b1
    have HB2 := Lib.hid b2
    clear hl htt htd b1 b2
    go_wp2_with fail
    refine K.out.mono ?_
    rintro e v45 ⟨rfl, hb⟩
    have HX := Lib.hid ((hb.block _ (Array.getElem?_eq_some_iff.1 HX.out).1).trans HX.out)
    have HO := Lib.hid ((hb.block _ (Array.getElem?_eq_some_iff.1 HO.out).1).trans HO.out)
    have HU := Lib.hid (HU.out.below hb)
    have HV := Lib.hid (HV.out.below hb)
    have HB := Lib.hid (HB.out.trans (hb.mono HB.out.size))
    have HK := Lib.hid (HK.out.below hb)
    clear hb K x0 x1 x2 x3 x4 x5
    have K := sc_Parse t v45 HSZ.out HK.out.tabs HK.out.ml
    rw [HTD.out, HB1.out, HB2.out] at K
    have K := Lib.hid K
    go_wp2_with fail
    refine (KN.out _ _).mono ?_
    rintro e w' ⟨rfl, hw⟩
    subst w'
    go_wp2_with fail
    refine K.out.mono ?_
    rintro e v46 ⟨u, rfl, hu, _, _, hb⟩
    obtain ⟨pu, nu, cu, rfl⟩ := hu.sl
    have HUU := Lib.hid hu
    have HX := Lib.hid ((hb.block _ (Array.getElem?_eq_some_iff.1 HX.out).1).trans HX.out)
    have HO := Lib.hid ((hb.block _ (Array.getElem?_eq_some_iff.1 HO.out).1).trans HO.out)
    have HU := Lib.hid (HU.out.below hb)
    have HV := Lib.hid (HV.out.below hb)
    have HB := Lib.hid (HB.out.trans (hb.mono HB.out.size))
    have HK := Lib.hid (HK.out.below hb)
    clear hb K hu
    unfold stVal
    go_upto_region 6 with (fail)
    obtain ⟨G, hG⟩ : ∃ z, v46.heap.size = z := ⟨_, rfl⟩
    obtain ⟨v47, hw⟩ : ∃ z, v46.alloc (.cells #[.int .i64 x.kind, .int .u64 (x.conn : Int), .int .i64 x.topic, .int .u64 (x.n : Int), .int .u64 (x.draw : Int), .slice pu nu cu] 26) = z := ⟨_, rfl⟩
    have hb : Below v46.heap.size v46 v47 := by rw [← hw]; exact (Below.refl _ _).alloc (Nat.le_refl _) _
    have hg : v47.heap[G]? = some (stObj x (.slice pu nu cu)) := by rw [← hw, ← hG]; exact World.alloc_heap_new _ _
    have HUU := Lib.hid (HUU.out.below hb)
    have HX := Lib.hid ((hb.block _ (Array.getElem?_eq_some_iff.1 HX.out).1).trans HX.out)
    have HO := Lib.hid ((hb.block _ (Array.getElem?_eq_some_iff.1 HO.out).1).trans HO.out)
    have HU := Lib.hid (HU.out.below hb)
    have HV := Lib.hid (HV.out.below hb)
    have HB := Lib.hid (HB.out.trans (hb.mono HB.out.size))
    have HK := Lib.hid (HK.out.below hb)
    rw [hG, hw]
    clear hb hG hw
    obtain ⟨x0, x1, x2, x3, x4, x5, _⟩ := SR.of HX.out
    obtain ⟨g0, g1, g2, g3, g4, g5, _⟩ := SR.of hg
    have K := sc_Same x.kind (x.conn : Int) x.topic (x.n : Int) (x.draw : Int) x.kind (x.conn : Int) x.topic (x.n : Int) (x.draw : Int) (.slice px nx cx) (.slice pu nu cu) x.bytes x.bytes v47 HU.out HUU.out
    rw [decide_eq_true (And.intro rfl (And.intro rfl (And.intro rfl (And.intro rfl (And.intro rfl rfl)))))] at K
    have K := Lib.hid K
    clear hg
    go_wp2_with fail
    refine (KN.out _ _).mono ?_
    rintro e w' ⟨rfl, hw⟩
    subst w'
    go_wp2_with fail
    refine K.out.mono ?_
    rintro e v48 ⟨rfl, hb⟩
    have HX := Lib.hid ((hb.block _ (Array.getElem?_eq_some_iff.1 HX.out).1).trans HX.out)
    have HO := Lib.hid ((hb.block _ (Array.getElem?_eq_some_iff.1 HO.out).1).trans HO.out)
    have HU := Lib.hid (HU.out.below hb)
    have HV := Lib.hid (HV.out.below hb)
    have HB := Lib.hid (HB.out.trans (hb.mono HB.out.size))
    have HK := Lib.hid (HK.out.below hb)
    clear hb K x0 x1 x2 x3 x4 x5 g0 g1 g2 g3 g4 g5
    go_upto_region 8 with (fail)
    have K := sc_OutText k o (.slice po no co) v48 HV.out (by have := HNO.out; omega) HOO.out HK.out.tabs HZO.out
    unfold otVal at K
    obtain ⟨x0, x1, x2, x3, _⟩ := OR.of HO.out
    cases hl : Sc.line Sc.outT k o with
    | none =>
      rw [hl] at K
      unfold txtOut at K
      simp only at K
      have K := Lib.hid K
      clear hl
      go_wp2_with fail
      refine K.out.mono ?_
      rintro e v49 ⟨rfl, hb⟩
      have HX := Lib.hid ((hb.block _ (Array.getElem?_eq_some_iff.1 HX.out).1).trans HX.out)
      have HO := Lib.hid ((hb.block _ (Array.getElem?_eq_some_iff.1 HO.out).1).trans HO.out)
      have HU := Lib.hid (HU.out.below hb)
      have HV := Lib.hid (HV.out.below hb)
      have HB := Lib.hid (HB.out.trans (hb.mono HB.out.size))
      have HK := Lib.hid (HK.out.below hb)
      clear hb K x0 x1 x2 x3
      go_wp2_with fail
      refine (KN.out _ _).mono ?_
      rintro e w' ⟨rfl, hw⟩
      subst w'
      go_upto_region 13 with (fail)
      have K := sc_Parse s v49 (by omega) HK.out.tabs HK.out.ml
      cases hp : Sc.parse Sc.stepT s.data.toList with
      | none =>
        rw [hp] at K
        obtain ⟨yy, hyy⟩ : ∃ z, stp none = z := ⟨_, rfl⟩
        rw [hyy] at K
        rw [show (erS none : Int) = 390 from rfl] at K
        have K := Lib.hid K
        clear hp hyy
        go_wp2_with fail
        refine K.out.mono ?_
        rintro e v50 ⟨u, rfl, hu, _, _, hb⟩
        obtain ⟨pu, nu, cu, rfl⟩ := hu.sl
        have HUU := Lib.hid hu
        have HX := Lib.hid ((hb.block _ (Array.getElem?_eq_some_iff.1 HX.out).1).trans HX.out)
        have HO := Lib.hid ((hb.block _ (Array.getElem?_eq_some_iff.1 HO.out).1).trans HO.out)
        have HU := Lib.hid (HU.out.below hb)
        have HV := Lib.hid (HV.out.below hb)
        have HB := Lib.hid (HB.out.trans (hb.mono HB.out.size))
        have HK := Lib.hid (HK.out.below hb)
        clear hb K hu
        unfold stVal
        go_upto_region 14 with (fail)
        obtain ⟨G, hG⟩ : ∃ z, v50.heap.size = z := ⟨_, rfl⟩
        obtain ⟨v51, hw⟩ : ∃ z, v50.alloc (.cells #[.int .i64 yy.kind, .int .u64 (yy.conn : Int), .int .i64 yy.topic, .int .u64 (yy.n : Int), .int .u64 (yy.draw : Int), .slice pu nu cu] 26) = z := ⟨_, rfl⟩
        have hb : Below v50.heap.size v50 v51 := by rw [← hw]; exact (Below.refl _ _).alloc (Nat.le_refl _) _
        have hg : v51.heap[G]? = some (stObj yy (.slice pu nu cu)) := by rw [← hw, ← hG]; exact World.alloc_heap_new _ _
        have HUU := Lib.hid (HUU.out.below hb)
        have HX := Lib.hid ((hb.block _ (Array.getElem?_eq_some_iff.1 HX.out).1).trans HX.out)
        have HO := Lib.hid ((hb.block _ (Array.getElem?_eq_some_iff.1 HO.out).1).trans HO.out)
        have HU := Lib.hid (HU.out.below hb)
        have HV := Lib.hid (HV.out.below hb)
        have HB := Lib.hid (HB.out.trans (hb.mono HB.out.size))
        have HK := Lib.hid (HK.out.below hb)
        rw [hG, hw]
        clear hb hG hw
        clear hg
        go_wp2_with fail
        refine (KN.out _ _).mono ?_
        rintro e w' ⟨rfl, hw⟩
        subst w'
        go_upto_region 18 with (fail)
        have K := sc_OutParse s v51 (by omega) HK.out.tabs HK.out.ml
        cases hp : Sc.parse Sc.outT s.data.toList with
        | none =>
          rw [hp] at K
          obtain ⟨yy, hyy⟩ : ∃ z, ots none = z := ⟨_, rfl⟩
          obtain ⟨kk, hkk⟩ : ∃ z, otk none = z := ⟨_, rfl⟩
          rw [hyy, hkk] at K
          rw [show (erS none : Int) = 390 from rfl] at K
          have K := Lib.hid K
          clear hp hyy hkk
          go_wp2_with fail
          refine K.out.mono ?_
          rintro e v52 ⟨u, rfl, hu, _, hb⟩
          obtain ⟨pu, nu, cu, rfl⟩ := hu.sl
          have HUU := Lib.hid hu
          have HX := Lib.hid ((hb.block _ (Array.getElem?_eq_some_iff.1 HX.out).1).trans HX.out)
          have HO := Lib.hid ((hb.block _ (Array.getElem?_eq_some_iff.1 HO.out).1).trans HO.out)
          have HU := Lib.hid (HU.out.below hb)
          have HV := Lib.hid (HV.out.below hb)
          have HB := Lib.hid (HB.out.trans (hb.mono HB.out.size))
          have HK := Lib.hid (HK.out.below hb)
          clear hb K hu
          unfold otVal
          go_upto_region 19 with (fail)
          obtain ⟨G, hG⟩ : ∃ z, v52.heap.size = z := ⟨_, rfl⟩
          obtain ⟨v53, hw⟩ : ∃ z, v52.alloc (.cells #[.int .i64 kk, .int .u64 (yy.conn : Int), .int .i64 yy.topic, .slice pu nu cu] 29) = z := ⟨_, rfl⟩
          have hb : Below v52.heap.size v52 v53 := by rw [← hw]; exact (Below.refl _ _).alloc (Nat.le_refl _) _
          have hg : v53.heap[G]? = some (otObj kk yy (.slice pu nu cu)) := by rw [← hw, ← hG]; exact World.alloc_heap_new _ _
          have HUU := Lib.hid (HUU.out.below hb)
          have HX := Lib.hid ((hb.block _ (Array.getElem?_eq_some_iff.1 HX.out).1).trans HX.out)
          have HO := Lib.hid ((hb.block _ (Array.getElem?_eq_some_iff.1 HO.out).1).trans HO.out)
          have HU := Lib.hid (HU.out.below hb)
          have HV := Lib.hid (HV.out.below hb)
          have HB := Lib.hid (HB.out.trans (hb.mono HB.out.size))
          have HK := Lib.hid (HK.out.below hb)
          rw [hG, hw]
          clear hb hG hw
          clear hg
          go_wp2_with fail
          refine (KN.out _ _).mono ?_
          rintro e w' ⟨rfl, hw⟩
          subst w'
          go_upto_region 23 with (fail)
          have KW := Lib.hid (sc_works v53 HK.out.tabs HK.out.ml)
          go_wp2_with fail
          refine KW.out.mono ?_
          rintro e v54 ⟨rfl, hb⟩
          have HB := Lib.hid (HB.out.trans (hb.mono HB.out.size))
          clear hb
          go_wp2_with fail
          go_ret
          exact ⟨rfl, HB.out⟩
        | some r =>
          obtain ⟨kk, y⟩ := r
          rw [hp] at K
          obtain ⟨b1, b2, b3⟩ := oline_back hp
          have b4 := out_zero hp
          obtain ⟨yy, hyy⟩ : ∃ z, ots (some (kk, y)) = z := ⟨_, rfl⟩
          have hyk : otk (some (kk, y)) = kk := rfl
          have hy2 : y = yy := hyy
          rw [hyy, hyk] at K
          rw [hy2] at b1 b2 b3 b4
          rw [show (erS (some (kk, y)) : Int) = 0 from rfl] at K
          have K := Lib.hid K
          have HB1 := Lib.hid b1
          have HB3 := Lib.hid b3
          have HB4 := Lib.hid b4
          have HB2 := Lib.hid (show yy.bytes.length ≤ 100000 by
            have h2 : s.data.toList.length = s.size := by simp
            omega)
          clear hp hyy b1 b2 b3 b4 hyk hy2
          go_wp2_with fail
          refine K.out.mono ?_
          rintro e v55 ⟨u, rfl, hu, _, hb⟩
          obtain ⟨pu, nu, cu, rfl⟩ := hu.sl
          have HUU := Lib.hid hu
          have HX := Lib.hid ((hb.block _ (Array.getElem?_eq_some_iff.1 HX.out).1).trans HX.out)
          have HO := Lib.hid ((hb.block _ (Array.getElem?_eq_some_iff.1 HO.out).1).trans HO.out)
          have HU := Lib.hid (HU.out.below hb)
          have HV := Lib.hid (HV.out.below hb)
          have HB := Lib.hid (HB.out.trans (hb.mono HB.out.size))
          have HK := Lib.hid (HK.out.below hb)
          clear hb K hu
          unfold otVal
          go_upto_region 19 with (fail)
          obtain ⟨G, hG⟩ : ∃ z, v55.heap.size = z := ⟨_, rfl⟩
          obtain ⟨v56, hw⟩ : ∃ z, v55.alloc (.cells #[.int .i64 kk, .int .u64 (yy.conn : Int), .int .i64 yy.topic, .slice pu nu cu] 29) = z := ⟨_, rfl⟩
          have hb : Below v55.heap.size v55 v56 := by rw [← hw]; exact (Below.refl _ _).alloc (Nat.le_refl _) _
          have hg : v56.heap[G]? = some (otObj kk yy (.slice pu nu cu)) := by rw [← hw, ← hG]; exact World.alloc_heap_new _ _
          have HUU := Lib.hid (HUU.out.below hb)
          have HX := Lib.hid ((hb.block _ (Array.getElem?_eq_some_iff.1 HX.out).1).trans HX.out)
          have HO := Lib.hid ((hb.block _ (Array.getElem?_eq_some_iff.1 HO.out).1).trans HO.out)
          have HU := Lib.hid (HU.out.below hb)
          have HV := Lib.hid (HV.out.below hb)
          have HB := Lib.hid (HB.out.trans (hb.mono HB.out.size))
          have HK := Lib.hid (HK.out.below hb)
          rw [hG, hw]
          clear hb hG hw
          obtain ⟨g0, g1, g2, g3, _⟩ := OR.of hg
          have K := sc_OutText kk yy (.slice pu nu cu) v56 HUU.out HB2.out HB3.out HK.out.tabs HB4.out
          rw [HB1.out] at K
          unfold txtOut otVal at K
          simp only at K
          rw [ba_eta] at K
          have K := Lib.hid K
          clear hg
          go_wp2_with fail
          refine (KN.out _ _).mono ?_
          rintro e w' ⟨rfl, hw⟩
          subst w'
          go_wp2_with fail
          refine K.out.mono ?_
          rintro e v57 ⟨rfl, hb⟩
          have HX := Lib.hid ((hb.block _ (Array.getElem?_eq_some_iff.1 HX.out).1).trans HX.out)
          have HO := Lib.hid ((hb.block _ (Array.getElem?_eq_some_iff.1 HO.out).1).trans HO.out)
          have HU := Lib.hid (HU.out.below hb)
          have HV := Lib.hid (HV.out.below hb)
          have HB := Lib.hid (HB.out.trans (hb.mono HB.out.size))
          have HK := Lib.hid (HK.out.below hb)
          clear hb K g0 g1 g2 g3
          go_wp2_with fail
          refine (KN.out _ _).mono ?_
          rintro e w' ⟨rfl, hw⟩
          subst w'
          go_upto_region 23 with (fail)
          have KW := Lib.hid (sc_works v57 HK.out.tabs HK.out.ml)
          go_wp2_with fail
          refine KW.out.mono ?_
          rintro e v58 ⟨rfl, hb⟩
          have HB := Lib.hid (HB.out.trans (hb.mono HB.out.size))
          clear hb
          go_wp2_with fail
          go_ret
          exact ⟨rfl, HB.out⟩
      | some r =>
        obtain ⟨kk, y⟩ := r
        rw [hp] at K
        obtain ⟨b1, b2, b3⟩ := line_back hp
        obtain ⟨yy, hyy⟩ : ∃ z, stp (some (kk, y)) = z := ⟨_, rfl⟩
        rw [hyy] at K b1 b2 b3
        rw [show (erS (some (kk, y)) : Int) = 0 from rfl] at K
        have K := Lib.hid K
        have HB1 := Lib.hid b1
        have HB3 := Lib.hid b3
        have HB2 := Lib.hid (show yy.bytes.length ≤ 100000 by
          have h2 : s.data.toList.length = s.size := by simp
          omega)
        clear hp hyy b1 b2 b3
        go_wp2_with fail
        refine K.out.mono ?_
        rintro e v59 ⟨u, rfl, hu, _, _, hb⟩
        obtain ⟨pu, nu, cu, rfl⟩ := hu.sl
        have HUU := Lib.hid hu
        have HX := Lib.hid ((hb.block _ (Array.getElem?_eq_some_iff.1 HX.out).1).trans HX.out)
        have HO := Lib.hid ((hb.block _ (Array.getElem?_eq_some_iff.1 HO.out).1).trans HO.out)
        have HU := Lib.hid (HU.out.below hb)
        have HV := Lib.hid (HV.out.below hb)
        have HB := Lib.hid (HB.out.trans (hb.mono HB.out.size))
        have HK := Lib.hid (HK.out.below hb)
        clear hb K hu
        unfold stVal
        go_upto_region 14 with (fail)
        obtain ⟨G, hG⟩ : ∃ z, v59.heap.size = z := ⟨_, rfl⟩
        obtain ⟨v60, hw⟩ : ∃ z, v59.alloc (.cells #[.int .i64 yy.kind, .int .u64 (yy.conn : Int), .int .i64 yy.topic, .int .u64 (yy.n : Int), .int .u64 (yy.draw : Int), .slice pu nu cu] 26) = z := ⟨_, rfl⟩
        have hb : Below v59.heap.size v59 v60 := by rw [← hw]; exact (Below.refl _ _).alloc (Nat.le_refl _) _
        have hg : v60.heap[G]? = some (stObj yy (.slice pu nu cu)) := by rw [← hw, ← hG]; exact World.alloc_heap_new _ _
        have HUU := Lib.hid (HUU.out.below hb)
        have HX := Lib.hid ((hb.block _ (Array.getElem?_eq_some_iff.1 HX.out).1).trans HX.out)
        have HO := Lib.hid ((hb.block _ (Array.getElem?_eq_some_iff.1 HO.out).1).trans HO.out)
        have HU := Lib.hid (HU.out.below hb)
        have HV := Lib.hid (HV.out.below hb)
        have HB := Lib.hid (HB.out.trans (hb.mono HB.out.size))
        have HK := Lib.hid (HK.out.below hb)
        rw [hG, hw]
        clear hb hG hw
        obtain ⟨g0, g1, g2, g3, g4, g5, _⟩ := SR.of hg
        have K := sc_Text yy (.slice pu nu cu) v60 HUU.out HB2.out HB3.out HK.out.tabs
        rw [HB1.out] at K
        unfold txtOut stVal at K
        simp only at K
        rw [ba_eta] at K
        have K := Lib.hid K
        clear hg
        go_wp2_with fail
        refine (KN.out _ _).mono ?_
        rintro e w' ⟨rfl, hw⟩
        subst w'
        go_wp2_with fail
        refine K.out.mono ?_
        rintro e v61 ⟨rfl, hb⟩
        have HX := Lib.hid ((hb.block _ (Array.getElem?_eq_some_iff.1 HX.out).1).trans HX.out)
        have HO := Lib.hid ((hb.block _ (Array.getElem?_eq_some_iff.1 HO.out).1).trans HO.out)
        have HU := Lib.hid (HU.out.below hb)
        have HV := Lib.hid (HV.out.below hb)
        have HB := Lib.hid (HB.out.trans (hb.mono HB.out.size))
        have HK := Lib.hid (HK.out.below hb)
        clear hb K g0 g1 g2 g3 g4 g5
        go_wp2_with fail
        refine (KN.out _ _).mono ?_
        rintro e w' ⟨rfl, hw⟩
        subst w'
        go_upto_region 18 with (fail)
        have K := sc_OutParse s v61 (by omega) HK.out.tabs HK.out.ml
        cases hp : Sc.parse Sc.outT s.data.toList with
        | none =>
          rw [hp] at K
          obtain ⟨yy, hyy⟩ : ∃ z, ots none = z := ⟨_, rfl⟩
          obtain ⟨kk, hkk⟩ : ∃ z, otk none = z := ⟨_, rfl⟩
          rw [hyy, hkk] at K
          rw [show (erS none : Int) = 390 from rfl] at K
          have K := Lib.hid K
          clear hp hyy hkk
          go_wp2_with fail
          refine K.out.mono ?_
          rintro e v62 ⟨u, rfl, hu, _, hb⟩
          obtain ⟨pu, nu, cu, rfl⟩ := hu.sl
          have HUU := Lib.hid hu
          have HX := Lib.hid ((hb.block _ (Array.getElem?_eq_some_iff.1 HX.out).1).trans HX.out)
          have HO := Lib.hid ((hb.block _ (Array.getElem?_eq_some_iff.1 HO.out).1).trans HO.out)
          have HU := Lib.hid (HU.out.below hb)
          have HV := Lib.hid (HV.out.below hb)
          have HB := Lib.hid (HB.out.trans (hb.mono HB.out.size))
          have HK := Lib.hid (HK.out.below hb)
          clear hb K hu
          unfold otVal
          go_upto_region 19 with (fail)
          obtain ⟨G, hG⟩ : ∃ z, v62.heap.size = z := ⟨_, rfl⟩
          obtain ⟨v63, hw⟩ : ∃ z, v62.alloc (.cells #[.int .i64 kk, .int .u64 (yy.conn : Int), .int .i64 yy.topic, .slice pu nu cu] 29) = z := ⟨_, rfl⟩
          have hb : Below v62.heap.size v62 v63 := by rw [← hw]; exact (Below.refl _ _).alloc (Nat.le_refl _) _
          have hg : v63.heap[G]? = some (otObj kk yy (.slice pu nu cu)) := by rw [← hw, ← hG]; exact World.alloc_heap_new _ _
          have HUU := Lib.hid (HUU.out.below hb)
          have HX := Lib.hid ((hb.block _ (Array.getElem?_eq_some_iff.1 HX.out).1).trans HX.out)
          have HO := Lib.hid ((hb.block _ (Array.getElem?_eq_some_iff.1 HO.out).1).trans HO.out)
          have HU := Lib.hid (HU.out.below hb)
          have HV := Lib.hid (HV.out.below hb)
          have HB := Lib.hid (HB.out.trans (hb.mono HB.out.size))
          have HK := Lib.hid (HK.out.below hb)
          rw [hG, hw]
          clear hb hG hw
          clear hg
          go_wp2_with fail
          refine (KN.out _ _).mono ?_
          rintro e w' ⟨rfl, hw⟩
          subst w'
          go_upto_region 23 with (fail)
          have KW := Lib.hid (sc_works v63 HK.out.tabs HK.out.ml)
          go_wp2_with fail
          refine KW.out.mono ?_
          rintro e v64 ⟨rfl, hb⟩
          have HB := Lib.hid (HB.out.trans (hb.mono HB.out.size))
          clear hb
          go_wp2_with fail
          go_ret
          exact ⟨rfl, HB.out⟩
        | some r =>
          obtain ⟨kk, y⟩ := r
          rw [hp] at K
          obtain ⟨b1, b2, b3⟩ := oline_back hp
          have b4 := out_zero hp
          obtain ⟨yy, hyy⟩ : ∃ z, ots (some (kk, y)) = z := ⟨_, rfl⟩
          have hyk : otk (some (kk, y)) = kk := rfl
          have hy2 : y = yy := hyy
          rw [hyy, hyk] at K
          rw [hy2] at b1 b2 b3 b4
          rw [show (erS (some (kk, y)) : Int) = 0 from rfl] at K
          have K := Lib.hid K
          have HB1 := Lib.hid b1
          have HB3 := Lib.hid b3
          have HB4 := Lib.hid b4
          have HB2 := Lib.hid (show yy.bytes.length ≤ 100000 by
            have h2 : s.data.toList.length = s.size := by simp
            omega)
          clear hp hyy b1 b2 b3 b4 hyk hy2
          go_wp2_with fail
          refine K.out.mono ?_
          rintro e v65 ⟨u, rfl, hu, _, hb⟩
          obtain ⟨pu, nu, cu, rfl⟩ := hu.sl
          have HUU := Lib.hid hu
          have HX := Lib.hid ((hb.block _ (Array.getElem?_eq_some_iff.1 HX.out).1).trans HX.out)
          have HO := Lib.hid ((hb.block _ (Array.getElem?_eq_some_iff.1 HO.out).1).trans HO.out)
          have HU := Lib.hid (HU.out.below hb)
          have HV := Lib.hid (HV.out.below hb)
          have HB := Lib.hid (HB.out.trans (hb.mono HB.out.size))
          have HK := Lib.hid (HK.out.below hb)
          clear hb K hu
          unfold otVal
          go_upto_region 19 with (fail)
          obtain ⟨G, hG⟩ : ∃ z, v65.heap.size = z := ⟨_, rfl⟩
          obtain ⟨v66, hw⟩ : ∃ z, v65.alloc (.cells #[.int .i64 kk, .int .u64 (yy.conn : Int), .int .i64 yy.topic, .slice pu nu cu] 29) = z := ⟨_, rfl⟩
          have hb : Below v65.heap.size v65 v66 := by rw [← hw]; exact (Below.refl _ _).alloc (Nat.le_refl _) _
          have hg : v66.heap[G]? = some (otObj kk yy (.slice pu nu cu)) := by rw [← hw, ← hG]; exact World.alloc_heap_new _ _
          have HUU := Lib.hid (HUU.out.below hb)
          have HX := Lib.hid ((hb.block _ (Array.getElem?_eq_some_iff.1 HX.out).1).trans HX.out)
          have HO := Lib.hid ((hb.block _ (Array.getElem?_eq_some_iff.1 HO.out).1).trans HO.out)
          have HU := Lib.hid (HU.out.below hb)
          have HV := Lib.hid (HV.out.below hb)
          have HB := Lib.hid (HB.out.trans (hb.mono HB.out.size))
          have HK := Lib.hid (HK.out.below hb)
          rw [hG, hw]
          clear hb hG hw
          obtain ⟨g0, g1, g2, g3, _⟩ := OR.of hg
          have K := sc_OutText kk yy (.slice pu nu cu) v66 HUU.out HB2.out HB3.out HK.out.tabs HB4.out
          rw [HB1.out] at K
          unfold txtOut otVal at K
          simp only at K
          rw [ba_eta] at K
          have K := Lib.hid K
          clear hg
          go_wp2_with fail
          refine (KN.out _ _).mono ?_
          rintro e w' ⟨rfl, hw⟩
          subst w'
          go_wp2_with fail
          refine K.out.mono ?_
          rintro e v67 ⟨rfl, hb⟩
          have HX := Lib.hid ((hb.block _ (Array.getElem?_eq_some_iff.1 HX.out).1).trans HX.out)
          have HO := Lib.hid ((hb.block _ (Array.getElem?_eq_some_iff.1 HO.out).1).trans HO.out)
          have HU := Lib.hid (HU.out.below hb)
          have HV := Lib.hid (HV.out.below hb)
          have HB := Lib.hid (HB.out.trans (hb.mono HB.out.size))
          have HK := Lib.hid (HK.out.below hb)
          clear hb K g0 g1 g2 g3
          go_wp2_with fail
          refine (KN.out _ _).mono ?_
          rintro e w' ⟨rfl, hw⟩
          subst w'
          go_upto_region 23 with (fail)
          have KW := Lib.hid (sc_works v67 HK.out.tabs HK.out.ml)
          go_wp2_with fail
          refine KW.out.mono ?_
          rintro e v68 ⟨rfl, hb⟩
          have HB := Lib.hid (HB.out.trans (hb.mono HB.out.size))
          clear hb
          go_wp2_with fail
          go_ret
          exact ⟨rfl, HB.out⟩
    | some l =>
      rw [hl] at K
      unfold txtOut at K
      simp only at K
      obtain ⟨t, htt⟩ : ∃ z : ByteArray, (⟨l.toArray⟩ : ByteArray) = z := ⟨_, rfl⟩
      have htd : t.data.toList = l := by rw [← htt]
      have HSZ := Lib.hid (show t.size ≤ 50000 by
        have h1 := line_short (.inr rfl) HOO.out (by have := HNO.out; omega) hl
        have h2 : t.data.toList.length = t.size := by simp
        rw [htd] at h2
        have := HNO.out
        omega)
      obtain ⟨b0, b1, b2⟩ := out_back HOO.out HZO.out.2.2 hl
      rw [htt] at K
      have K := Lib.hid K
      have HTD := Lib.hid htd
      have HB1 := Lib.hid b1
      have HB2 := Lib.hid b2
      have HB0 := Lib.hid b0
      clear hl htt htd b1 b2 b0
      go_wp2_with fail
      refine K.out.mono ?_
      rintro e v69 ⟨rfl, hb⟩
      have HX := Lib.hid ((hb.block _ (Array.getElem?_eq_some_iff.1 HX.out).1).trans HX.out)
      have HO := Lib.hid ((hb.block _ (Array.getElem?_eq_some_iff.1 HO.out).1).trans HO.out)
      have HU := Lib.hid (HU.out.below hb)
      have HV := Lib.hid (HV.out.below hb)
      have HB := Lib.hid (HB.out.trans (hb.mono HB.out.size))
      have HK := Lib.hid (HK.out.below hb)
      clear hb K x0 x1 x2 x3
      have K := sc_OutParse t v69 HSZ.out HK.out.tabs HK.out.ml
      rw [HTD.out, HB0.out, HB1.out, HB2.out] at K
      have K := Lib.hid K
      go_wp2_with fail
      refine (KN.out _ _).mono ?_
      rintro e w' ⟨rfl, hw⟩
      subst w'
      go_wp2_with fail
      refine K.out.mono ?_
      rintro e v70 ⟨u, rfl, hu, _, hb⟩
      obtain ⟨pu, nu, cu, rfl⟩ := hu.sl
      have HUU := Lib.hid hu
      have HX := Lib.hid ((hb.block _ (Array.getElem?_eq_some_iff.1 HX.out).1).trans HX.out)
      have HO := Lib.hid ((hb.block _ (Array.getElem?_eq_some_iff.1 HO.out).1).trans HO.out)
      have HU := Lib.hid (HU.out.below hb)
      have HV := Lib.hid (HV.out.below hb)
      have HB := Lib.hid (HB.out.trans (hb.mono HB.out.size))
      have HK := Lib.hid (HK.out.below hb)
      clear hb K hu
      unfold otVal
      go_upto_region 11 with (fail)
      obtain ⟨G, hG⟩ : ∃ z, v70.heap.size = z := ⟨_, rfl⟩
      obtain ⟨v71, hw⟩ : ∃ z, v70.alloc (.cells #[.int .i64 k, .int .u64 (o.conn : Int), .int .i64 o.topic, .slice pu nu cu] 29) = z := ⟨_, rfl⟩
      have hb : Below v70.heap.size v70 v71 := by rw [← hw]; exact (Below.refl _ _).alloc (Nat.le_refl _) _
      have hg : v71.heap[G]? = some (otObj k o (.slice pu nu cu)) := by rw [← hw, ← hG]; exact World.alloc_heap_new _ _
      have HUU := Lib.hid (HUU.out.below hb)
      have HX := Lib.hid ((hb.block _ (Array.getElem?_eq_some_iff.1 HX.out).1).trans HX.out)
      have HO := Lib.hid ((hb.block _ (Array.getElem?_eq_some_iff.1 HO.out).1).trans HO.out)
      have HU := Lib.hid (HU.out.below hb)
      have HV := Lib.hid (HV.out.below hb)
      have HB := Lib.hid (HB.out.trans (hb.mono HB.out.size))
      have HK := Lib.hid (HK.out.below hb)
      rw [hG, hw]
      clear hb hG hw
      obtain ⟨x0, x1, x2, x3, _⟩ := OR.of HO.out
      obtain ⟨g0, g1, g2, g3, _⟩ := OR.of hg
      have K := sc_SameOut k (o.conn : Int) o.topic k (o.conn : Int) o.topic (.slice po no co) (.slice pu nu cu) o.bytes o.bytes v71 HV.out HUU.out
      rw [decide_eq_true (And.intro rfl (And.intro rfl (And.intro rfl rfl)))] at K
      have K := Lib.hid K
      clear hg
      go_wp2_with fail
      refine (KN.out _ _).mono ?_
      rintro e w' ⟨rfl, hw⟩
      subst w'
      go_wp2_with fail
      refine K.out.mono ?_
      rintro e v72 ⟨rfl, hb⟩
      have HX := Lib.hid ((hb.block _ (Array.getElem?_eq_some_iff.1 HX.out).1).trans HX.out)
      have HO := Lib.hid ((hb.block _ (Array.getElem?_eq_some_iff.1 HO.out).1).trans HO.out)
      have HU := Lib.hid (HU.out.below hb)
      have HV := Lib.hid (HV.out.below hb)
      have HB := Lib.hid (HB.out.trans (hb.mono HB.out.size))
      have HK := Lib.hid (HK.out.below hb)
      clear hb K x0 x1 x2 x3 g0 g1 g2 g3
      go_upto_region 13 with (fail)
      have K := sc_Parse s v72 (by omega) HK.out.tabs HK.out.ml
      cases hp : Sc.parse Sc.stepT s.data.toList with
      | none =>
        rw [hp] at K
        obtain ⟨yy, hyy⟩ : ∃ z, stp none = z := ⟨_, rfl⟩
        rw [hyy] at K
        rw [show (erS none : Int) = 390 from rfl] at K
        have K := Lib.hid K
        clear hp hyy
        go_wp2_with fail
        refine K.out.mono ?_
        rintro e v73 ⟨u, rfl, hu, _, _, hb⟩
        obtain ⟨pu, nu, cu, rfl⟩ := hu.sl
        have HUU := Lib.hid hu
        have HX := Lib.hid ((hb.block _ (Array.getElem?_eq_some_iff.1 HX.out).1).trans HX.out)
        have HO := Lib.hid ((hb.block _ (Array.getElem?_eq_some_iff.1 HO.out).1).trans HO.out)
        have HU := Lib.hid (HU.out.below hb)
        have HV := Lib.hid (HV.out.below hb)
        have HB := Lib.hid (HB.out.trans (hb.mono HB.out.size))
        have HK := Lib.hid (HK.out.below hb)
        clear hb K hu
        unfold stVal
        go_upto_region 14 with (fail)
        obtain ⟨G, hG⟩ : ∃ z, v73.heap.size = z := ⟨_, rfl⟩
        obtain ⟨v74, hw⟩ : ∃ z, v73.alloc (.cells #[.int .i64 yy.kind, .int .u64 (yy.conn : Int), .int .i64 yy.topic, .int .u64 (yy.n : Int), .int .u64 (yy.draw : Int), .slice pu nu cu] 26) = z := ⟨_, rfl⟩
        have hb : Below v73.heap.size v73 v74 := by rw [← hw]; exact (Below.refl _ _).alloc (Nat.le_refl _) _
        have hg : v74.heap[G]? = some (stObj yy (.slice pu nu cu)) := by rw [← hw, ← hG]; exact World.alloc_heap_new _ _
        have HUU := Lib.hid (HUU.out.below hb)
        have HX := Lib.hid ((hb.block _ (Array.getElem?_eq_some_iff.1 HX.out).1).trans HX.out)
        have HO := Lib.hid ((hb.block _ (Array.getElem?_eq_some_iff.1 HO.out).1).trans HO.out)
        have HU := Lib.hid (HU.out.below hb)
        have HV := Lib.hid (HV.out.below hb)
        have HB := Lib.hid (HB.out.trans (hb.mono HB.out.size))
        have HK := Lib.hid (HK.out.below hb)
        rw [hG, hw]
        clear hb hG hw
        clear hg
        go_wp2_with fail
        refine (KN.out _ _).mono ?_
        rintro e w' ⟨rfl, hw⟩
        subst w'
        go_upto_region 18 with (fail)
        have K := sc_OutParse s v74 (by omega) HK.out.tabs HK.out.ml
        cases hp : Sc.parse Sc.outT s.data.toList with
        | none =>
          rw [hp] at K
          obtain ⟨yy, hyy⟩ : ∃ z, ots none = z := ⟨_, rfl⟩
          obtain ⟨kk, hkk⟩ : ∃ z, otk none = z := ⟨_, rfl⟩
          rw [hyy, hkk] at K
          rw [show (erS none : Int) = 390 from rfl] at K
          have K := Lib.hid K
          clear hp hyy hkk
          go_wp2_with fail
          refine K.out.mono ?_
          rintro e v75 ⟨u, rfl, hu, _, hb⟩
          obtain ⟨pu, nu, cu, rfl⟩ := hu.sl
          have HUU := Lib.hid hu
          have HX := Lib.hid ((hb.block _ (Array.getElem?_eq_some_iff.1 HX.out).1).trans HX.out)
          have HO := Lib.hid ((hb.block _ (Array.getElem?_eq_some_iff.1 HO.out).1).trans HO.out)
          have HU := Lib.hid (HU.out.below hb)
          have HV := Lib.hid (HV.out.below hb)
          have HB := Lib.hid (HB.out.trans (hb.mono HB.out.size))
          have HK := Lib.hid (HK.out.below hb)
          clear hb K hu
          unfold otVal
          go_upto_region 19 with (fail)
          obtain ⟨G, hG⟩ : ∃ z, v75.heap.size = z := ⟨_, rfl⟩
          obtain ⟨v76, hw⟩ : ∃ z, v75.alloc (.cells #[.int .i64 kk, .int .u64 (yy.conn : Int), .int .i64 yy.topic, .slice pu nu cu] 29) = z := ⟨_, rfl⟩
          have hb : Below v75.heap.size v75 v76 := by rw [← hw]; exact (Below.refl _ _).alloc (Nat.le_refl _) _
          have hg : v76.heap[G]? = some (otObj kk yy (.slice pu nu cu)) := by rw [← hw, ← hG]; exact World.alloc_heap_new _ _
          have HUU := Lib.hid (HUU.out.below hb)
          have HX := Lib.hid ((hb.block _ (Array.getElem?_eq_some_iff.1 HX.out).1).trans HX.out)
          have HO := Lib.hid ((hb.block _ (Array.getElem?_eq_some_iff.1 HO.out).1).trans HO.out)
          have HU := Lib.hid (HU.out.below hb)
          have HV := Lib.hid (HV.out.below hb)
          have HB := Lib.hid (HB.out.trans (hb.mono HB.out.size))
          have HK := Lib.hid (HK.out.below hb)
          rw [hG, hw]
          clear hb hG hw
          clear hg
          go_wp2_with fail
          refine (KN.out _ _).mono ?_
          rintro e w' ⟨rfl, hw⟩
          subst w'
          go_upto_region 23 with (fail)
          have KW := Lib.hid (sc_works v76 HK.out.tabs HK.out.ml)
          go_wp2_with fail
          refine KW.out.mono ?_
          rintro e v77 ⟨rfl, hb⟩
          have HB := Lib.hid (HB.out.trans (hb.mono HB.out.size))
          clear hb
          go_wp2_with fail
          go_ret
          exact ⟨rfl, HB.out⟩
        | some r =>
          obtain ⟨kk, y⟩ := r
          rw [hp] at K
          obtain ⟨b1, b2, b3⟩ := oline_back hp
          have b4 := out_zero hp
          obtain ⟨yy, hyy⟩ : ∃ z, ots (some (kk, y)) = z := ⟨_, rfl⟩
          have hyk : otk (some (kk, y)) = kk := rfl
          have hy2 : y = yy := hyy
          rw [hyy, hyk] at K
          rw [hy2] at b1 b2 b3 b4
          rw [show (erS (some (kk, y)) : Int) = 0 from rfl] at K
          have K := Lib.hid K
          have HB1 := Lib.hid b1
          have HB3 := Lib.hid b3
          have HB4 := Lib.hid b4
          have HB2 := Lib.hid (show yy.bytes.length ≤ 100000 by
            have h2 : s.data.toList.length = s.size := by simp
            omega)
          clear hp hyy b1 b2 b3 b4 hyk hy2
          go_wp2_with fail
          refine K.out.mono ?_
          rintro e v78 ⟨u, rfl, hu, _, hb⟩
          obtain ⟨pu, nu, cu, rfl⟩ := hu.sl
          have HUU := Lib.hid hu
          have HX := Lib.hid ((hb.block _ (Array.getElem?_eq_some_iff.1 HX.out).1).trans HX.out)
          have HO := Lib.hid ((hb.block _ (Array.getElem?_eq_some_iff.1 HO.out).1).trans HO.out)
          have HU := Lib.hid (HU.out.below hb)
          have HV := Lib.hid (HV.out.below hb)
          have HB := Lib.hid (HB.out.trans (hb.mono HB.out.size))
          have HK := Lib.hid (HK.out.below hb)
          clear hb K hu
          unfold otVal
          go_upto_region 19 with (fail)
          obtain ⟨G, hG⟩ : ∃ z, v78.heap.size = z := ⟨_, rfl⟩
          obtain ⟨v79, hw⟩ : ∃ z, v78.alloc (.cells #[.int .i64 kk, .int .u64 (yy.conn : Int), .int .i64 yy.topic, .slice pu nu cu] 29) = z := ⟨_, rfl⟩
          have hb : Below v78.heap.size v78 v79 := by rw [← hw]; exact (Below.refl _ _).alloc (Nat.le_refl _) _
          have hg : v79.heap[G]? = some (otObj kk yy (.slice pu nu cu)) := by rw [← hw, ← hG]; exact World.alloc_heap_new _ _
          have HUU := Lib.hid (HUU.out.below hb)
          have HX := Lib.hid ((hb.block _ (Array.getElem?_eq_some_iff.1 HX.out).1).trans HX.out)
          have HO := Lib.hid ((hb.block _ (Array.getElem?_eq_some_iff.1 HO.out).1).trans HO.out)
          have HU := Lib.hid (HU.out.below hb)
          have HV := Lib.hid (HV.out.below hb)
          have HB := Lib.hid (HB.out.trans (hb.mono HB.out.size))
          have HK := Lib.hid (HK.out.below hb)
          rw [hG, hw]
          clear hb hG hw
          obtain ⟨g0, g1, g2, g3, _⟩ := OR.of hg
          have K := sc_OutText kk yy (.slice pu nu cu) v79 HUU.out HB2.out HB3.out HK.out.tabs HB4.out
          rw [HB1.out] at K
          unfold txtOut otVal at K
          simp only at K
          rw [ba_eta] at K
          have K := Lib.hid K
          clear hg
          go_wp2_with fail
          refine (KN.out _ _).mono ?_
          rintro e w' ⟨rfl, hw⟩
          subst w'
          go_wp2_with fail
          refine K.out.mono ?_
          rintro e v80 ⟨rfl, hb⟩
          have HX := Lib.hid ((hb.block _ (Array.getElem?_eq_some_iff.1 HX.out).1).trans HX.out)
          have HO := Lib.hid ((hb.block _ (Array.getElem?_eq_some_iff.1 HO.out).1).trans HO.out)
          have HU := Lib.hid (HU.out.below hb)
          have HV := Lib.hid (HV.out.below hb)
          have HB := Lib.hid (HB.out.trans (hb.mono HB.out.size))
          have HK := Lib.hid (HK.out.below hb)
          clear hb K g0 g1 g2 g3
          go_wp2_with fail
          refine (KN.out _ _).mono ?_
          rintro e w' ⟨rfl, hw⟩
          subst w'
          go_upto_region 23 with (fail)
          have KW := Lib.hid (sc_works v80 HK.out.tabs HK.out.ml)
          go_wp2_with fail
          refine KW.out.mono ?_
          rintro e v81 ⟨rfl, hb⟩
          have HB := Lib.hid (HB.out.trans (hb.mono HB.out.size))
          clear hb
          go_wp2_with fail
          go_ret
          exact ⟨rfl, HB.out⟩
      | some r =>
        obtain ⟨kk, y⟩ := r
        rw [hp] at K
        obtain ⟨b1, b2, b3⟩ := line_back hp
        obtain ⟨yy, hyy⟩ : ∃ z, stp (some (kk, y)) = z := ⟨_, rfl⟩
        rw [hyy] at K b1 b2 b3
        rw [show (erS (some (kk, y)) : Int) = 0 from rfl] at K
        have K := Lib.hid K
        have HB1 := Lib.hid b1
        have HB3 := Lib.hid b3
        have HB2 := Lib.hid (show yy.bytes.length ≤ 100000 by
          have h2 : s.data.toList.length = s.size := by simp
          omega)
        clear hp hyy b1 b2 b3
        go_wp2_with fail
        refine K.out.mono ?_
        rintro e v82 ⟨u, rfl, hu, _, _, hb⟩
        obtain ⟨pu, nu, cu, rfl⟩ := hu.sl
        have HUU := Lib.hid hu
        have HX := Lib.hid ((hb.block _ (Array.getElem?_eq_some_iff.1 HX.out).1).trans HX.out)
        have HO := Lib.hid ((hb.block _ (Array.getElem?_eq_some_iff.1 HO.out).1).trans HO.out)
        have HU := Lib.hid (HU.out.below hb)
        have HV := Lib.hid (HV.out.below hb)
        have HB := Lib.hid (HB.out.trans (hb.mono HB.out.size))
        have HK := Lib.hid (HK.out.below hb)
        clear hb K hu
        unfold stVal
        go_upto_region 14 with (fail)
        obtain ⟨G, hG⟩ : ∃ z, v82.heap.size = z := ⟨_, rfl⟩
        obtain ⟨v83, hw⟩ : ∃ z, v82.alloc (.cells #[.int .i64 yy.kind, .int .u64 (yy.conn : Int), .int .i64 yy.topic, .int .u64 (yy.n : Int), .int .u64 (yy.draw : Int), .slice pu nu cu] 26) = z := ⟨_, rfl⟩
        have hb : Below v82.heap.size v82 v83 := by rw [← hw]; exact (Below.refl _ _).alloc (Nat.le_refl _) _
        have hg : v83.heap[G]? = some (stObj yy (.slice pu nu cu)) := by rw [← hw, ← hG]; exact World.alloc_heap_new _ _
        have HUU := Lib.hid (HUU.out.below hb)
        have HX := Lib.hid ((hb.block _ (Array.getElem?_eq_some_iff.1 HX.out).1).trans HX.out)
        have HO := Lib.hid ((hb.block _ (Array.getElem?_eq_some_iff.1 HO.out).1).trans HO.out)
        have HU := Lib.hid (HU.out.below hb)
        have HV := Lib.hid (HV.out.below hb)
        have HB := Lib.hid (HB.out.trans (hb.mono HB.out.size))
        have HK := Lib.hid (HK.out.below hb)
        rw [hG, hw]
        clear hb hG hw
        obtain ⟨g0, g1, g2, g3, g4, g5, _⟩ := SR.of hg
        have K := sc_Text yy (.slice pu nu cu) v83 HUU.out HB2.out HB3.out HK.out.tabs
        rw [HB1.out] at K
        unfold txtOut stVal at K
        simp only at K
        rw [ba_eta] at K
        have K := Lib.hid K
        clear hg
        go_wp2_with fail
        refine (KN.out _ _).mono ?_
        rintro e w' ⟨rfl, hw⟩
        subst w'
        go_wp2_with fail
        refine K.out.mono ?_
        rintro e v84 ⟨rfl, hb⟩
        have HX := Lib.hid ((hb.block _ (Array.getElem?_eq_some_iff.1 HX.out).1).trans HX.out)
        have HO := Lib.hid ((hb.block _ (Array.getElem?_eq_some_iff.1 HO.out).1).trans HO.out)
        have HU := Lib.hid (HU.out.below hb)
        have HV := Lib.hid (HV.out.below hb)
        have HB := Lib.hid (HB.out.trans (hb.mono HB.out.size))
        have HK := Lib.hid (HK.out.below hb)
        clear hb K g0 g1 g2 g3 g4 g5
        go_wp2_with fail
        refine (KN.out _ _).mono ?_
        rintro e w' ⟨rfl, hw⟩
        subst w'
        go_upto_region 18 with (fail)
        have K := sc_OutParse s v84 (by omega) HK.out.tabs HK.out.ml
        cases hp : Sc.parse Sc.outT s.data.toList with
        | none =>
          rw [hp] at K
          obtain ⟨yy, hyy⟩ : ∃ z, ots none = z := ⟨_, rfl⟩
          obtain ⟨kk, hkk⟩ : ∃ z, otk none = z := ⟨_, rfl⟩
          rw [hyy, hkk] at K
          rw [show (erS none : Int) = 390 from rfl] at K
          have K := Lib.hid K
          clear hp hyy hkk
          go_wp2_with fail
          refine K.out.mono ?_
          rintro e v85 ⟨u, rfl, hu, _, hb⟩
          obtain ⟨pu, nu, cu, rfl⟩ := hu.sl
          have HUU := Lib.hid hu
          have HX := Lib.hid ((hb.block _ (Array.getElem?_eq_some_iff.1 HX.out).1).trans HX.out)
          have HO := Lib.hid ((hb.block _ (Array.getElem?_eq_some_iff.1 HO.out).1).trans HO.out)
          have HU := Lib.hid (HU.out.below hb)
          have HV := Lib.hid (HV.out.below hb)
          have HB := Lib.hid (HB.out.trans (hb.mono HB.out.size))
          have HK := Lib.hid (HK.out.below hb)
          clear hb K hu
          unfold otVal
          go_upto_region 19 with (fail)
          obtain ⟨G, hG⟩ : ∃ z, v85.heap.size = z := ⟨_, rfl⟩
          obtain ⟨v86, hw⟩ : ∃ z, v85.alloc (.cells #[.int .i64 kk, .int .u64 (yy.conn : Int), .int .i64 yy.topic, .slice pu nu cu] 29) = z := ⟨_, rfl⟩
          have hb : Below v85.heap.size v85 v86 := by rw [← hw]; exact (Below.refl _ _).alloc (Nat.le_refl _) _
          have hg : v86.heap[G]? = some (otObj kk yy (.slice pu nu cu)) := by rw [← hw, ← hG]; exact World.alloc_heap_new _ _
          have HUU := Lib.hid (HUU.out.below hb)
          have HX := Lib.hid ((hb.block _ (Array.getElem?_eq_some_iff.1 HX.out).1).trans HX.out)
          have HO := Lib.hid ((hb.block _ (Array.getElem?_eq_some_iff.1 HO.out).1).trans HO.out)
          have HU := Lib.hid (HU.out.below hb)
          have HV := Lib.hid (HV.out.below hb)
          have HB := Lib.hid (HB.out.trans (hb.mono HB.out.size))
          have HK := Lib.hid (HK.out.below hb)
          rw [hG, hw]
          clear hb hG hw
          clear hg
          go_wp2_with fail
          refine (KN.out _ _).mono ?_
          rintro e w' ⟨rfl, hw⟩
          subst w'
          go_upto_region 23 with (fail)
          have KW := Lib.hid (sc_works v86 HK.out.tabs HK.out.ml)
          go_wp2_with fail
          refine KW.out.mono ?_
          rintro e v87 ⟨rfl, hb⟩
          have HB := Lib.hid (HB.out.trans (hb.mono HB.out.size))
          clear hb
          go_wp2_with fail
          go_ret
          exact ⟨rfl, HB.out⟩
        | some r =>
          obtain ⟨kk, y⟩ := r
          rw [hp] at K
          obtain ⟨b1, b2, b3⟩ := oline_back hp
          have b4 := out_zero hp
          obtain ⟨yy, hyy⟩ : ∃ z, ots (some (kk, y)) = z := ⟨_, rfl⟩
          have hyk : otk (some (kk, y)) = kk := rfl
          have hy2 : y = yy := hyy
          rw [hyy, hyk] at K
          rw [hy2] at b1 b2 b3 b4
          rw [show (erS (some (kk, y)) : Int) = 0 from rfl] at K
          have K := Lib.hid K
          have HB1 := Lib.hid b1
          have HB3 := Lib.hid b3
          have HB4 := Lib.hid b4
          have HB2 := Lib.hid (show yy.bytes.length ≤ 100000 by
            have h2 : s.data.toList.length = s.size := by simp
            omega)
          clear hp hyy b1 b2 b3 b4 hyk hy2
          go_wp2_with fail
          refine K.out.mono ?_
          rintro e v88 ⟨u, rfl, hu, _, hb⟩
          obtain ⟨pu, nu, cu, rfl⟩ := hu.sl
          have HUU := Lib.hid hu
          have HX := Lib.hid ((hb.block _ (Array.getElem?_eq_some_iff.1 HX.out).1).trans HX.out)
          have HO := Lib.hid ((hb.block _ (Array.getElem?_eq_some_iff.1 HO.out).1).trans HO.out)
          have HU := Lib.hid (HU.out.below hb)
          have HV := Lib.hid (HV.out.below hb)
          have HB := Lib.hid (HB.out.trans (hb.mono HB.out.size))
          have HK := Lib.hid (HK.out.below hb)
          clear hb K hu
          unfold otVal
          go_upto_region 19 with (fail)
          obtain ⟨G, hG⟩ : ∃ z, v88.heap.size = z := ⟨_, rfl⟩
          obtain ⟨v89, hw⟩ : ∃ z, v88.alloc (.cells #[.int .i64 kk, .int .u64 (yy.conn : Int), .int .i64 yy.topic, .slice pu nu cu] 29) = z := ⟨_, rfl⟩
          have hb : Below v88.heap.size v88 v89 := by rw [← hw]; exact (Below.refl _ _).alloc (Nat.le_refl _) _
          have hg : v89.heap[G]? = some (otObj kk yy (.slice pu nu cu)) := by rw [← hw, ← hG]; exact World.alloc_heap_new _ _
          have HUU := Lib.hid (HUU.out.below hb)
          have HX := Lib.hid ((hb.block _ (Array.getElem?_eq_some_iff.1 HX.out).1).trans HX.out)
          have HO := Lib.hid ((hb.block _ (Array.getElem?_eq_some_iff.1 HO.out).1).trans HO.out)
          have HU := Lib.hid (HU.out.below hb)
          have HV := Lib.hid (HV.out.below hb)
          have HB := Lib.hid (HB.out.trans (hb.mono HB.out.size))
          have HK := Lib.hid (HK.out.below hb)
          rw [hG, hw]
          clear hb hG hw
          obtain ⟨g0, g1, g2, g3, _⟩ := OR.of hg
          have K := sc_OutText kk yy (.slice pu nu cu) v89 HUU.out HB2.out HB3.out HK.out.tabs HB4.out
          rw [HB1.out] at K
          unfold txtOut otVal at K
          simp only at K
          rw [ba_eta] at K
          have K := Lib.hid K
          clear hg
          go_wp2_with fail
          refine (KN.out _ _).mono ?_
          rintro e w' ⟨rfl, hw⟩
          subst w'
          go_wp2_with fail
          refine K.out.mono ?_
          rintro e v90 ⟨rfl, hb⟩
          have HX := Lib.hid ((hb.block _ (Array.getElem?_eq_some_iff.1 HX.out).1).trans HX.out)
          have HO := Lib.hid ((hb.block _ (Array.getElem?_eq_some_iff.1 HO.out).1).trans HO.out)
          have HU := Lib.hid (HU.out.below hb)
          have HV := Lib.hid (HV.out.below hb)
          have HB := Lib.hid (HB.out.trans (hb.mono HB.out.size))
          have HK := Lib.hid (HK.out.below hb)
          clear hb K g0 g1 g2 g3
          go_wp2_with fail
          refine (KN.out _ _).mono ?_
          rintro e w' ⟨rfl, hw⟩
          subst w'
          go_upto_region 23 with (fail)
          have KW := Lib.hid (sc_works v90 HK.out.tabs HK.out.ml)
          go_wp2_with fail
          refine KW.out.mono ?_
          rintro e v91 ⟨rfl, hb⟩
          have HB := Lib.hid (HB.out.trans (hb.mono HB.out.size))
          clear hb
          go_wp2_with fail
          go_ret
          exact ⟨rfl, HB.out⟩
end Go.Proofs.YtbaakfcbakpmpaaGreatDoor
