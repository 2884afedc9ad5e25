/- Texts of this claim, one behind the other: LRF. -/
import Derived.Test.YtgfammlmbjmkoaaGreatDoorOwm4
/- RouteFits returns true: the walk. -/
namespace Go.Proofs.YtgfammlmbjmkoaaGreatDoor
set_option linter.unusedVariables false
set_option linter.unusedSimpArgs false
open Go.RowKit Go.Shelf
set_option maxHeartbeats 8000000
set_option maxRecDepth 100000
theorem walkRF (s t : ByteArray) (v : Value) (P : List (List UInt8)) (w : World) (hs : s.size ≤ maxLen) (ht : t.size ≤ maxLen) (hv : XS w v P) (hP : P.length ≤ maxLen) (hk : KX w) :
    Calls Tryz.prog 5 #[.string s, .string t, v] w fun e w' => e = .returned (.bool true) ∧ Below w.heap.size w w' := by
  have WK := Lib.hid (fun W (h : KX W) => lw_works W h)
  have HK := Lib.hid hk
  have KS := Lib.hid (lw_short v P 12 40 w hv hP (by omega) (by omega))
  obtain ⟨p, c, rfl⟩ := hv.slice
  have HV := Lib.hid hv
  have HSH := Lib.hid (show isShort P 12 40 = true → P.length ≤ 100000 from fun h => by have := (of_decide_eq_true h).1; omega)
  obtain ⟨q, hq⟩ : ∃ q, isShort P 12 40 = q := ⟨_, rfl⟩
  obtain ⟨n, hn⟩ : ∃ n, P.length = n := ⟨_, rfl⟩
  rw [hq] at KS HSH
  rw [hn] at KS
  have HN := Lib.hid hn
  clear hk hv hq
  by_cases h1 : s.size ≤ 100
  · by_cases h2 : t.size ≤ 100
    · cases q with
      | true =>
        have HPL := Lib.hid (HSH.out rfl)
        have A1 := Lib.hid (fun W (hx : XS W (.slice p P.length c) P) h => rt_Fits s _ P W (by omega) hx HPL.out h)
        have R1 := Lib.hid (fun W (hx : XS W (.slice p P.length c) P) => rf_Fits s _ P W (by omega) hx HPL.out)
        have A2 := Lib.hid (fun W h => rt_Covers s t W (by omega) (by omega) h)
        have R2 := Lib.hid (fun W => rf_Covers s t W (by omega) (by omega))
        have A3 := Lib.hid (fun W h => rt_Covers t s W (by omega) (by omega) h)
        have R3 := Lib.hid (fun W => rf_Covers t s W (by omega) (by omega))
        obtain ⟨x, hx⟩ : ∃ q, Ro.fitsT s.data.toList P = q := ⟨_, rfl⟩
        obtain ⟨y, hy⟩ : ∃ q, Ro.coversT s.data.toList t.data.toList = q := ⟨_, rfl⟩
        obtain ⟨z, hz⟩ : ∃ q, Ro.coversT t.data.toList s.data.toList = q := ⟨_, rfl⟩
        rw [hx] at A1 R1
        rw [hy] at A2 R2
        rw [hz] at A3 R3
        have hxx : (x == x) = true := beq_self_eq_true _
        have hyy : (y == y) = true := beq_self_eq_true _
        have hzz : (z == z) = true := beq_self_eq_true _
        clear hx hy hz hs ht HSH
        rw [hn] at A1 R1 HV ⊢
        clear hn
        go_enter Tryz.func5, Tryz.ntmps5
        go_wp2_with fail
        refine KS.out.mono ?_
        rintro e wx ⟨rfl, hwx⟩
        subst wx
        go_wp2_with fail
        refine (A1.out _ HV.out HK.out).mono ?_
        rintro e w1 ⟨rfl, hb1⟩
        have HB1 := Lib.hid hb1
        clear hb1 A1
        go_wp2_with fail
        refine (R1.out _ (HV.out.below HB1.out)).mono ?_
        rintro e w2 ⟨rfl, hb2⟩
        have HB2 := Lib.hid (HB1.out.trans (hb2.mono HB1.out.size))
        clear hb2 R1
        go_wp2_with fail
        refine (A2.out _ (HK.out.below HB2.out)).mono ?_
        rintro e w3 ⟨rfl, hb3⟩
        have HB3 := Lib.hid (HB2.out.trans (hb3.mono HB2.out.size))
        clear hb3 A2
        go_wp2_with fail
        refine (R2.out _).mono ?_
        rintro e w4 ⟨rfl, hb4⟩
        have HB4 := Lib.hid (HB3.out.trans (hb4.mono HB3.out.size))
        clear hb4 R2
        go_wp2_with fail
        refine (A3.out _ (HK.out.below HB4.out)).mono ?_
        rintro e w5 ⟨rfl, hb5⟩
        have HB5 := Lib.hid (HB4.out.trans (hb5.mono HB4.out.size))
        clear hb5 A3
        go_wp2_with fail
        refine (R3.out _).mono ?_
        rintro e w6 ⟨rfl, hb6⟩
        have HB6 := Lib.hid (HB5.out.trans (hb6.mono HB5.out.size))
        clear hb6 R3
        go_wp2_with fail
        refine (WK.out _ (HK.out.below HB6.out)).mono ?_
        rintro e w7 ⟨rfl, hb7⟩
        have HB7 := Lib.hid (HB6.out.trans (hb7.mono HB6.out.size))
        clear hb7
        go_wp2_with fail
        go_ret
        exact ⟨rfl, HB7.out⟩
      | false =>
        rw [hn]
        clear hn HSH
        go_enter Tryz.func5, Tryz.ntmps5
        go_wp2_with fail
        refine KS.out.mono ?_
        rintro e wx ⟨rfl, hwx⟩
        subst wx
        go_wp2_with fail
        refine (WK.out _ HK.out).mono ?_
        rintro e w4 ⟨rfl, b4⟩
        go_wp2
        go_ret
        exact ⟨rfl, b4⟩
    · rw [hn]
      go_enter Tryz.func5, Tryz.ntmps5
      go_wp2_with fail
      refine (WK.out _ HK.out).mono ?_
      rintro e w4 ⟨rfl, b4⟩
      go_wp2
      go_ret
      exact ⟨rfl, b4⟩
  · rw [hn]
    go_enter Tryz.func5, Tryz.ntmps5
    go_wp2_with fail
    refine (WK.out _ HK.out).mono ?_
    rintro e w4 ⟨rfl, b4⟩
    go_wp2
    go_ret
    exact ⟨rfl, b4⟩
end Go.Proofs.YtgfammlmbjmkoaaGreatDoor
