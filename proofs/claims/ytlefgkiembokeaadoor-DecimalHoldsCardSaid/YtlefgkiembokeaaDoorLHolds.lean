/- DecimalHolds returns true for any two numbers of 64 bits: the walk. The two tables of the library read as they are laid. -/
import Derived.Test.YtlefgkiembokeaaDoorDwk
import Derived.Test.YtlefgkiembokeaaDoorDs
import Derived.Test.YtlefgkiembokeaaDoorDl
namespace Go.Proofs.YtlefgkiembokeaaDoor
set_option linter.unusedVariables false
set_option linter.unusedSimpArgs false
open Go.RowKit
set_option maxHeartbeats 1000000
theorem addN_comm (a b : Int) : Dp.addN a b = Dp.addN b a ∧ Dp.addE a b = Dp.addE b a := by unfold Dp.addN Dp.addE; rw [Int.add_comm]; exact ⟨rfl, rfl⟩
theorem mulN_comm (a b : Int) : Dp.mulN a b = Dp.mulN b a ∧ Dp.mulE a b = Dp.mulE b a := by unfold Dp.mulN Dp.mulE; rw [Int.mul_comm]; exact ⟨rfl, rfl⟩
theorem sub_back {a b : Int} (ha : Dp.U a) (h : Dp.addE a b = 0) : Dp.subN (Dp.addN a b) b = a ∧ Dp.subE (Dp.addN a b) b = 0 := by
  unfold Dp.addE at h
  unfold Dp.subN Dp.subE Dp.addN Dp.U at *
  split at h
  · rename_i hc
    rw [if_pos hc, if_neg (by omega), if_neg (by omega)]
    exact ⟨by omega, rfl⟩
  · exact absurd h (by decide)
theorem texts_less (a b : Int) (S T : ByteArray) (ha : Dp.U a) (hb : Dp.U b) (hS : (⟨(Dp.digs 10 a.toNat).toArray⟩ : ByteArray) = S) (hT : (⟨(Dp.digs 10 b.toNat).toArray⟩ : ByteArray) = T) :
    (S.size < T.size ∧ a < b) ∨ (T.size ≤ S.size ∧ (((S.size : Nat) : Int) == ((T.size : Nat) : Int)) = true ∧ Op.bytesLess S.toList T.toList = true ∧ a < b) ∨ (T.size ≤ S.size ∧ (((S.size : Nat) : Int) == ((T.size : Nat) : Int)) = true ∧ Op.bytesLess S.toList T.toList = false ∧ b ≤ a) ∨ (T.size ≤ S.size ∧ (((S.size : Nat) : Int) == ((T.size : Nat) : Int)) = false ∧ b ≤ a) := by
  obtain ⟨u, rfl⟩ : ∃ u : Nat, a = u := ⟨a.toNat, by unfold Dp.U at ha; omega⟩
  obtain ⟨v, rfl⟩ : ∃ v : Nat, b = v := ⟨b.toNat, by unfold Dp.U at hb; omega⟩
  rw [Int.toNat_natCast] at hS hT
  have h := Dp.digs_less_iff (b := 10) (by omega) (by omega) u v
  have eS : S.size = (Dp.digs 10 u).length := by rw [← hS]; rfl
  have eT : T.size = (Dp.digs 10 v).length := by rw [← hT]; rfl
  have lS : S.toList = Dp.digs 10 u := by rw [← hS]; simp
  have lT : T.toList = Dp.digs 10 v := by rw [← hT]; simp
  rw [eS, eT, lS, lT]
  by_cases h1 : (Dp.digs 10 u).length < (Dp.digs 10 v).length
  · exact .inl ⟨h1, by have := h.2 (.inl h1); omega⟩
  · right
    by_cases h2 : (Dp.digs 10 u).length = (Dp.digs 10 v).length
    · cases h3 : Op.bytesLess (Dp.digs 10 u) (Dp.digs 10 v) with
      | true => exact .inl ⟨by omega, by rw [h2]; exact beq_self_eq_true _, rfl, by have := h.2 (.inr ⟨h2, h3⟩); omega⟩
      | false =>
        refine .inr (.inl ⟨by omega, by rw [h2]; exact beq_self_eq_true _, rfl, ?_⟩)
        apply Int.not_lt.1
        intro k
        rcases h.1 (by omega) with h4 | ⟨_, h4⟩
        · exact h1 h4
        · rw [h3] at h4; exact absurd h4 (by decide)
    · refine .inr (.inr ⟨by omega, beq_eq_false_iff_ne.2 (fun k => h2 (by omega)), ?_⟩)
      apply Int.not_lt.1
      intro k
      rcases h.1 (by omega) with h4 | ⟨h4, _⟩
      · exact h1 h4
      · exact h2 h4
set_option maxRecDepth 100000 in
theorem holds_law (a b : Int) (w : World) (ha : (Lit.int .u64 a).wf = true) (hb : (Lit.int .u64 b).wf = true) (ht : Tabs w) :
    Calls Tryd.prog 5 #[.int .u64 a, .int .u64 b] w fun e w' => e = .returned (.bool true) ∧ Below w.heap.size w w' := by
  have HT := Lib.hid ht
  have hU := u64_wf ha
  have hV := u64_wf hb
  clear ht ha hb
  have K1 := Lib.hid (dec_add a b w hU hV)
  have K2 := Lib.hid (dec_add b a w hV hU)
  have K3 := Lib.hid (dec_mul a b w hU hV)
  have K4 := Lib.hid (dec_mul b a w hV hU)
  have K5 := Lib.hid (dec_sub (Dp.addN a b) b w (Dp.addN_U hU hV) hV)
  have SB := Lib.hid (@sub_back a b hU)
  have T1 := Lib.hid (fun W (h : Tabs W) => dec_text a.toNat W (by unfold Dp.U at hU; omega) h)
  have T2 := Lib.hid (fun W (h : Tabs W) => dec_text b.toNat W (by unfold Dp.U at hV; omega) h)
  have c1 := addN_comm b a
  have c2 := mulN_comm b a
  rw [c1.1, c1.2] at K2
  rw [c2.1, c2.2] at K4
  clear c1 c2
  obtain ⟨S, hS⟩ : ∃ S : ByteArray, ⟨(Dp.digs 10 a.toNat).toArray⟩ = S := ⟨_, rfl⟩
  obtain ⟨T, hT⟩ : ∃ T : ByteArray, ⟨(Dp.digs 10 b.toNat).toArray⟩ = T := ⟨_, rfl⟩
  have HL := Lib.hid (texts_less a b S T hU hV hS hT)
  rw [hS, Int.toNat_of_nonneg hU.1] at T1
  rw [hT, Int.toNat_of_nonneg hV.1] at T2
  clear hS hT hU hV
  go_enter Tryd.func5, Tryd.ntmps5
  go_wp2_with fail
  refine K1.out.mono ?_; rintro e w' ⟨rfl, rfl⟩
  go_wp2_with fail
  refine K2.out.mono ?_; rintro e w' ⟨rfl, rfl⟩
  go_wp2_with fail
  refine K3.out.mono ?_; rintro e w' ⟨rfl, rfl⟩
  go_wp2_with fail
  refine K4.out.mono ?_; rintro e w' ⟨rfl, rfl⟩
  obtain ⟨z, hz⟩ : ∃ z, Dp.addE a b = z := ⟨_, rfl⟩
  rw [hz]
  have HZ := Lib.hid hz
  clear hz
  by_cases h0 : z = 0
  · subst h0
    obtain ⟨e1, e2⟩ := SB.out HZ.out
    rw [e1, e2] at K5
    clear e1 e2 SB
    go_wp2_with (go_at_call 22; go_in)
    refine K5.out.mono ?_; rintro e w' ⟨rfl, rfl⟩
    clear K1 K2 K3 K4 K5
    go_wp2_with (go_at_call 22; go_in)
    refine (T1.out _ HT.out).mono ?_; rintro e w1 ⟨rfl, hb1⟩
    go_wp2_with fail
    refine (T2.out _ (HT.out.below hb1)).mono ?_; rintro e w2 ⟨rfl, hb2⟩
    have hb : Below w.heap.size w w2 := hb1.trans (hb2.mono hb1.size)
    have TT := Lib.hid (HT.out.below hb)
    clear hb1 hb2
    rcases HL.out with ⟨h1, h2⟩ | ⟨h1, h2, h3, h4⟩ | ⟨h1, h2, h3, h4⟩ | ⟨h1, h2, h3⟩
    rotate_left 2
    · skip
      go_wp2_with fail
      refine (law01_works _ TT.out).mono ?_; rintro e w6 ⟨rfl, hb6⟩
      go_wp2
      go_ret
      exact ⟨rfl, hb.trans (hb6.mono hb.size)⟩
    · skip
      go_wp2_with fail
      refine (law01_works _ TT.out).mono ?_; rintro e w6 ⟨rfl, hb6⟩
      go_wp2
      go_ret
      exact ⟨rfl, hb.trans (hb6.mono hb.size)⟩
    all_goals
      go_wp2_with fail
      refine (law01_works _ TT.out).mono ?_; rintro e w6 ⟨rfl, hb6⟩
      go_wp2
      go_ret
      exact ⟨rfl, hb.trans (hb6.mono hb.size)⟩
  · have hz2 : (z == 0) = false := beq_eq_false_iff_ne.2 h0
    have H0 := Lib.hid h0
    clear K1 K2 K3 K4 K5 SB h0
    go_wp2_with (go_at_call 22; go_in)
    refine (T1.out _ HT.out).mono ?_; rintro e w1 ⟨rfl, hb1⟩
    go_wp2_with fail
    refine (T2.out _ (HT.out.below hb1)).mono ?_; rintro e w2 ⟨rfl, hb2⟩
    have hb : Below w.heap.size w w2 := hb1.trans (hb2.mono hb1.size)
    have TT := Lib.hid (HT.out.below hb)
    clear hb1 hb2
    rcases HL.out with ⟨h1, h2⟩ | ⟨h1, h2, h3, h4⟩ | ⟨h1, h2, h3, h4⟩ | ⟨h1, h2, h3⟩
    rotate_left 2
    · skip
      go_wp2_with fail
      refine (law01_works _ TT.out).mono ?_; rintro e w6 ⟨rfl, hb6⟩
      go_wp2
      go_ret
      exact ⟨rfl, hb.trans (hb6.mono hb.size)⟩
    · skip
      go_wp2_with fail
      refine (law01_works _ TT.out).mono ?_; rintro e w6 ⟨rfl, hb6⟩
      go_wp2
      go_ret
      exact ⟨rfl, hb.trans (hb6.mono hb.size)⟩
    all_goals
      go_wp2_with fail
      refine (law01_works _ TT.out).mono ?_; rintro e w6 ⟨rfl, hb6⟩
      go_wp2
      go_ret
      exact ⟨rfl, hb.trans (hb6.mono hb.size)⟩
end Go.Proofs.YtlefgkiembokeaaDoor
