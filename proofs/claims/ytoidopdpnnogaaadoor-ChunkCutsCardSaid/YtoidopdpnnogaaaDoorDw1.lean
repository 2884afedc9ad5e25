/- The sums, products and their like of layer 1 (decimal), the program's and the reference's, compute the plain functions of the text Dp. Each number is one of 64 bits. -/
import Derived.Test.YtoidopdpnnogaaaDoorRows
import Derived.Test.YtoidopdpnnogaaaDoorDp
import Derived.Test.YtoidopdpnnogaaaDoorKit
namespace Go.Proofs.YtoidopdpnnogaaaDoor
set_option linter.unusedVariables false
set_option linter.unusedSimpArgs false
open Go.RowKit

theorem dec_add (a b : Int) (w : World) (ha : Dp.U a) (hb : Dp.U b) :
    Calls Tryd.prog 186 #[.int .u64 a, .int .u64 b] w fun e w' => e = .returned (.tuple #[.int .u64 (Dp.addN a b), .int .i64 (Dp.addE a b)]) ∧ w = w' := by
  go_enter Tryd.func186, Tryd.ntmps186
  go_wp2
  all_goals go_ret2
  all_goals (refine ⟨ret_pair ?_ ?_, rfl⟩ <;> simp only [Dp.U, IntKind.wrap_u64, Dp.addN, Dp.addE] at * <;> split <;> omega)
theorem mul_test {a b : Int} (ha : Dp.U a) (hb : Dp.U b) (h0 : a ≠ 0) : (IntKind.u64.wrap ((IntKind.u64.wrap (a * b)).tdiv a) != b) = !decide (a * b < 18446744073709551616) := by
  have h := Dp.mul_div ha hb h0
  have hp : 0 ≤ a * b := Int.mul_nonneg ha.1 hb.1
  unfold Dp.U at ha hb
  have hm : 0 ≤ (a * b) % 18446744073709551616 ∧ (a * b) % 18446744073709551616 < 18446744073709551616 := by omega
  have e1 : IntKind.u64.wrap ((IntKind.u64.wrap (a * b)).tdiv a) = ((a * b) % 18446744073709551616) / a := by
    rw [IntKind.wrap_u64, IntKind.wrap_u64, Int.tdiv_eq_ediv_of_nonneg hm.1]
    have h1 : 0 ≤ ((a * b) % 18446744073709551616) / a := Int.ediv_nonneg hm.1 ha.1
    have h2 : ((a * b) % 18446744073709551616) / a ≤ (a * b) % 18446744073709551616 := Int.ediv_le_self _ hm.1
    omega
  rw [e1]
  by_cases hc : a * b < 18446744073709551616
  · rw [decide_eq_true hc]
    have := h.2 hc
    simp [this]
  · rw [decide_eq_false hc]
    have : ¬ _ := fun x => hc (h.1 x)
    simpa using this
theorem dec_mul (a b : Int) (w : World) (ha : Dp.U a) (hb : Dp.U b) :
    Calls Tryd.prog 185 #[.int .u64 a, .int .u64 b] w fun e w' => e = .returned (.tuple #[.int .u64 (Dp.mulN a b), .int .i64 (Dp.mulE a b)]) ∧ w = w' := by
  have hp : 0 ≤ a * b := Int.mul_nonneg ha.1 hb.1
  by_cases h0 : a = 0
  · subst h0
    go_enter Tryd.func185, Tryd.ntmps185
    go_wp2
    go_ret2
    refine ⟨ret_pair ?_ ?_, rfl⟩ <;> simp [Dp.mulN, Dp.mulE, IntKind.wrap_u64]
  · have h1 : (a != 0) = true := bne_iff_ne.2 h0
    by_cases hc : a * b < 18446744073709551616
    · have H1 := Lib.hid (show Dp.mulN a b = a * b from if_pos hc)
      have H2 := Lib.hid (show Dp.mulE a b = 0 from if_pos hc)
      have H3 := Lib.hid (show IntKind.u64.wrap (a * b) = a * b from by rw [IntKind.wrap_u64]; omega)
      have ht : (IntKind.u64.wrap ((IntKind.u64.wrap (a * b)).tdiv a) != b) = false := by rw [mul_test ha hb h0, decide_eq_true hc]; rfl
      clear hc hp
      go_enter Tryd.func185, Tryd.ntmps185
      go_wp2
      go_ret2
      exact ⟨ret_pair (H3.out.trans H1.out.symm) H2.out.symm, rfl⟩
    · have H1 := Lib.hid (show Dp.mulN a b = 0 from if_neg hc)
      have H2 := Lib.hid (show Dp.mulE a b = 111 from if_neg hc)
      have ht : (IntKind.u64.wrap ((IntKind.u64.wrap (a * b)).tdiv a) != b) = true := by rw [mul_test ha hb h0, decide_eq_false hc]; rfl
      clear hc hp
      go_enter Tryd.func185, Tryd.ntmps185
      go_wp2
      go_ret2
      exact ⟨ret_pair H1.out.symm H2.out.symm, rfl⟩
theorem most_div {a : Int} (ha : Dp.U a) (h0 : a ≠ 0) : IntKind.u64.wrap (Int.tdiv 18446744073709551615 a) = 18446744073709551615 / a := by
  unfold Dp.U at ha
  rw [IntKind.wrap_u64, Int.tdiv_eq_ediv_of_nonneg (by omega)]
  have h1 : 0 ≤ (18446744073709551615 : Int) / a := Int.ediv_nonneg (by omega) ha.1
  have h2 : (18446744073709551615 : Int) / a ≤ 18446744073709551615 := Int.ediv_le_self _ (by omega)
  omega
end Go.Proofs.YtoidopdpnnogaaaDoor
