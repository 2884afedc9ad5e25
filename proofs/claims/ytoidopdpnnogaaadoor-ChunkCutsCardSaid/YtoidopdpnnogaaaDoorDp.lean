/- What the functions of layer 1 (decimal) compute, as plain functions on whole numbers, and laws of these: no program in sight. No conditions but those that each law states. -/
import Derived.Below
import Derived.Lib.Hide
namespace Go.Proofs.YtoidopdpnnogaaaDoor
set_option linter.unusedVariables false
set_option linter.unusedSimpArgs false
namespace Dp
/-- a number of 64 bits -/
def U (a : Int) : Prop := 0 ≤ a ∧ a < 18446744073709551616
def addN (a b : Int) : Int := if a + b < 18446744073709551616 then a + b else 0
def addE (a b : Int) : Int := if a + b < 18446744073709551616 then 0 else 111
def subN (a b : Int) : Int := if a < b then 0 else a - b
def subE (a b : Int) : Int := if a < b then 112 else 0
def mulN (a b : Int) : Int := if a * b < 18446744073709551616 then a * b else 0
def mulE (a b : Int) : Int := if a * b < 18446744073709551616 then 0 else 111
def nextN (a b : Int) : Int := if b ≤ a then 0 else a + 1
def nextE (a b : Int) : Int := if b ≤ a then 111 else 0
def clampN (n a b : Int) : Int := if b < a then 0 else if n < a then a else if b < n then b else n
def clampE (a b : Int) : Int := if b < a then 2 else 0
theorem addN_U {a b : Int} (ha : U a) (hb : U b) : U (addN a b) := by unfold U addN at *; split <;> omega
theorem subN_U {a b : Int} (ha : U a) (hb : U b) : U (subN a b) := by unfold U subN at *; split <;> omega
theorem mulN_U {a b : Int} (ha : U a) (hb : U b) : U (mulN a b) := by
  unfold U mulN at *
  have h : 0 ≤ a * b := Int.mul_nonneg ha.1 hb.1
  split <;> omega
/-- Go's own test whether a product is too great: by wrapping and dividing. -/
theorem mul_div {a b : Int} (ha : U a) (hb : U b) (h0 : a ≠ 0) : (((a * b) % 18446744073709551616) / a = b) ↔ a * b < 18446744073709551616 := by
  unfold U at *
  have hp : 0 ≤ a * b := Int.mul_nonneg ha.1 hb.1
  constructor
  · intro h
    have h1 : a * (((a * b) % 18446744073709551616) / a) ≤ (a * b) % 18446744073709551616 := by
      rw [Int.mul_comm]; exact Int.ediv_mul_le _ h0
    rw [h] at h1
    omega
  · intro h
    rw [Int.emod_eq_of_lt hp h, Int.mul_comm, Int.mul_ediv_cancel _ h0]
theorem mul_most {a b : Int} (ha : U a) (hb : U b) (h0 : a ≠ 0) : (18446744073709551615 / a < b) ↔ ¬ a * b < 18446744073709551616 := by
  unfold U at *
  have hpos : 0 < a := by omega
  rw [Int.ediv_lt_iff_lt_mul hpos, Int.mul_comm]
  omega
end Dp
end Go.Proofs.YtoidopdpnnogaaaDoor
