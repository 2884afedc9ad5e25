/- What layer 9 (token) tells of bytes and texts, as plain functions: no program in sight. -/
import Derived.Below
import Derived.Lib.Hide
import Derived.Lib.SlTrimSet
namespace Go.Proofs.YtlefgkiembokeaaDoor
set_option linter.unusedVariables false
set_option linter.unusedSimpArgs false
namespace Tp
/-- the signs of a token that are no letters and no digits -/
def SG : ByteArray := ⟨#[33, 35, 36, 37, 38, 39, 42, 43, 45, 46, 94, 95, 96, 124, 126]⟩
def signB (c : Int) : Bool := SG.data.toList.any fun x => decide ((x.toNat : Int) = c)
/-- a token's byte -/
def tokB (c : Int) : Bool := decide (97 ≤ c ∧ c ≤ 122) || decide (65 ≤ c ∧ c ≤ 90) || decide (48 ≤ c ∧ c ≤ 57) || signB c
/-- a value's byte -/
def valB (c : Int) : Bool := decide (c = 9) || (decide (32 ≤ c) && decide (c ≠ 127))
def lowB (c : Int) : Int := if 65 ≤ c ∧ c ≤ 90 then c + 32 else c
def blank (c : Int) : Bool := decide (c = 9) || decide (c = 32)
def allT (f : Int → Bool) (l : List UInt8) : Bool := l.all fun c => f c.toNat
theorem allT_no {f : Int → Bool} {l : List UInt8} {k : Nat} (hk : k < l.length) (h : f (l[k].toNat : Int) = false) : allT f l = false := by
  unfold allT
  rw [List.all_eq_false]
  exact ⟨l[k], List.getElem_mem hk, by simpa using h⟩
theorem allT_snoc {f : Int → Bool} {l : List UInt8} {c : UInt8} (h : allT f l = true) (hc : f (c.toNat : Int) = true) : allT f (l ++ [c]) = true := by
  unfold allT at *
  rw [List.all_append, h]
  simpa using hc
def SGx (j : Nat) : Int := (SG.data.toList.getD j 0).toNat
theorem SG_size : SG.size = 15 := by decide
theorem SG_at (j : Nat) (h : j < SG.size) : ((SG[j]'h).toNat : Int) = SGx j := by
  unfold SGx
  rw [List.getD_eq_getElem?_getD, List.getElem?_eq_getElem (by simpa using h)]
  rfl
theorem SG_ascii (j : Nat) (h : j < SG.size) : (SG[j]'h).toNat < 128 := by
  have : ∀ x ∈ SG.data.toList, x.toNat < 128 := by decide
  exact this _ (by exact List.getElem_mem (l := SG.data.toList) (by simpa using h))
theorem signB_yes {c : Int} {j : Nat} (h : j < 15) (hc : SGx j = c) : signB c = true := by
  unfold signB
  rw [List.any_eq_true]
  exact ⟨SG.data.toList.getD j 0, by rw [List.getD_eq_getElem?_getD, List.getElem?_eq_getElem (by exact h)]; exact List.getElem_mem _, decide_eq_true hc⟩
theorem signB_no {c : Int} (h : ∀ j, j < 15 → SGx j ≠ c) : signB c = false := by
  unfold signB
  rw [List.any_eq_false]
  intro x hx
  obtain ⟨j, hj, rfl⟩ := List.mem_iff_getElem.1 hx
  have := h j (by exact hj)
  unfold SGx at this
  rw [List.getD_eq_getElem?_getD, List.getElem?_eq_getElem hj] at this
  simpa using this
end Tp
end Go.Proofs.YtlefgkiembokeaaDoor
