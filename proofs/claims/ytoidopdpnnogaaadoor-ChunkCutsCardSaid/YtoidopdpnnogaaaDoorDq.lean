/- How digits are read to a base of ten or of sixteen, as plain functions: no program in sight. -/
import Derived.Test.YtoidopdpnnogaaaDoorDp
import Derived.Lib.Bytealg
namespace Go.Proofs.YtoidopdpnnogaaaDoor
set_option linter.unusedVariables false
set_option linter.unusedSimpArgs false
namespace Dp
/-- a digit's value to the base 16; 16: it is none -/
def digV (c : Int) : Int := if 48 ≤ c ∧ c ≤ 57 then c - 48 else if 97 ≤ c ∧ c ≤ 102 then c - 87 else if 65 ≤ c ∧ c ≤ 70 then c - 55 else 16
/-- a digit's value to a base, -1: it is none -/
def valV (b c : Int) : Int := if digV c < b then digV c else -1
theorem digV_lo (c : Int) : 0 ≤ digV c ∧ digV c ≤ 16 := by
  unfold digV
  repeat' split
  all_goals omega
/-- digits, one behind the other, behind a number -/
def rd (b : Int) : List UInt8 → Int → Int × Int
  | [], n => (n, 0)
  | c :: l, n => if mulE n b ≠ 0 then (0, 111) else if addE (mulN n b) (digV c.toNat) ≠ 0 then (0, 111) else rd b l (addN (mulN n b) (digV c.toNat))
/-- are all of them digits? -/
def allD (b : Int) (l : List UInt8) : Bool := l.all fun c => decide (digV c.toNat < b)
theorem allD_no {b : Int} {l : List UInt8} {k : Nat} (hk : k < l.length) (h : decide (digV (l[k].toNat : Int) < b) = false) : allD b l = false := by
  unfold allD
  rw [List.all_eq_false]
  exact ⟨l[k], List.getElem_mem hk, by simpa using h⟩
def numN (b : Int) (l : List UInt8) : Int := if l = [] ∨ allD b l = false then 0 else (rd b l 0).1
def numE (b : Int) (l : List UInt8) : Int := if l = [] ∨ allD b l = false then 110 else (rd b l 0).2
def parN (l : List UInt8) : Int := if 1 < l.length ∧ l.head? = some 48 then 0 else numN 10 l
def parE (l : List UInt8) : Int := if 1 < l.length ∧ l.head? = some 48 then 110 else numE 10 l
theorem digit_U (c : Int) : U (digV c) := by have := digV_lo c; unfold U; omega
theorem rd_err (b : Int) (l : List UInt8) (n : Int) : (rd b l n).2 = 0 ∨ ((rd b l n).1 = 0 ∧ (rd b l n).2 = 111) := by
  induction l generalizing n with
  | nil => exact .inl rfl
  | cons c l ih => simp only [rd]; split; exact .inr ⟨rfl, rfl⟩; split; exact .inr ⟨rfl, rfl⟩; exact ih _
def known (b : Int) : List UInt8 := if b = 10 then [48, 49, 50, 51, 52, 53, 54, 55, 56, 57] else [48, 49, 50, 51, 52, 53, 54, 55, 56, 57, 97, 98, 99, 100, 101, 102]
theorem index_ten : ∀ c : Fin 256, Lib.indexByte [48, 49, 50, 51, 52, 53, 54, 55, 56, 57] (UInt8.ofNat c.val) = valV 10 c.val := by decide +kernel
theorem index_hex : ∀ c : Fin 256, Lib.indexByte [48, 49, 50, 51, 52, 53, 54, 55, 56, 57, 97, 98, 99, 100, 101, 102] (UInt8.ofNat (if 65 ≤ c.val ∧ c.val ≤ 70 then c.val + 32 else c.val)) = valV 16 c.val := by decide +kernel
end Dp
end Go.Proofs.YtoidopdpnnogaaaDoor
