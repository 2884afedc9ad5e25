/- How layer 9 (token) trims texts and makes their letters small, as plain functions: no program in sight. -/
import Derived.Test.YtlefgkiembokeaaDoorTp
namespace Go.Proofs.YtlefgkiembokeaaDoor
set_option linter.unusedVariables false
set_option linter.unusedSimpArgs false
namespace Tp
def blankB (c : UInt8) : Bool := blank (c.toNat : Int)
def trimL (l : List UInt8) : List UInt8 := l.dropWhile blankB
def trimR (l : List UInt8) : List UInt8 := (l.reverse.dropWhile blankB).reverse
/-- a text without the blanks at its ends -/
def trim (l : List UInt8) : List UInt8 := trimR (trimL l)
theorem blankB_is (c : UInt8) : blankB c = ([32, 9] : List UInt8).contains c := by
  have : ∀ c : Fin 256, blankB (UInt8.ofNat c.val) = ([32, 9] : List UInt8).contains (UInt8.ofNat c.val) := by decide +kernel
  have h := this ⟨c.toNat, c.toNat_lt⟩
  simpa using h
theorem trimL_nil : trimL [] = [] := rfl
theorem trimL_cons (c : UInt8) (l : List UInt8) : trimL (c :: l) = if blankB c then trimL l else c :: l := by unfold trimL; rw [List.dropWhile_cons]
theorem trimR_nil : trimR [] = [] := rfl
theorem trimR_snoc (l : List UInt8) (c : UInt8) : trimR (l ++ [c]) = if blankB c then trimR l else l ++ [c] := by
  unfold trimR
  rw [List.reverse_append]
  show ((c :: l.reverse).dropWhile blankB).reverse = _
  rw [List.dropWhile_cons]
  split
  · rfl
  · simp
theorem trimR_append (x y : List UInt8) (h : trimR y ≠ []) : trimR (x ++ y) = x ++ trimR y := by
  unfold trimR at *
  have hne : y.reverse.dropWhile blankB ≠ [] := fun e => h (by rw [e]; rfl)
  rw [List.reverse_append, List.dropWhile_append]
  have : (y.reverse.dropWhile blankB).isEmpty = false := by cases hd : y.reverse.dropWhile blankB with
    | nil => exact absurd hd hne
    | cons _ _ => rfl
  rw [this]
  simp
theorem trimR_head (c : UInt8) (l : List UInt8) (h : blankB c = false) : ∃ m, trimR (c :: l) = c :: m := by
  unfold trimR
  rw [List.reverse_cons, List.dropWhile_append]
  split
  · exact ⟨[], by rw [List.dropWhile_cons]; simp [h]⟩
  · exact ⟨_, by rw [List.reverse_append]; rfl⟩
theorem trimS_is (l : List UInt8) : Lib.trimS l [32, 9] = trim l := by
  have hp : (([32, 9] : List UInt8).contains ·) = blankB := by funext c; exact (blankB_is c).symm
  have e1 : ∀ l, Lib.trimLeftS l [32, 9] = trimL l := fun l => by unfold Lib.trimLeftS trimL; rw [hp]
  have e2 : ∀ l, Lib.trimRightS l [32, 9] = trimR l := fun l => by unfold Lib.trimRightS trimR; rw [hp]
  unfold Lib.trimS trim
  rw [e1, e2]
  induction l with
  | nil => rfl
  | cons c l ih =>
    rw [trimL_cons]
    by_cases hc : blankB c = true
    · rw [if_pos hc]
      by_cases hr : trimR l = []
      · have h1 : trimR (c :: l) = [] := by
          have : c :: l = [c] ++ l := rfl
          unfold trimR at hr ⊢
          have hd : l.reverse.dropWhile blankB = [] := by simpa using hr
          rw [this, List.reverse_append, List.dropWhile_append, hd]
          simp [hc]
        rw [h1, ← ih, hr]
      · have h1 := trimR_append [c] l hr
        rw [List.singleton_append] at h1
        rw [h1, List.singleton_append, trimL_cons, if_pos hc, ih]
    · have hc' : blankB c = false := by simpa using hc
      rw [if_neg hc]
      obtain ⟨m, hm⟩ := trimR_head c l hc'
      rw [hm, trimL_cons, if_neg hc]
/-- small letters -/
def lower (l : List UInt8) : List UInt8 := l.map fun c => UInt8.ofNat (lowB c.toNat).toNat
theorem lower_at (c : UInt8) : (((UInt8.ofNat (lowB c.toNat).toNat).toNat : Nat) : Int) = lowB c.toNat := by
  have h := c.toNat_lt
  have : 0 ≤ lowB c.toNat ∧ lowB c.toNat < 256 := by unfold lowB; split <;> omega
  rw [UInt8.toNat_ofNat_of_lt' (by show (lowB (c.toNat : Int)).toNat < 256; omega)]
  omega
def isTok (l : List UInt8) : Bool := !l.isEmpty && allT tokB l
def isVal (l : List UInt8) : Bool := (trim l == l) && allT valB l
end Tp
end Go.Proofs.YtlefgkiembokeaaDoor
