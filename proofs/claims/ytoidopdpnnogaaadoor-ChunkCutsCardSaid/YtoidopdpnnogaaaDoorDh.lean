/- The digits of a number to a base, as a plain function, and its laws: no program in sight. -/
import Derived.Test.YtoidopdpnnogaaaDoorDq
import Derived.Lib.ItoaNum
namespace Go.Proofs.YtoidopdpnnogaaaDoor
set_option linter.unusedVariables false
set_option linter.unusedSimpArgs false
namespace Dp
/-- the sign of a digit -/
def dg (i : Nat) : UInt8 := [48, 49, 50, 51, 52, 53, 54, 55, 56, 57, 97, 98, 99, 100, 101, 102].getD i 0
/-- a number's digits -/
def digs (b n : Nat) : List UInt8 := if h : n < b ∨ b < 2 then [dg n] else digs b (n / b) ++ [dg (n % b)]
termination_by n
decreasing_by exact Nat.div_lt_self (by omega) (by omega)
theorem digs_lt {b n : Nat} (h : n < b) : digs b n = [dg n] := by rw [digs, dif_pos (.inl h)]
theorem digs_ge {b n : Nat} (hb : 2 ≤ b) (h : ¬ n < b) : digs b n = digs b (n / b) ++ [dg (n % b)] := by rw [digs, dif_neg (by omega)]
theorem digs_ne (b n : Nat) : digs b n ≠ [] := by
  rw [digs]; split <;> simp
theorem dec_digs (n : Nat) : Lib.decDigits n = digs 10 n := by
  induction n using Nat.strongRecOn with
  | _ n ih =>
    rw [Lib.decDigits]
    split
    · rename_i h
      rw [digs_lt h]
      congr 1
      have : n = 0 ∨ n = 1 ∨ n = 2 ∨ n = 3 ∨ n = 4 ∨ n = 5 ∨ n = 6 ∨ n = 7 ∨ n = 8 ∨ n = 9 := by omega
      rcases this with rfl | rfl | rfl | rfl | rfl | rfl | rfl | rfl | rfl | rfl <;> rfl
    · rename_i h
      rw [digs_ge (by omega) h, ih (n / 10) (by omega)]
      congr 2
      have : n % 10 < 10 := Nat.mod_lt _ (by omega)
      generalize n % 10 = m at *
      have : m = 0 ∨ m = 1 ∨ m = 2 ∨ m = 3 ∨ m = 4 ∨ m = 5 ∨ m = 6 ∨ m = 7 ∨ m = 8 ∨ m = 9 := by omega
      rcases this with rfl | rfl | rfl | rfl | rfl | rfl | rfl | rfl | rfl | rfl <;> rfl
/-- of a number below 16 to the k there are at most k digits -/
theorem hex_room {u len : Nat} (h : u * 16 ^ len < 16 ^ 16) (h0 : 1 ≤ u) : len < 16 := by
  rcases Nat.lt_or_ge len 16 with h' | h'
  · exact h'
  · have h1 : 16 ^ 16 ≤ 16 ^ len := Nat.pow_le_pow_right (by omega) h'
    have h2 : 16 ^ len ≤ u * 16 ^ len := Nat.le_mul_of_pos_left _ h0
    omega
theorem hex_less {u len : Nat} (h : u * 16 ^ len < 16 ^ 16) : (u / 16) * 16 ^ (len + 1) < 16 ^ 16 := by
  have h1 : (u / 16) * 16 ^ (len + 1) ≤ u * 16 ^ len := by
    rw [Nat.pow_succ, Nat.mul_comm (16 ^ len) 16, ← Nat.mul_assoc]
    exact Nat.mul_le_mul_right _ (Nat.div_mul_le_self _ _)
  omega
end Dp
end Go.Proofs.YtoidopdpnnogaaaDoor
