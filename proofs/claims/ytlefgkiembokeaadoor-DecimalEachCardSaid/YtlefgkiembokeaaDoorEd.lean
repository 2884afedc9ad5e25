/- A number's digits from the lowest one on, as a plain law of lists. -/
import Derived.Test.YtlefgkiembokeaaDoorDt
import Derived.Test.YtlefgkiembokeaaDoorE1
namespace Go.Proofs.YtlefgkiembokeaaDoor
set_option linter.unusedVariables false
set_option linter.unusedSimpArgs false
namespace Dp
theorem digs_pos10 (n : Nat) : 1 ≤ (digs 10 n).length := by
  have := digs_ne 10 n
  cases h : digs 10 n with
  | nil => exact absurd h this
  | cons _ _ => simp
theorem digs_len (u : Nat) : (digs 10 u).length = if u < 10 then 1 else (digs 10 (u / 10)).length + 1 := by
  by_cases h : u < 10
  · rw [digs_lt h, if_pos h]; rfl
  · rw [digs_ge (by omega) h, if_neg h]; simp
theorem dig_more : ∀ (k u : Nat), k < (digs 10 u).length → (9 < u / 10 ^ k ↔ k + 1 < (digs 10 u).length)
  | 0, u, h => by
    rw [digs_len]
    split
    · simp; omega
    · have := digs_pos10 (u / 10)
      simp; omega
  | k + 1, u, h => by
    rw [digs_len] at h ⊢
    split at h
    · omega
    · rename_i hu
      rw [if_neg hu]
      have ih := dig_more k (u / 10) (by omega)
      have e : u / 10 ^ (k + 1) = u / 10 / 10 ^ k := by rw [Nat.pow_succ, Nat.mul_comm, Nat.div_div_eq_div_mul]
      rw [e, ih]
      omega
theorem dig_at : ∀ (k u : Nat), k < (digs 10 u).length → (digs 10 u).getD ((digs 10 u).length - 1 - k) 0 = dg (u / 10 ^ k % 10)
  | 0, u, h => by
    by_cases hu : u < 10
    · rw [digs_lt hu]
      have : u / 10 ^ 0 % 10 = u := by simp; omega
      rw [this]; rfl
    · rw [digs_ge (by omega) hu]
      simp
  | k + 1, u, h => by
    have h0 := h
    rw [digs_len] at h
    split at h
    · omega
    · rename_i hu
      have ih := dig_at k (u / 10) (by omega)
      have e : u / 10 ^ (k + 1) = u / 10 / 10 ^ k := by rw [Nat.pow_succ, Nat.mul_comm, Nat.div_div_eq_div_mul]
      rw [e, ← ih, digs_ge (by omega) hu, List.length_append]
      simp only [List.length_cons, List.length_nil, Nat.zero_add]
      have hN := digs_pos10 (u / 10)
      have h2 : (digs 10 (u / 10)).length + 1 - 1 - (k + 1) = (digs 10 (u / 10)).length - 1 - k := by omega
      rw [h2, List.getD_eq_getElem?_getD, List.getD_eq_getElem?_getD, List.getElem?_append_left (by omega)]
theorem digs_digN (u : Nat) (hu : u < 18446744073709551616) : DigN u (digs 10 u).length :=
  ⟨digs_pos10 u, digs_length_le (b := 10) (by omega) 20 u (by omega) (by omega), fun k hk => dig_more k u hk⟩
theorem dg_ten : ∀ i : Fin 10, ((dg i.val).toNat : Int) = 48 + i.val := by decide +kernel
/-- the law's own test at the digit number k -/
theorem dig_byte {u k N : Nat} {S : ByteArray} (hS : (⟨(digs 10 u).toArray⟩ : ByteArray) = S) (hN : (digs 10 u).length = N) (hk : k < N) (h : N - 1 - k < S.size) :
    ((S[N - 1 - k]'h).toNat : Int) = 48 + ((u / 10 ^ k : Nat) : Int) % 10 := by
  subst hS hN
  have h1 := dig_at k u hk
  have h2 : (⟨(digs 10 u).toArray⟩ : ByteArray)[(digs 10 u).length - 1 - k]'h = (digs 10 u).getD ((digs 10 u).length - 1 - k) 0 := by
    rw [List.getD_eq_getElem?_getD, List.getElem?_eq_getElem (by omega)]
    rfl
  rw [h2, h1, dg_ten ⟨u / 10 ^ k % 10, Nat.mod_lt _ (by omega)⟩]
  simp
end Dp
end Go.Proofs.YtlefgkiembokeaaDoor
