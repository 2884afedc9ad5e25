/- Of two numbers the greater one's text is longer, or as long and behind: no program in sight. -/
import Derived.Test.YtlefgkiembokeaaDoorDh
namespace Go.Proofs.YtlefgkiembokeaaDoor
set_option linter.unusedVariables false
set_option linter.unusedSimpArgs false
namespace Dp
open Go (Op.bytesLess)
theorem bytesLess_asymm : ∀ (x y : List UInt8), Op.bytesLess x y = true → Op.bytesLess y x = false
  | [], [], h => by simp [Op.bytesLess] at h
  | _ :: _, [], h => by simp [Op.bytesLess] at h
  | [], _ :: _, _ => rfl
  | a :: x, b :: y, h => by
    simp only [Op.bytesLess, Bool.or_eq_true, Bool.and_eq_true, decide_eq_true_eq, beq_iff_eq] at h
    simp only [Op.bytesLess, Bool.or_eq_false_iff, Bool.and_eq_false_iff, decide_eq_false_iff_not]
    rcases h with h | ⟨rfl, h⟩
    · have h' := UInt8.lt_iff_toNat_lt.1 h
      refine ⟨fun k => ?_, .inl ?_⟩
      · have := UInt8.lt_iff_toNat_lt.1 k; omega
      · simp only [beq_eq_false_iff_ne, ne_eq]
        intro e; subst e; omega
    · refine ⟨fun k => ?_, .inr (bytesLess_asymm x y h)⟩
      have := UInt8.lt_iff_toNat_lt.1 k; omega
theorem bytesLess_irrefl (x : List UInt8) : Op.bytesLess x x = false := by
  cases h : Op.bytesLess x x with
  | false => rfl
  | true => rw [bytesLess_asymm x x h] at h; exact absurd h (by decide)
theorem bytesLess_append : ∀ (x y u v : List UInt8), x.length = y.length → Op.bytesLess x y = true → Op.bytesLess (x ++ u) (y ++ v) = true
  | [], [], _, _, _, h => by simp [Op.bytesLess] at h
  | _ :: _, [], _, _, e, _ => by simp at e
  | [], _ :: _, _, _, e, _ => by simp at e
  | a :: x, b :: y, u, v, e, h => by
    simp only [Op.bytesLess, Bool.or_eq_true, Bool.and_eq_true, decide_eq_true_eq, beq_iff_eq] at h
    simp only [List.cons_append, Op.bytesLess, Bool.or_eq_true, Bool.and_eq_true, decide_eq_true_eq, beq_iff_eq]
    rcases h with h | ⟨rfl, h⟩
    · exact .inl h
    · exact .inr ⟨rfl, bytesLess_append x y u v (by simpa using e) h⟩
theorem bytesLess_same : ∀ (x u v : List UInt8), Op.bytesLess (x ++ u) (x ++ v) = Op.bytesLess u v
  | [], _, _ => rfl
  | a :: x, u, v => by
    simp only [List.cons_append, Op.bytesLess, bytesLess_same x u v]
    have : ¬ a < a := fun h => by have := UInt8.lt_iff_toNat_lt.1 h; omega
    simp [this]
theorem dg_lt : ∀ i j : Fin 16, i < j → dg i.val < dg j.val := by decide +kernel
theorem digs_pos (b n : Nat) : 1 ≤ (digs b n).length := by
  have := digs_ne b n
  cases h : digs b n with
  | nil => exact absurd h this
  | cons _ _ => simp
/-- of two numbers the greater one's text is longer, or as long and behind -/
theorem digs_less {b : Nat} (hb : 2 ≤ b) (hb' : b ≤ 16) : ∀ (m n : Nat), n < m → (digs b n).length < (digs b m).length ∨ ((digs b n).length = (digs b m).length ∧ Op.bytesLess (digs b n) (digs b m) = true) := by
  intro m
  induction m using Nat.strongRecOn with
  | _ m ih =>
    intro n h
    by_cases hm : m < b
    · rw [digs_lt hm, digs_lt (by omega : n < b)]
      right
      refine ⟨rfl, ?_⟩
      have := dg_lt ⟨n, by omega⟩ ⟨m, by omega⟩ h
      simp [Op.bytesLess, this]
    · rw [digs_ge hb hm]
      by_cases hn : n < b
      · rw [digs_lt hn]
        left
        have := digs_pos b (m / b)
        simp; omega
      · rw [digs_ge hb hn]
        have hmb : m / b < m := Nat.div_lt_self (by omega) (by omega)
        by_cases hq : n / b < m / b
        · rcases ih (m / b) hmb (n / b) hq with h1 | ⟨h1, h2⟩
          · left; simpa using h1
          · right; exact ⟨by simpa using h1, bytesLess_append _ _ _ _ h1 h2⟩
        · have hle : n / b ≤ m / b := Nat.div_le_div_right (by omega)
          have he : n / b = m / b := by omega
          right
          rw [he]
          refine ⟨by simp, ?_⟩
          rw [bytesLess_same]
          have h1 := Nat.div_add_mod n b
          have h2 := Nat.div_add_mod m b
          rw [he] at h1
          have h3 : n % b < m % b := by omega
          have h4 : m % b < b := Nat.mod_lt _ (by omega)
          have := dg_lt ⟨n % b, by omega⟩ ⟨m % b, by omega⟩ h3
          simp [Op.bytesLess, this]
theorem digs_less_iff {b : Nat} (hb : 2 ≤ b) (hb' : b ≤ 16) (n m : Nat) : n < m ↔ ((digs b n).length < (digs b m).length ∨ ((digs b n).length = (digs b m).length ∧ Op.bytesLess (digs b n) (digs b m) = true)) := by
  constructor
  · exact digs_less hb hb' m n
  · intro h
    rcases Nat.lt_trichotomy n m with h' | rfl | h'
    · exact h'
    · rcases h with h | ⟨_, h⟩
      · omega
      · rw [bytesLess_irrefl] at h; exact absurd h (by decide)
    · rcases digs_less hb hb' n m h' with h1 | ⟨h1, h2⟩
      · omega
      · rcases h with h | ⟨_, h⟩
        · omega
        · rw [bytesLess_asymm _ _ h2] at h; exact absurd h (by decide)
end Dp
end Go.Proofs.YtlefgkiembokeaaDoor
