/- A number's digits, read back, are that number: with noughts ahead, or in capitals, too. No program in sight. -/
import Derived.Test.YtoidopdpnnogaaaDoorDh
import Derived.Lib.Repeat
import Derived.Lib.Case
namespace Go.Proofs.YtoidopdpnnogaaaDoor
set_option linter.unusedVariables false
set_option linter.unusedSimpArgs false
namespace Dp
theorem rd_append (b : Int) : ∀ (l r : List UInt8) (n : Int), (rd b l n).2 = 0 → rd b (l ++ r) n = rd b r (rd b l n).1
  | [], r, n, _ => rfl
  | c :: l, r, n, h => by
    simp only [rd, List.cons_append] at h ⊢
    by_cases h1 : mulE n b ≠ 0
    · rw [if_pos h1] at h; simp at h
    · rw [if_neg h1] at h ⊢
      by_cases h2 : addE (mulN n b) (digV c.toNat) ≠ 0
      · rw [if_pos h2] at h; simp at h
      · rw [if_neg h2] at h ⊢
        rw [rd_append b l r _ h, if_neg h1, if_neg h2]
theorem rd_one {b n : Int} {c : UInt8} (h0 : 0 ≤ n * b) (h : n * b + digV c.toNat < 18446744073709551616) : rd b [c] n = (n * b + digV c.toNat, 0) := by
  have hd := digV_lo (c.toNat : Int)
  have e1 : mulE n b = 0 := by unfold mulE; rw [if_pos (by omega)]
  have e2 : mulN n b = n * b := by unfold mulN; rw [if_pos (by omega)]
  have e3 : addE (n * b) (digV c.toNat) = 0 := by unfold addE; rw [if_pos h]
  have e4 : addN (n * b) (digV c.toNat) = n * b + digV c.toNat := by unfold addN; rw [if_pos h]
  simp only [rd]
  rw [if_neg (by rw [e1]; decide), e2, if_neg (by rw [e3]; decide), e4]
theorem dg_val : ∀ i : Fin 16, digV ((dg i.val).toNat : Int) = i.val := by decide +kernel
/-- digits that f turns into digits of the same value -/
theorem rd_digs {b : Nat} (hb : 2 ≤ b) (hb' : b ≤ 16) (f : UInt8 → UInt8) (hf : ∀ i : Fin 16, digV ((f (dg i.val)).toNat : Int) = i.val) :
    ∀ n : Nat, n < 18446744073709551616 → rd b ((digs b n).map f) 0 = ((n : Int), 0) := by
  intro n
  induction n using Nat.strongRecOn with
  | _ n ih =>
    intro hn
    by_cases h : n < b
    · rw [digs_lt h]
      have h1 := hf ⟨n, by omega⟩
      have h2 := rd_one (b := b) (n := 0) (c := f (dg n)) (by simp) (by rw [h1]; simp; omega)
      rw [h1] at h2
      simpa using h2
    · rw [digs_ge hb h, List.map_append]
      have hlt : n / b < n := Nat.div_lt_self (by omega) (by omega)
      have h3 := ih (n / b) hlt (by omega)
      have hm : n % b < b := Nat.mod_lt _ (by omega)
      have h1 := hf ⟨n % b, by omega⟩
      have hq : ((n / b : Nat) : Int) * (b : Int) + ((n % b : Nat) : Int) = (n : Int) := by
        have := Nat.div_add_mod n b
        rw [Nat.mul_comm] at this
        exact_mod_cast this
      have h2 := rd_one (b := b) (n := ((n / b : Nat) : Int)) (c := f (dg (n % b))) (Int.mul_nonneg (Int.natCast_nonneg _) (Int.natCast_nonneg _)) (by rw [h1]; simp only; rw [hq]; omega)
      rw [h1] at h2
      simp only at h2
      rw [hq] at h2
      rw [rd_append _ _ _ _ (by rw [h3]), h3]
      exact h2
theorem all_digs {b : Nat} (hb : 2 ≤ b) (hb' : b ≤ 16) (f : UInt8 → UInt8) (hf : ∀ i : Fin 16, digV ((f (dg i.val)).toNat : Int) = i.val) :
    ∀ n : Nat, allD b ((digs b n).map f) = true := by
  intro n
  induction n using Nat.strongRecOn with
  | _ n ih =>
    by_cases h : n < b
    · rw [digs_lt h]
      have h1 := hf ⟨n, by omega⟩
      simp only at h1
      simp [allD, h1]; omega
    · rw [digs_ge hb h, List.map_append]
      have hlt : n / b < n := Nat.div_lt_self (by omega) (by omega)
      have h3 := ih (n / b) hlt
      have hm : n % b < b := Nat.mod_lt _ (by omega)
      have h1 := hf ⟨n % b, by omega⟩
      simp only at h1
      unfold allD at h3 ⊢
      rw [List.all_append, h3]
      simp [h1]; omega
theorem num_map {b : Nat} (hb : 2 ≤ b) (hb' : b ≤ 16) (f : UInt8 → UInt8) (hf : ∀ i : Fin 16, digV ((f (dg i.val)).toNat : Int) = i.val) (n : Nat) (hn : n < 18446744073709551616) :
    numN b ((digs b n).map f) = n ∧ numE b ((digs b n).map f) = 0 := by
  have h1 := all_digs hb hb' f hf n
  have h2 := rd_digs hb hb' f hf n hn
  have h3 : ¬ ((digs b n).map f = [] ∨ allD b ((digs b n).map f) = false) := by
    rw [h1]
    have := digs_ne b n
    simpa using this
  unfold numN numE
  rw [if_neg h3, if_neg h3, h2]
  exact ⟨rfl, rfl⟩
theorem num_digs {b : Nat} (hb : 2 ≤ b) (hb' : b ≤ 16) (n : Nat) (hn : n < 18446744073709551616) : numN b (digs b n) = n ∧ numE b (digs b n) = 0 := by
  have := num_map hb hb' id (fun i => dg_val i) n hn
  rwa [List.map_id] at this
theorem digs_head {b : Nat} (hb : 2 ≤ b) (hb' : b ≤ 16) : ∀ n : Nat, 1 ≤ n → (digs b n).head? ≠ some 48 := by
  intro n
  induction n using Nat.strongRecOn with
  | _ n ih =>
    intro h1
    by_cases h : n < b
    · rw [digs_lt h]
      have : ∀ i : Fin 16, 1 ≤ i.val → dg i.val ≠ 48 := by decide +kernel
      intro e
      exact this ⟨n, by omega⟩ h1 (by simpa using e)
    · rw [digs_ge hb h]
      have hlt : n / b < n := Nat.div_lt_self (by omega) (by omega)
      have hp : 1 ≤ n / b := (Nat.le_div_iff_mul_le (by omega)).2 (by omega)
      have h3 := ih (n / b) hlt hp
      have h4 := digs_ne b (n / b)
      cases hd : digs b (n / b) with
      | nil => exact absurd hd h4
      | cons c l => rw [hd] at h3; exact h3
theorem par_digs (n : Nat) (hn : n < 18446744073709551616) : parN (digs 10 n) = n ∧ parE (digs 10 n) = 0 := by
  have h := num_digs (b := 10) (by omega) (by omega) n hn
  have h2 : ¬ (1 < (digs 10 n).length ∧ (digs 10 n).head? = some 48) := by
    rintro ⟨h1, h2⟩
    by_cases h0 : 1 ≤ n
    · exact digs_head (b := 10) (by omega) (by omega) n h0 h2
    · rw [digs_lt (by omega)] at h1
      simp at h1
  unfold parN parE
  rw [if_neg h2, if_neg h2]
  exact h
theorem rd_noughts (b : Int) (l : List UInt8) : ∀ k, rd b (List.replicate k 48 ++ l) 0 = rd b l 0
  | 0 => rfl
  | k + 1 => by
    have e1 : mulE 0 b = 0 := by unfold mulE; rw [if_pos (by omega)]
    have e2 : mulN 0 b = 0 := by unfold mulN; rw [if_pos (by omega)]; omega
    have e5 : digV (((48 : UInt8).toNat : Nat) : Int) = 0 := by decide
    have e3 : addE 0 0 = 0 := by decide
    have e4 : addN 0 0 = 0 := by decide
    rw [List.replicate_succ, List.cons_append]
    show (if mulE 0 b ≠ 0 then _ else _) = _
    rw [if_neg (by rw [e1]; decide), e2, e5, if_neg (by rw [e3]; decide), e4]
    exact rd_noughts b l k
theorem num_noughts (l : List UInt8) (k : Nat) (h0 : l ≠ []) (ha : allD 10 l = true) : numN 10 (List.replicate k 48 ++ l) = numN 10 l ∧ numE 10 (List.replicate k 48 ++ l) = numE 10 l := by
  have h1 : allD 10 (List.replicate k 48 ++ l) = true := by
    unfold allD at ha ⊢
    rw [List.all_append, ha, Bool.and_true, List.all_eq_true]
    intro c hc
    have := List.eq_of_mem_replicate hc
    subst this
    decide
  have h2 : ¬ (List.replicate k 48 ++ l = [] ∨ allD 10 (List.replicate k 48 ++ l) = false) := by
    rw [h1]; simp [h0]
  have h3 : ¬ (l = [] ∨ allD 10 l = false) := by rw [ha]; simp [h0]
  unfold numN numE
  rw [if_neg h2, if_neg h2, if_neg h3, if_neg h3, rd_noughts]
  exact ⟨rfl, rfl⟩
theorem digs_noughts (n k : Nat) (hn : n < 18446744073709551616) : numN 10 (List.replicate k 48 ++ digs 10 n) = n ∧ numE 10 (List.replicate k 48 ++ digs 10 n) = 0 := by
  have h := num_noughts (digs 10 n) k (digs_ne 10 n) (by have := all_digs (b := 10) (by omega) (by omega) id (fun i => dg_val i) n; rwa [List.map_id] at this)
  have h2 := num_digs (b := 10) (by omega) (by omega) n hn
  rw [h.1, h.2]
  exact h2
theorem digs_length_le {b : Nat} (hb : 2 ≤ b) : ∀ (k n : Nat), n < b ^ k → 1 ≤ k → (digs b n).length ≤ k
  | 0, n, _, h => absurd h (by omega)
  | k + 1, n, h, _ => by
    by_cases hl : n < b
    · rw [digs_lt hl]; simp
    · rw [digs_ge hb hl, List.length_append]
      have h1 : n / b < b ^ k := by rw [Nat.div_lt_iff_lt_mul (by omega)]; rwa [← Nat.pow_succ]
      have hk : 1 ≤ k := by
        cases k with
        | zero => exact absurd h (by simpa using hl)
        | succ k => omega
      have := digs_length_le hb k (n / b) h1 hk
      simp; omega
end Dp
end Go.Proofs.YtoidopdpnnogaaaDoor
