/- Chunks and pieces, plain lists. -/
import Derived.Test.YtoidopdpnnogaaaDoorDt
namespace Go.Proofs.YtoidopdpnnogaaaDoor
set_option linter.unusedVariables false
set_option linter.unusedSimpArgs false
namespace Cp
theorem no13 (n : Nat) : ∀ x ∈ Dp.digs 16 n, x ≠ 13 := by
  have hd : ∀ i : Fin 16, Dp.dg i.val ≠ 13 := by decide +kernel
  induction n using Nat.strongRecOn with
  | _ n ih =>
    intro x h
    by_cases hn : n < 16
    · rw [Dp.digs_lt hn] at h
      obtain rfl := List.mem_singleton.1 h
      exact hd ⟨n, hn⟩
    · rw [Dp.digs_ge (by omega) hn] at h
      rcases List.mem_append.1 h with h | h
      · exact ih (n / 16) (Nat.div_lt_self (by omega) (by omega)) x h
      · obtain rfl := List.mem_singleton.1 h
        exact hd ⟨n % 16, Nat.mod_lt n (by omega)⟩
theorem split13 : ∀ {p q r s : List UInt8}, (∀ x ∈ p, x ≠ 13) → (∀ x ∈ q, x ≠ 13) → p ++ 13 :: r = q ++ 13 :: s → p = q ∧ r = s
  | [], [], r, s, _, _, h => ⟨rfl, by simpa using h⟩
  | [], y :: q, r, s, _, hq, h => by
    simp only [List.nil_append, List.cons_append, List.cons.injEq] at h
    exact absurd h.1.symm (hq y List.mem_cons_self)
  | x :: p, [], r, s, hp, _, h => by
    simp only [List.nil_append, List.cons_append, List.cons.injEq] at h
    exact absurd h.1 (hp x List.mem_cons_self)
  | x :: p, y :: q, r, s, hp, hq, h => by
    simp only [List.cons_append, List.cons.injEq] at h
    obtain ⟨rfl, h⟩ := h
    obtain ⟨rfl, h2⟩ := split13 (fun z hz => hp z (List.mem_cons_of_mem _ hz)) (fun z hz => hq z (List.mem_cons_of_mem _ hz)) h
    exact ⟨rfl, h2⟩
theorem pre_eq {a b t : List UInt8} (ha : a.length < 1000) (hb : b.length < 1000) (h : Dp.digs 16 a.length ++ [13, 10] ++ a ++ [13, 10] ++ t = Dp.digs 16 b.length ++ [13, 10] ++ b ++ [13, 10]) : a = b := by
  have h1 : Dp.digs 16 a.length ++ 13 :: (10 :: (a ++ ([13, 10] ++ t))) = Dp.digs 16 b.length ++ 13 :: (10 :: (b ++ [13, 10])) := by simpa using h
  obtain ⟨h2, h3⟩ := split13 (no13 _) (no13 _) h1
  have h4 := (Dp.num_digs (by decide : 2 ≤ 16) (by decide) a.length (by omega)).1
  rw [h2, (Dp.num_digs (by decide : 2 ≤ 16) (by decide) b.length (by omega)).1] at h4
  have h5 : a.length = b.length := by omega
  simp only [List.cons.injEq, true_and] at h3
  exact (List.append_inj h3 h5).1
theorem take_pies (n : Nat) (l : List UInt8) : ∀ N, ((List.range N).map fun k => (l.drop (k * n)).take n).flatten = l.take (N * n)
  | 0 => by simp
  | N + 1 => by
    rw [List.range_succ, List.map_append, List.flatten_append, take_pies n l N, Nat.add_mul, Nat.one_mul, List.take_add]
    simp
end Cp
end Go.Proofs.YtoidopdpnnogaaaDoor
