/- A beginning of a text of bytes. -/
import Derived.Test.YtoidopdpnnogaaaDoorCkF
import Derived.Test.YtoidopdpnnogaaaDoorCkD
namespace Go.Proofs.YtoidopdpnnogaaaDoor
set_option linter.unusedVariables false
set_option linter.unusedSimpArgs false
open Go.RowKit Go.Shelf
theorem enc_inj {A B : List UInt8} (hA : A.length < 1000) (hB : B.length < 1000) (ha : A ≠ []) (hb : B ≠ []) (t : List UInt8) (h : enc A ++ t = enc B) : A = B := by
  unfold enc at h
  rw [if_neg ha, if_neg hb] at h
  exact Cp.pre_eq hA hB h
theorem enc_pre {A B : List UInt8} (hA : A.length < 1000) (hB : B.length < 1000) (ha : A ≠ []) (hb : B ≠ []) (hne : A ≠ B) : ((({ data := (enc B).toArray } : ByteArray).extract 0 (enc A).length).toList == enc A) = false := by
  cases h : ((({ data := (enc B).toArray } : ByteArray).extract 0 (enc A).length).toList == enc A) with
  | false => rfl
  | true =>
    exfalso
    obtain ⟨n, hn⟩ : ∃ n, (enc A).length = n := ⟨_, rfl⟩
    rw [hn] at h
    have h1 := eq_of_beq h
    have h2 : (({ data := (enc B).toArray } : ByteArray).extract 0 n).toList = (enc B).take n := by
      rw [Lib.toList_data, Lib.extract_eq]
      simp
    rw [h2] at h1
    refine hne (enc_inj hA hB ha hb ((enc B).drop n) ?_)
    rw [← h1]
    exact List.take_append_drop _ _
theorem pie_len {A : List UInt8} {M N k : Nat} (hN : PieN A.length M N) (hM : 1 ≤ M) (hk : k < N) : ((pies M N A).getD k []).length = min M (A.length - k * M) ∧ 0 < min M (A.length - k * M) ∧ (k + 1 < N → min M (A.length - k * M) = M) := by
  have h1 := (hN k).2 hk
  rw [pies_get _ _ _ _ hk, List.length_take, List.length_drop]
  refine ⟨rfl, by omega, fun h => ?_⟩
  have h2 := (hN (k + 1)).2 h
  rw [Nat.add_mul] at h2
  omega
theorem pies_cat {A : List UInt8} {M N : Nat} (hN : PieN A.length M N) : cat (pies M N A) = A := by
  unfold cat pies
  rw [Cp.take_pies]
  have : ¬ N * M < A.length := fun h => absurd ((hN N).1 h) (by omega)
  exact List.take_of_length_le (by omega)
theorem bytes_app (T P : List UInt8) : (({ data := T.toArray } : ByteArray) ++ ({ data := P.toArray } : ByteArray)) = { data := (T ++ P).toArray } := by
  apply ByteArray.ext
  simp
theorem pien_bound {len M N : Nat} (h : PieN len M N) (hM : 1 ≤ M) (hl : len ≤ 300) : N ≤ 400 := by
  by_cases hN : N ≤ 400
  · exact hN
  · have := (h 400).2 (by omega)
    omega
end Go.Proofs.YtoidopdpnnogaaaDoor
