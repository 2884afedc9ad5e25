/- What layer 1 (decimal) and its reference tell of a text's number is what the text Dq defines. Texts have at most 1000000 bytes. -/
import Derived.Test.YtoidopdpnnogaaaDoorDr3
namespace Go.Proofs.YtoidopdpnnogaaaDoor
set_option linter.unusedVariables false
set_option linter.unusedSimpArgs false
open Go.RowKit
set_option maxHeartbeats 1000000
theorem bases_0 (w : World) : (Instr.index 163 (.agg #[.int .i64 10, .int .i64 16]) (.int .i64 0)).run Tryd.prog w = .ok (.int .i64 10) w := by kernel_rfl
theorem bases_1 (w : World) : (Instr.index 163 (.agg #[.int .i64 10, .int .i64 16]) (.int .i64 1)).run Tryd.prog w = .ok (.int .i64 16) w := by kernel_rfl
theorem dec_bases (w : World) :
    Calls Tryd.prog 103 #[] w fun e w' => e = .returned (.agg #[.int .i64 10, .int .i64 16]) ∧ Below w.heap.size w w' := by
  go_enter Tryd.func103, Tryd.ntmps103
  go_wp2
  refine bodyPost_ret (v := .agg #[.int .i64 10, .int .i64 16]) (by simp [results, Tryd.results103, go_sem]) rfl ⟨rfl, (Below.refl _ _).alloc (Nat.le_refl _) _⟩
set_option maxRecDepth 100000 in
theorem dec_hexDigits (s : ByteArray) (w : World) (hs : s.size ≤ 1000000) :
    Calls Tryd.prog 132 #[.string s] w fun e w' => e = .returned (.tuple #[.int .u64 (Dp.numN 16 s.data.toList), .int .i64 (Dp.numE 16 s.data.toList)]) ∧ Below w.heap.size w w' := by
  have i0 := bases_1
  go_enter Tryd.func132, Tryd.ntmps132
  go_wp2_with fail
  refine (dec_bases _).mono ?_
  rintro e w1 ⟨rfl, hb⟩
  go_wp2_with fail
  refine (number_any 16 (.inr rfl) s _ hs).mono ?_
  clear hs
  rintro e w2 ⟨rfl, hb2⟩
  go_wp2
  go_ret2
  exact ⟨rfl, hb.trans (hb2.mono hb.size)⟩
theorem par_yes {l : List UInt8} (h : 1 < l.length) (h0 : l.getD 0 0 = 48) : Dp.parN l = 0 ∧ Dp.parE l = 110 := by
  have : 1 < l.length ∧ l.head? = some 48 := ⟨h, by cases l with
    | nil => simp at h
    | cons a l => simpa using h0⟩
  exact ⟨if_pos this, if_pos this⟩
theorem par_no {l : List UInt8} (h : 1 < l.length → l.getD 0 0 ≠ 48) : Dp.parN l = Dp.numN 10 l ∧ Dp.parE l = Dp.numE 10 l := by
  have : ¬ (1 < l.length ∧ l.head? = some 48) := by
    rintro ⟨h1, h2⟩
    refine h h1 ?_
    cases l with
    | nil => simp at h1
    | cons a l => simpa using h2
  exact ⟨if_neg this, if_neg this⟩
theorem head_is {s : ByteArray} (h : 0 < s.size) (h0 : (((s[0]'h).toNat : Int) == 48) = true) : s.data.toList.getD 0 0 = 48 := by
  have e : s.data.toList.getD 0 0 = s[0]'h := by
    rw [List.getD_eq_getElem?_getD, List.getElem?_eq_getElem (by simpa using h)]; rfl
  rw [e]
  have := beq_iff_eq.1 h0
  exact UInt8.toNat_inj.1 (by simpa using (by omega : (s[0]'h).toNat = 48))
theorem head_isnt {s : ByteArray} (h : 0 < s.size) (h0 : (((s[0]'h).toNat : Int) == 48) = false) : s.data.toList.getD 0 0 ≠ 48 := by
  have e : s.data.toList.getD 0 0 = s[0]'h := by
    rw [List.getD_eq_getElem?_getD, List.getElem?_eq_getElem (by simpa using h)]; rfl
  rw [e]
  intro hc
  rw [hc] at h0
  simp at h0
theorem num_is {b : Int} {l : List UInt8} (h0 : l ≠ []) (ha : Dp.allD b l = true) : Dp.numN b l = (Dp.rd b l 0).1 ∧ Dp.numE b l = (Dp.rd b l 0).2 := by
  have : ¬ (l = [] ∨ Dp.allD b l = false) := by
    rintro (h' | h')
    · exact h0 h'
    · rw [h'] at ha; exact absurd ha (by decide)
  exact ⟨if_neg this, if_neg this⟩
theorem num_111 {b : Int} {l : List UInt8} (h0 : l ≠ []) (ha : Dp.allD b l = true) (h : Dp.rd b l 0 = (0, 111)) :
    Ending.returned (.tuple #[.int .u64 0, .int .i64 111]) = Ending.returned (.tuple #[.int .u64 (Dp.numN b l), .int .i64 (Dp.numE b l)]) := by
  obtain ⟨h1, h2⟩ := num_is h0 ha
  rw [h1, h2, h]
theorem num_err {b : Int} {l : List UInt8} : Dp.numE b l = 110 → Dp.numN b l = 0 := by
  intro h
  by_cases hc : l = [] ∨ Dp.allD b l = false
  · exact if_pos hc
  · unfold Dp.numE at h
    rw [if_neg hc] at h
    rcases Dp.rd_err b l 0 with h' | h'
    · rw [h'] at h; exact absurd h (by decide)
    · rw [h'.2] at h; exact absurd h (by decide)
end Go.Proofs.YtoidopdpnnogaaaDoor
