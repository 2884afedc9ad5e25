/- A text of digits, read to the base of ten or sixteen as layer 1 (decimal) does, is the number that the text Dq defines. Texts have at most 1000000 bytes. -/
import Derived.Test.YtoidopdpnnogaaaDoorDr2
import Derived.Lib.ConvBytes
namespace Go.Proofs.YtoidopdpnnogaaaDoor
set_option linter.unusedVariables false
set_option linter.unusedSimpArgs false
open Go.RowKit
set_option maxHeartbeats 1000000
set_option maxRecDepth 100000 in
theorem num_bad {b : Int} {l : List UInt8} (h : (!l.isEmpty && Dp.allD b l) = false) : Dp.numN b l = 0 ∧ Dp.numE b l = 110 := by
  have : l = [] ∨ Dp.allD b l = false := by
    rw [Bool.and_eq_false_iff] at h
    rcases h with h | h
    · exact .inl (by simpa using h)
    · exact .inr h
  exact ⟨if_pos this, if_pos this⟩
theorem num_good {b : Int} {l : List UInt8} (h : (!l.isEmpty && Dp.allD b l) = true) : Dp.numN b l = (Dp.rd b l 0).1 ∧ Dp.numE b l = (Dp.rd b l 0).2 ∧ Dp.allD b l = true := by
  rw [Bool.and_eq_true] at h
  have : ¬ (l = [] ∨ Dp.allD b l = false) := by
    rintro (h' | h')
    · subst h'; simp at h
    · rw [h'] at h; simp at h
  exact ⟨if_neg this, if_neg this, h.2⟩
set_option maxRecDepth 100000 in
theorem number_any (b : Int) (hb : b = 10 ∨ b = 16) (s : ByteArray) (w : World) (hs : s.size ≤ 1000000) :
    Calls Tryd.prog 160 #[.agg #[.string s, .int .i64 b]] w fun e w' =>
      e = .returned (.tuple #[.int .u64 (Dp.numN b s.data.toList), .int .i64 (Dp.numE b s.data.toList)]) ∧ Below w.heap.size w w' := by
  rcases hb with rfl | rfl
  · go_enter Tryd.func160, Tryd.ntmps160
    have hcv := fun (W : World) (s : ByteArray) => Lib.run_convert_string_bytes (P := Tryd.prog) W 9 22 5 s Tryd.underlying9 Tryd.underlying22 Tryd.underlying5
    go_wp2_with fail
    refine wp_scope_fwd 0 rfl ?_
    go_wp2_with fail
    refine (digits_any 10 (.inl rfl) s w.heap.size (w.heap.size + 1) (w.heap.size + 2) _ hs ?_ ?_ ?_).mono ?_
    · go_simp
    · go_simp
      rfl
    · go_simp
    rintro e w' ⟨rfl, rfl⟩
    obtain ⟨d, hd⟩ : ∃ d, (!s.data.toList.isEmpty && Dp.allD 10 s.data.toList) = d := ⟨_, rfl⟩
    rw [hd]
    have HD := Lib.hid hd
    clear hd
    cases d
    · go_wp2_with fail
      go_step3
      simp only [Exit.then]
      refine onGoto_goto ?_
      go_wp2
      rw [Exit.noGoto_ret]
      go_ret2
      obtain ⟨h1, h2⟩ := num_bad HD.out
      refine ⟨ret_pair h1.symm h2.symm, ?_⟩
      exact ((((Below.refl _ _).alloc (Nat.le_refl _) _).alloc (by simp) _).alloc (by simp; omega) _).alloc (by simp; omega) _
    · go_wp2_with fail
      obtain ⟨h1, h2, h3⟩ := num_good HD.out
      have H1 := Lib.hid h1
      have H2 := Lib.hid h2
      clear h1 h2
      refine (folded_at 10 (.inl rfl) s.data.toList _ _ _ w.heap.size (w.heap.size + 1) (w.heap.size + 2) _ rfl (by simpa using hs) h3 ?_ ?_).mono ?_
      · refine ⟨?_, ?_, ?_⟩
        · rw [Lib.bytesWorld_old _ _ _ _ (by simp <;> omega)]
          go_simp
        · rw [Lib.bytesWorld_old _ _ _ _ (by simp <;> omega)]
          go_simp
          rfl
        · rw [Lib.bytesWorld_old _ _ _ _ (by simp <;> omega)]
          go_simp
      · exact bytes_bytesWorld_at _ _ s _ (by simp)
      rintro e w' ⟨rfl, rfl⟩
      have R := Lib.hid (Dp.rd_err 10 s.data.toList 0)
      obtain ⟨r1, hr1⟩ : ∃ r, (Dp.rd 10 s.data.toList 0).1 = r := ⟨_, rfl⟩
      obtain ⟨r2, hr2⟩ : ∃ r, (Dp.rd 10 s.data.toList 0).2 = r := ⟨_, rfl⟩
      rw [hr1, hr2]
      have HR1 := Lib.hid hr1
      have HR2 := Lib.hid hr2
      clear hr1 hr2 h3 hcv
      by_cases hz : r2 = 0
      · subst hz
        go_wp2
        rw [onGoto_ret]
        go_ret2
        refine ⟨ret_pair (by rw [H1.out, HR1.out]) (by rw [H2.out, HR2.out]), ?_⟩
        exact (((((Below.refl _ _).alloc (Nat.le_refl _) _).alloc (by simp) _).alloc (by simp; omega) _).alloc (by simp; omega) _).trans (below_bytesWorld _ _ _ _ (by simp; omega))
      · have hz1 : (r2 != 0) = true := bne_iff_ne.2 hz
        have HZ := Lib.hid hz
        clear hz
        go_wp2_with fail
        go_step3
        simp only [Exit.then]
        refine onGoto_goto ?_
        go_wp2
        rw [Exit.noGoto_ret]
        go_ret2
        refine ⟨ret_pair ?_ (by rw [H2.out, HR2.out]), ?_⟩
        · rw [H1.out]
          rcases R.out with h | h
          · exact absurd (HR2.out.symm.trans h) HZ.out
          · exact h.1.symm
        exact (((((Below.refl _ _).alloc (Nat.le_refl _) _).alloc (by simp) _).alloc (by simp; omega) _).alloc (by simp; omega) _).trans (below_bytesWorld _ _ _ _ (by simp; omega))
  · go_enter Tryd.func160, Tryd.ntmps160
    have hcv := fun (W : World) (s : ByteArray) => Lib.run_convert_string_bytes (P := Tryd.prog) W 9 22 5 s Tryd.underlying9 Tryd.underlying22 Tryd.underlying5
    go_wp2_with fail
    refine wp_scope_fwd 0 rfl ?_
    go_wp2_with fail
    refine (digits_any 16 (.inr rfl) s w.heap.size (w.heap.size + 1) (w.heap.size + 2) _ hs ?_ ?_ ?_).mono ?_
    · go_simp
    · go_simp
      rfl
    · go_simp
    rintro e w' ⟨rfl, rfl⟩
    obtain ⟨d, hd⟩ : ∃ d, (!s.data.toList.isEmpty && Dp.allD 16 s.data.toList) = d := ⟨_, rfl⟩
    rw [hd]
    have HD := Lib.hid hd
    clear hd
    cases d
    · go_wp2_with fail
      go_step3
      simp only [Exit.then]
      refine onGoto_goto ?_
      go_wp2
      rw [Exit.noGoto_ret]
      go_ret2
      obtain ⟨h1, h2⟩ := num_bad HD.out
      refine ⟨ret_pair h1.symm h2.symm, ?_⟩
      exact ((((Below.refl _ _).alloc (Nat.le_refl _) _).alloc (by simp) _).alloc (by simp; omega) _).alloc (by simp; omega) _
    · go_wp2_with fail
      obtain ⟨h1, h2, h3⟩ := num_good HD.out
      have H1 := Lib.hid h1
      have H2 := Lib.hid h2
      clear h1 h2
      refine (folded_at 16 (.inr rfl) s.data.toList _ _ _ w.heap.size (w.heap.size + 1) (w.heap.size + 2) _ rfl (by simpa using hs) h3 ?_ ?_).mono ?_
      · refine ⟨?_, ?_, ?_⟩
        · rw [Lib.bytesWorld_old _ _ _ _ (by simp <;> omega)]
          go_simp
        · rw [Lib.bytesWorld_old _ _ _ _ (by simp <;> omega)]
          go_simp
          rfl
        · rw [Lib.bytesWorld_old _ _ _ _ (by simp <;> omega)]
          go_simp
      · exact bytes_bytesWorld_at _ _ s _ (by simp)
      rintro e w' ⟨rfl, rfl⟩
      have R := Lib.hid (Dp.rd_err 16 s.data.toList 0)
      obtain ⟨r1, hr1⟩ : ∃ r, (Dp.rd 16 s.data.toList 0).1 = r := ⟨_, rfl⟩
      obtain ⟨r2, hr2⟩ : ∃ r, (Dp.rd 16 s.data.toList 0).2 = r := ⟨_, rfl⟩
      rw [hr1, hr2]
      have HR1 := Lib.hid hr1
      have HR2 := Lib.hid hr2
      clear hr1 hr2 h3 hcv
      by_cases hz : r2 = 0
      · subst hz
        go_wp2
        rw [onGoto_ret]
        go_ret2
        refine ⟨ret_pair (by rw [H1.out, HR1.out]) (by rw [H2.out, HR2.out]), ?_⟩
        exact (((((Below.refl _ _).alloc (Nat.le_refl _) _).alloc (by simp) _).alloc (by simp; omega) _).alloc (by simp; omega) _).trans (below_bytesWorld _ _ _ _ (by simp; omega))
      · have hz1 : (r2 != 0) = true := bne_iff_ne.2 hz
        have HZ := Lib.hid hz
        clear hz
        go_wp2_with fail
        go_step3
        simp only [Exit.then]
        refine onGoto_goto ?_
        go_wp2
        rw [Exit.noGoto_ret]
        go_ret2
        refine ⟨ret_pair ?_ (by rw [H2.out, HR2.out]), ?_⟩
        · rw [H1.out]
          rcases R.out with h | h
          · exact absurd (HR2.out.symm.trans h) HZ.out
          · exact h.1.symm
        exact (((((Below.refl _ _).alloc (Nat.le_refl _) _).alloc (by simp) _).alloc (by simp; omega) _).alloc (by simp; omega) _).trans (below_bytesWorld _ _ _ _ (by simp; omega))
end Go.Proofs.YtoidopdpnnogaaaDoor
