/- Whether a text is a token or a value, and its small letters, the program's and the reference's, are those of the text Tq. Texts have at most 1000000 bytes. -/
import Derived.Test.YtlefgkiembokeaaDoorTw3
namespace Go.Proofs.YtlefgkiembokeaaDoor
set_option linter.unusedVariables false
set_option linter.unusedSimpArgs false
open Go.RowKit Go.Shelf
set_option maxHeartbeats 1000000
theorem tok_classes (w : World) :
    Calls Tryd.prog 92 #[] w fun e w' => e = .returned (.agg #[.func (.func 121) #[] #[], .func (.func 123) #[] #[]]) ∧ Below w.heap.size w w' := by
  go_enter Tryd.func92, Tryd.ntmps92
  go_wp2
  refine bodyPost_ret (v := .agg #[.func (.func 121) #[] #[], .func (.func 123) #[] #[]]) (by simp [results, Tryd.results92, go_sem]) rfl ⟨rfl, (Below.refl _ _).alloc (Nat.le_refl _) _⟩
theorem classes_0 (w : World) : (Instr.index 121 (.agg #[.func (.func 121) #[] #[], .func (.func 123) #[] #[]]) (.int .i64 0)).run Tryd.prog w = .ok (.func (.func 121) #[] #[]) w := by kernel_rfl
theorem classes_1 (w : World) : (Instr.index 121 (.agg #[.func (.func 121) #[] #[], .func (.func 123) #[] #[]]) (.int .i64 1)).run Tryd.prog w = .ok (.func (.func 123) #[] #[]) w := by kernel_rfl
theorem beq_bytes (s : ByteArray) (l : List UInt8) : (((⟨l.toArray⟩ : ByteArray).toList == s.toList)) = (l == s.data.toList) := by
  rw [ByteArray.toList_eq, ByteArray.toList_eq]
theorem tok_token (s : ByteArray) (w : World) (hs : s.size ≤ 9223372036854775807) :
    Calls Tryd.prog 52 #[.string s] w fun e w' => e = .returned (.bool (Tp.isTok s.data.toList)) ∧ Below w.heap.size w w' := by
  have K := Lib.hid (fun W => tok_all 121 Tp.tokB (.inl rfl) cls0 s W hs)
  have i0 := classes_0
  by_cases h0 : s.data.toList.isEmpty = true
  · have HR := Lib.hid (show Tp.isTok s.data.toList = false by unfold Tp.isTok; rw [h0]; rfl)
    have h1 : s.toList.isEmpty = true := by rw [ByteArray.toList_eq]; exact h0
    go_enter Tryd.func52, Tryd.ntmps52
    go_wp2_with fail
    go_ret
    exact ⟨ret_bool HR.out.symm, Below.refl _ _⟩
  · have h0' : s.data.toList.isEmpty = false := by simpa using h0
    have HR := Lib.hid (show Tp.isTok s.data.toList = Tp.allT Tp.tokB s.data.toList by unfold Tp.isTok; rw [h0']; rfl)
    have h1 : s.toList.isEmpty = false := by rw [ByteArray.toList_eq]; exact h0'
    clear h0
    go_enter Tryd.func52, Tryd.ntmps52
    go_wp2_with fail
    refine (tok_classes _).mono ?_
    rintro e w1 ⟨rfl, hb⟩
    go_wp2_with fail
    refine (K.out _).mono ?_
    rintro e w2 ⟨rfl, hb2⟩
    go_wp2
    go_ret
    exact ⟨ret_bool HR.out.symm, hb.trans (hb2.mono hb.size)⟩
theorem tok_value (s : ByteArray) (w : World) (hs : s.size ≤ 9223372036854775807) :
    Calls Tryd.prog 54 #[.string s] w fun e w' => e = .returned (.bool (Tp.isVal s.data.toList)) ∧ Below w.heap.size w w' := by
  have K := Lib.hid (fun W => tok_all 123 Tp.valB (.inr rfl) cls1 s W hs)
  have T := Lib.hid (fun W => tok_trim s W hs)
  have i1 := classes_1
  go_enter Tryd.func54, Tryd.ntmps54
  go_wp2_with fail
  refine (T.out _).mono ?_
  rintro e w1 ⟨rfl, hb⟩
  obtain ⟨t, ht⟩ : ∃ t : ByteArray, (⟨(Tp.trim s.data.toList).toArray⟩ : ByteArray) = t := ⟨_, rfl⟩
  rw [ht]
  have hq : (t.toList == s.toList) = (Tp.trim s.data.toList == s.data.toList) := by rw [← ht]; exact beq_bytes s _
  obtain ⟨d, hd⟩ : ∃ d, (Tp.trim s.data.toList == s.data.toList) = d := ⟨_, rfl⟩
  have HD := Lib.hid hd
  rw [hd] at hq
  clear hd ht
  cases d
  · go_wp2_with fail
    go_ret
    exact ⟨ret_bool (by unfold Tp.isVal; rw [HD.out]; rfl), hb⟩
  · go_wp2_with fail
    refine (tok_classes _).mono ?_
    rintro e w2 ⟨rfl, hb2⟩
    go_wp2_with fail
    refine (K.out _).mono ?_
    rintro e w3 ⟨rfl, hb3⟩
    go_wp2
    go_ret
    exact ⟨ret_bool (by unfold Tp.isVal; rw [HD.out]; rfl), hb.trans ((hb2.mono hb.size).trans (hb3.mono (hb.trans (hb2.mono hb.size)).size))⟩
end Go.Proofs.YtlefgkiembokeaaDoor
