/- The bytes of tokens and values, the program's and the reference's, are those of the text Tp. Bytes are from 0 to 255. -/
import Derived.Test.YtlefgkiembokeaaDoorKit
import Derived.Test.YtlefgkiembokeaaDoorTp
import Derived.Shelf.Abstract
namespace Go.Proofs.YtlefgkiembokeaaDoor
set_option linter.unusedVariables false
set_option linter.unusedSimpArgs false
open Go.RowKit Go.Shelf
set_option maxHeartbeats 1000000
theorem tok_sign (c : Int) (w : World) (h0 : 0 ≤ c) (h1 : c < 256) :
    Calls Tryd.prog 122 #[.int .u8 c] w fun e w' => e = .returned (.bool (Tp.signB c)) ∧ Below w.heap.size w w' := by
  go_enter Tryd.func122, Tryd.ntmps122
  go_wp2_with fail
  go_loopw [4] (fun _ wr => ∃ pos : Nat, wr = w.iter Tp.SG pos ∧ pos ≤ 15 ∧ ∀ j, j < pos → Tp.SGx j ≠ c) (fun _ wr => 15 - wr.iterPos w.heap.size)
  case atStart => exact ⟨0, rfl, by omega, fun j hj => absurd hj (by omega)⟩
  case round =>
    obtain ⟨pos, rfl, hp, hno⟩ := hrel
    have HN := Lib.hid hno
    clear hno
    by_cases hlt : pos < 15
    · have hsz : pos < Tp.SG.size := by rw [Tp.SG_size]; exact hlt
      have hnx : ∀ ty, (Instr.next (.pointer (some ⟨w.heap.size, 0, none⟩)) true ty).run Tryd.prog (w.iter Tp.SG pos) = .ok (.tuple #[.bool true, .int .i64 pos, .int .i32 (Tp.SGx pos)]) (w.iter Tp.SG (pos + 1)) := fun ty => by
        rw [run_next_ascii w Tp.SG pos ty hsz (Tp.SG_ascii pos hsz), Tp.SG_at pos hsz]
      clear hsz
      obtain ⟨x, hx⟩ : ∃ x, Tp.SGx pos = x := ⟨_, rfl⟩
      rw [hx] at hnx
      have HX := Lib.hid hx
      clear hx
      by_cases hc : x = c
      · have hc1 : (x == c) = true := beq_iff_eq.2 hc
        have HC := Lib.hid (Tp.signB_yes hlt (HX.out.trans hc))
        clear hc
        go_wp2
        go_ret
        exact ⟨ret_bool HC.out.symm, (Below.refl _ _).alloc (Nat.le_refl _) _⟩
      · have hc1 : (x == c) = false := beq_eq_false_iff_ne.2 hc
        have HC := Lib.hid hc
        clear hc
        go_wp2
        go_roundw
        case rel =>
          refine ⟨pos + 1, rfl, by omega, fun j hj => ?_⟩
          by_cases hjp : j = pos
          · rw [hjp, HX.out]; exact HC.out
          · exact HN.out j (by omega)
        case measure => simp; omega
    · have hsz : ¬ pos < Tp.SG.size := by rw [Tp.SG_size]; exact hlt
      have hnx : ∀ ty, (Instr.next (.pointer (some ⟨w.heap.size, 0, none⟩)) true ty).run Tryd.prog (w.iter Tp.SG pos) = _ := fun ty => run_next_end w Tp.SG pos ty hsz
      go_wp2
      go_ret
      exact ⟨ret_bool (Tp.signB_no (fun j hj => HN.out j (by omega))).symm, (Below.refl _ _).alloc (Nat.le_refl _) _⟩
theorem tok_class0 (c : Int) (w : World) (h0 : 0 ≤ c) (h1 : c < 256) :
    Calls Tryd.prog 121 #[.int .u8 c] w fun e w' => e = .returned (.bool (Tp.tokB c)) ∧ Below w.heap.size w w' := by
  have K := Lib.hid (tok_sign c w h0 h1)
  go_enter Tryd.func121, Tryd.ntmps121
  go_wp2_with (go_at_call 122; refine K.out.mono ?_; rintro e w' ⟨rfl, hb⟩)
  all_goals go_ret
  all_goals refine ⟨ret_bool ?_, by first | exact Below.refl _ _ | assumption⟩
  all_goals (unfold Tp.tokB; generalize Tp.signB c = s; cases s <;> rw [Bool.eq_iff_iff] <;> simp <;> omega)
theorem tok_class1 (c : Int) (w : World) (h0 : 0 ≤ c) (h1 : c < 256) :
    Calls Tryd.prog 123 #[.int .u8 c] w fun e w' => e = .returned (.bool (Tp.valB c)) ∧ w = w' := by
  go_enter Tryd.func123, Tryd.ntmps123
  go_wp2
  all_goals go_ret
  all_goals refine ⟨ret_bool ?_, rfl⟩
  all_goals (unfold Tp.valB; rw [Bool.eq_iff_iff]; simp; omega)
/-- a class of bytes, handed on as a function value -/
def ClsAt (g : Nat) (f : Int → Bool) : Prop := ∀ (c : Int) (w : World), 0 ≤ c → c < 256 → Calls Tryd.prog g #[.int .u8 c] w fun e w' => e = .returned (.bool (f c)) ∧ Below w.heap.size w w'
theorem cls0 : ClsAt 121 Tp.tokB := fun c w h0 h1 => tok_class0 c w h0 h1
theorem cls1 : ClsAt 123 Tp.valB := fun c w h0 h1 => (tok_class1 c w h0 h1).mono fun _ _ h => ⟨h.1, h.2 ▸ Below.refl _ _⟩
theorem tok_all (g : Nat) (f : Int → Bool) (hg : g = 121 ∨ g = 123) (hf : ClsAt g f) (s : ByteArray) (w : World) (hs : s.size ≤ 9223372036854775807) :
    Calls Tryd.prog 91 #[.agg #[.string s], .func (.func g) #[] #[]] w fun e w' => e = .returned (.bool (Tp.allT f s.data.toList)) ∧ Below w.heap.size w w' := by
  have HF := Lib.hid hf
  have en : ∀ args w, (callFunc g args).run Tryd.prog w = .ok (.enter g args) w := by
    rcases hg with rfl | rfl
    · exact enters_of Tryd.func121 (by kernel_rfl) rfl
    · exact enters_of Tryd.func123 (by kernel_rfl) rfl
  clear hf hg
  go_enter Tryd.func91, Tryd.ntmps91
  go_wp2_with fail
  go_loopw [5, 9] (fun _ i wr => ∃ k : Nat, k ≤ s.size ∧ i = .int .i64 k ∧ Tp.allT f (s.data.toList.take k) = true ∧ Below (w.heap.size + 1) (w.alloc (.cells #[.string s] 115)) wr) (fun _ i _ => s.size - (intOf i).toNat)
  case atStart => exact ⟨0, Nat.zero_le _, rfl, rfl, Below.refl _ _⟩
  case round =>
    obtain ⟨k, hk, rfl, hall, hB⟩ := hrel
    have HA := Lib.hid hall
    have HB := Lib.hid hB
    have hc : wr.cell? ⟨w.heap.size, 0, none⟩ = some (.string s) := (hB.cell (p := ⟨w.heap.size, 0, none⟩) (by simp)).trans (by simp)
    clear hall hB
    by_cases hlt : k < s.size
    · have K := Lib.hid (HF.out ((s[k]).toNat : Int) wr (by omega) (by have := (s[k]).toNat_lt; omega))
      have HT := Lib.hid (take_snoc s k hlt)
      go_wp2_with fail
      refine K.out.mono ?_
      rintro e w' ⟨rfl, hb⟩
      have hB2 : Below (w.heap.size + 1) (w.alloc (.cells #[.string s] 115)) w' := HB.out.trans (hb.mono (by have := HB.out.size; simpa using this))
      have hc2 : w'.cell? ⟨w.heap.size, 0, none⟩ = some (.string s) := (hB2.cell (p := ⟨w.heap.size, 0, none⟩) (by simp)).trans (by simp)
      have HB2 := Lib.hid hB2
      clear hb hB2
      obtain ⟨d, hd⟩ : ∃ d, f ((s[k]).toNat : Int) = d := ⟨_, rfl⟩
      rw [hd]
      have HD := Lib.hid hd
      clear hd
      cases d
      · go_wp2
        go_ret
        have hn := Tp.allT_no (f := f) (l := s.data.toList) (k := k) (by simpa using hlt) (by exact HD.out)
        exact ⟨ret_bool hn.symm, ((Below.refl _ _).alloc (Nat.le_refl _) _).trans (HB2.out.mono (by omega))⟩
      · go_wp2
        go_roundw
        case rel => exact ⟨k + 1, by omega, by go_num, by rw [HT.out]; exact Tp.allT_snoc HA.out HD.out, HB2.out⟩
        case measure => simp [intOf]; omega
    · go_wp2
      go_ret
      have h1 : s.data.toList.take k = s.data.toList := List.take_of_length_le (by simp; omega)
      have h2 := HA.out
      rw [h1] at h2
      exact ⟨ret_bool h2.symm, ((Below.refl _ _).alloc (Nat.le_refl _) _).trans (HB.out.mono (by omega))⟩
end Go.Proofs.YtlefgkiembokeaaDoor
