/- The reference's bytes of tokens and values, and its trimming, are those of the texts Tp and Tq. Texts have a length that Go knows. -/
import Derived.Test.YtlefgkiembokeaaDoorTw1
import Derived.Test.YtlefgkiembokeaaDoorTq
import Derived.Lib.IndexBytes
namespace Go.Proofs.YtlefgkiembokeaaDoor
set_option linter.unusedVariables false
set_option linter.unusedSimpArgs false
open Go.RowKit Go.Shelf
set_option maxHeartbeats 1000000
theorem isEmpty_size (s : ByteArray) : s.data.toList.isEmpty = decide (s.size = 0) := by
  by_cases h : s.size = 0
  · rw [decide_eq_true h]; exact List.isEmpty_iff_length_eq_zero.2 (by simpa using h)
  · rw [decide_eq_false h]
    cases he : s.data.toList.isEmpty with
    | false => rfl
    | true => exact absurd (by simpa using List.isEmpty_iff_length_eq_zero.1 he) h
theorem rtk_blank (c : Int) (w : World) (h0 : 0 ≤ c) (h1 : c < 256) :
    Calls Tryd.prog 99 #[.int .u8 c] w fun e w' => e = .returned (.bool (Tp.blank c)) ∧ w = w' := by
  go_enter Tryd.func99, Tryd.ntmps99
  go_wp2
  all_goals go_ret
  all_goals refine ⟨ret_bool ?_, rfl⟩
  all_goals (unfold Tp.blank; rw [Bool.eq_iff_iff]; simp; try omega)
theorem rtk_byteOf (c : Int) (w : World) (h0 : 0 ≤ c) (h1 : c < 256) :
    Calls Tryd.prog 96 #[.int .u8 c] w fun e w' => e = .returned (.bool (Tp.valB c)) ∧ w = w' := by
  go_enter Tryd.func96, Tryd.ntmps96
  go_wp2
  all_goals go_ret
  all_goals refine ⟨ret_bool ?_, rfl⟩
  all_goals (unfold Tp.valB; rw [Bool.eq_iff_iff]; simp; try omega)
theorem sg_index (k : Nat) (h : k < 15) (w : World) : (Instr.index 9 (.string ⟨#[33, 35, 36, 37, 38, 39, 42, 43, 45, 46, 94, 95, 96, 124, 126]⟩) (.int .i64 (k : Int))).run Tryd.prog w = .ok (.int .u8 (Tp.SGx k)) w :=
  match k, h with
  | 0, _ => by kernel_rfl
  | 1, _ => by kernel_rfl
  | 2, _ => by kernel_rfl
  | 3, _ => by kernel_rfl
  | 4, _ => by kernel_rfl
  | 5, _ => by kernel_rfl
  | 6, _ => by kernel_rfl
  | 7, _ => by kernel_rfl
  | 8, _ => by kernel_rfl
  | 9, _ => by kernel_rfl
  | 10, _ => by kernel_rfl
  | 11, _ => by kernel_rfl
  | 12, _ => by kernel_rfl
  | 13, _ => by kernel_rfl
  | 14, _ => by kernel_rfl
  | n + 15, h => absurd h (by omega)
theorem rtk_sign (c : Int) (w : World) (h0 : 0 ≤ c) (h1 : c < 256) :
    Calls Tryd.prog 97 #[.int .u8 c] w fun e w' => e = .returned (.bool (Tp.tokB c)) ∧ w = w' := by
  by_cases hl : (97 ≤ c ∧ c ≤ 122) ∨ (65 ≤ c ∧ c ≤ 90) ∨ (48 ≤ c ∧ c ≤ 57)
  · have HT := Lib.hid (show Tp.tokB c = true by unfold Tp.tokB; simp; omega)
    rcases hl with ⟨h2, h3⟩ | ⟨h2, h3⟩ | ⟨h2, h3⟩
    all_goals
      go_enter Tryd.func97, Tryd.ntmps97
      go_wp2
      go_ret
      exact ⟨ret_bool HT.out.symm, rfl⟩
  · have HT := Lib.hid (show Tp.tokB c = Tp.signB c by unfold Tp.tokB; rw [Bool.eq_iff_iff]; simp; omega)
    have h2 : ¬ (97 ≤ c ∧ c ≤ 122) := fun h => hl (.inl h)
    have h3 : ¬ (65 ≤ c ∧ c ≤ 90) := fun h => hl (.inr (.inl h))
    have h4 : ¬ (48 ≤ c ∧ c ≤ 57) := fun h => hl (.inr (.inr h))
    clear hl
    go_enter Tryd.func97, Tryd.ntmps97
    go_wp2_with fail
    all_goals (try (exfalso; omega))
    all_goals
      go_loop [4] (fun i => ∃ k : Nat, k ≤ 15 ∧ i = .int .i64 k ∧ ∀ j, j < k → Tp.SGx j ≠ c) (fun i => 15 - (intOf i).toNat)
      case atStart => exact ⟨0, by omega, rfl, fun j hj => absurd hj (by omega)⟩
      case round =>
        obtain ⟨k, hk, rfl, hno⟩ := hrel
        have HN := Lib.hid hno
        clear hno
        by_cases hlt : k < 15
        · have hix := sg_index k hlt
          obtain ⟨x, hx⟩ : ∃ x, Tp.SGx k = x := ⟨_, rfl⟩
          rw [hx] at hix
          have HX := Lib.hid hx
          clear hx
          by_cases hc : x = c
          · have hc1 : (x == c) = true := beq_iff_eq.2 hc
            have HC := Lib.hid (Tp.signB_yes hlt (HX.out.trans hc))
            clear hc
            go_wp2_with (simp only [hix])
            go_ret
            exact ⟨ret_bool (by rw [HT.out, HC.out]), rfl⟩
          · have hc1 : (x == c) = false := beq_eq_false_iff_ne.2 hc
            have HC := Lib.hid hc
            clear hc
            go_wp2_with (simp only [hix])
            go_round
            case rel =>
              refine ⟨k + 1, by omega, by go_num, fun j hj => ?_⟩
              by_cases hjp : j = k
              · rw [hjp, HX.out]; exact HC.out
              · exact HN.out j (by omega)
            case measure => simp [intOf]; omega
        · go_wp2
          go_ret
          exact ⟨ret_bool (by rw [HT.out]; exact (Tp.signB_no (fun j hj => HN.out j (by omega))).symm), rfl⟩
theorem rtk_token (s : ByteArray) (w : World) (hs : s.size ≤ 9223372036854775807) :
    Calls Tryd.prog 53 #[.string s] w fun e w' => e = .returned (.bool (Tp.isTok s.data.toList)) ∧ w = w' := by
  go_enter Tryd.func53, Tryd.ntmps53
  go_wp2_with fail
  go_loop [3] (fun i => ∃ k : Nat, k ≤ s.size ∧ i = .int .i64 k ∧ Tp.allT Tp.tokB (s.data.toList.take k) = true) (fun i => s.size - (intOf i).toNat)
  case atStart => exact ⟨0, Nat.zero_le _, rfl, rfl⟩
  case round =>
    obtain ⟨k, hk, rfl, hall⟩ := hrel
    have HA := Lib.hid hall
    clear hall
    by_cases hlt : k < s.size
    · have D := Lib.hid (rtk_sign ((s[k]).toNat : Int) w (by omega) (by have := (s[k]).toNat_lt; omega))
      have HT := Lib.hid (take_snoc s k hlt)
      go_wp2_with fail
      refine D.out.mono ?_
      rintro e w' ⟨rfl, rfl⟩
      obtain ⟨v, hv⟩ : ∃ v, Tp.tokB ((s[k]).toNat : Int) = v := ⟨_, rfl⟩
      rw [hv]
      have HV := Lib.hid hv
      clear hv
      cases v
      · go_wp2
        go_ret
        have hn := Tp.allT_no (f := Tp.tokB) (l := s.data.toList) (k := k) (by simpa using hlt) (by exact HV.out)
        exact ⟨ret_bool (by unfold Tp.isTok; rw [hn]; simp), rfl⟩
      · go_wp2
        go_round
        case rel => exact ⟨k + 1, by omega, by go_num, by rw [HT.out]; exact Tp.allT_snoc HA.out HV.out⟩
        case measure => simp [intOf]; omega
    · have h1 : s.data.toList.take k = s.data.toList := List.take_of_length_le (by simp; omega)
      have h2 := HA.out
      rw [h1] at h2
      have HAA := Lib.hid h2
      clear h2 h1
      go_wp2
      go_ret
      refine ⟨ret_bool ?_, rfl⟩
      unfold Tp.isTok
      rw [HAA.out, Bool.and_true, isEmpty_size]
      show decide ((0 : Nat) < s.size) = _
      by_cases h : s.size = 0
      · rw [decide_eq_true h, decide_eq_false (by omega)]; rfl
      · rw [decide_eq_false h, decide_eq_true (by omega)]; rfl
end Go.Proofs.YtlefgkiembokeaaDoor
