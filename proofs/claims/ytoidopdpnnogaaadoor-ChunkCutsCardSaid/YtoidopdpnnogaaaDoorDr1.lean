/- The closures by which layer 1 (decimal) reads digits compute the plain functions of the texts Dp and Dq. Bytes are from 0 to 255, the base is ten or sixteen, texts have at most 1000000 bytes. -/
import Derived.Test.YtoidopdpnnogaaaDoorDw1
import Derived.Test.YtoidopdpnnogaaaDoorKit
import Derived.Test.YtoidopdpnnogaaaDoorDq
import Derived.Test.YtoidopdpnnogaaaDoorShelf
import Derived.OneCell
namespace Go.Proofs.YtoidopdpnnogaaaDoor
set_option linter.unusedVariables false
set_option linter.unusedSimpArgs false
open Go.RowKit
set_option maxHeartbeats 400000
theorem strings_indexByte (s : ByteArray) (c : Int) (w : World) :
    Calls Tryd.prog 180 #[.string s, .int .u8 c] w fun e w' => e = .returned (.int .i64 (Lib.indexByte s.data.toList c.toNat.toUInt8)) ∧ w = w' :=
  (Tryd.strings_IndexByte s c w).mono fun _ _ h => ⟨h.1, h.2.symm⟩
theorem val_ten {c : Int} (h0 : 0 ≤ c) (h1 : c < 256) : Lib.indexByte (Dp.known 10) c.toNat.toUInt8 = Dp.valV 10 c := by
  obtain ⟨n, rfl⟩ := Int.eq_ofNat_of_zero_le h0
  exact Dp.index_ten ⟨n, by omega⟩
theorem val_hex_low {c : Int} (h0 : 0 ≤ c) (h1 : c < 256) (h : ¬ (65 ≤ c ∧ c ≤ 70)) : Lib.indexByte (Dp.known 16) c.toNat.toUInt8 = Dp.valV 16 c := by
  obtain ⟨n, rfl⟩ := Int.eq_ofNat_of_zero_le h0
  have := Dp.index_hex ⟨n, by omega⟩
  simp only [show ¬ (65 ≤ n ∧ n ≤ 70) by omega, if_false] at this
  exact this
theorem val_hex_up {c : Int} (h : 65 ≤ c ∧ c ≤ 70) : Lib.indexByte (Dp.known 16) (c + 32).toNat.toUInt8 = Dp.valV 16 c := by
  obtain ⟨n, rfl⟩ := Int.eq_ofNat_of_zero_le (show 0 ≤ c by omega)
  have := Dp.index_hex ⟨n, by omega⟩
  simp only [show (65 ≤ n ∧ n ≤ 70) by omega, and_self, if_true] at this
  exact this
theorem val_any (b : Int) (hb : b = 10 ∨ b = 16) (c : Int) (rb kb : Nat) (w : World) (h0 : 0 ≤ c) (h1 : c < 256) (hr : w.cell? ⟨rb, 1, none⟩ = some (.int .i64 b)) (hk : w.cell? ⟨kb, 0, none⟩ = some (.string ⟨(Dp.known b).toArray⟩)) :
    Calls Tryd.prog 179 #[.int .u8 c, .pointer (some ⟨rb, 0, none⟩), .pointer (some ⟨kb, 0, none⟩)] w fun e w' => e = .returned (.int .i64 (Dp.valV b c)) ∧ w = w' := by
  have H10 : Hid (Lib.indexByte (Dp.known 10) c.toNat.toUInt8 = Dp.valV 10 c) := val_ten h0 h1
  rcases hb with rfl | rfl
  · go_enter Tryd.func179, Tryd.ntmps179
    go_wp2_with fail
    refine (strings_indexByte _ _ _).mono ?_
    rintro e w' ⟨rfl, rfl⟩
    go_wp2
    go_ret
    exact ⟨ret_int H10.out, rfl⟩
  · by_cases h : 65 ≤ c ∧ c ≤ 70
    · have H := Lib.hid (val_hex_up h)
      obtain ⟨h2, h3⟩ := h
      go_enter Tryd.func179, Tryd.ntmps179
      go_wp2_with fail
      refine (strings_indexByte _ _ _).mono ?_
      rintro e w' ⟨rfl, rfl⟩
      go_wp2
      go_ret
      exact ⟨ret_int H.out, rfl⟩
    · have H := Lib.hid (val_hex_low h0 h1 h)
      go_enter Tryd.func179, Tryd.ntmps179
      go_wp2_with fail
      all_goals (try (exfalso; omega))
      all_goals (
        refine (strings_indexByte _ _ _).mono ?_
        rintro e w' ⟨rfl, rfl⟩
        go_wp2
        go_ret
        exact ⟨ret_int H.out, rfl⟩)
theorem is_any (b : Int) (hb : b = 10 ∨ b = 16) (c : Int) (rb kb vb : Nat) (w : World) (h0 : 0 ≤ c) (h1 : c < 256) (hr : w.cell? ⟨rb, 1, none⟩ = some (.int .i64 b)) (hk : w.cell? ⟨kb, 0, none⟩ = some (.string ⟨(Dp.known b).toArray⟩))
    (hv : w.cell? ⟨vb, 0, none⟩ = some (.func (.func 179) #[] #[.pointer (some ⟨rb, 0, none⟩), .pointer (some ⟨kb, 0, none⟩)])) :
    Calls Tryd.prog 182 #[.int .u8 c, .pointer (some ⟨vb, 0, none⟩)] w fun e w' => e = .returned (.bool (decide (Dp.digV c < b))) ∧ w = w' := by
  have K := Lib.hid (val_any b hb c rb kb w h0 h1 hr hk)
  clear hr hk
  go_enter Tryd.func182, Tryd.ntmps182
  go_wp2_with fail
  refine K.out.mono ?_
  rintro e w' ⟨rfl, rfl⟩
  go_wp2
  go_ret
  refine ⟨?_, rfl⟩
  have := Dp.digV_lo c
  congr 2
  unfold Dp.valV
  simp
  split <;> omega
theorem digits_any (b : Int) (hb : b = 10 ∨ b = 16) (s : ByteArray) (rb kb vb : Nat) (w : World) (hs : s.size ≤ 1000000) (hr : w.cell? ⟨rb, 1, none⟩ = some (.int .i64 b)) (hk : w.cell? ⟨kb, 0, none⟩ = some (.string ⟨(Dp.known b).toArray⟩))
    (hv : w.cell? ⟨vb, 0, none⟩ = some (.func (.func 179) #[] #[.pointer (some ⟨rb, 0, none⟩), .pointer (some ⟨kb, 0, none⟩)])) :
    Calls Tryd.prog 181 #[.agg #[.string s], .func (.func 182) #[] #[.pointer (some ⟨vb, 0, none⟩)]] w fun e w' =>
      e = .returned (.bool (!s.data.toList.isEmpty && Dp.allD b s.data.toList)) ∧ w.alloc (.cells #[.string s] 219) = w' := by
  go_enter Tryd.func181, Tryd.ntmps181
  have K := Lib.hid (fun (c : Int) (W : World) (h0 : 0 ≤ c) (h1 : c < 256) (hW : Below w.heap.size w W) => is_any b hb c rb kb vb W h0 h1 (cell_below hW hr) (cell_below hW hk) (cell_below hW hv))
  clear hr hk hv
  go_wp2_with fail
  go_loop [5, 9] (fun _ i => ∃ k : Nat, k ≤ s.size ∧ i = .int .i64 k ∧ Dp.allD b (s.data.toList.take k) = true) (fun _ i => s.size - (intOf i).toNat)
  case atStart => exact ⟨0, Nat.zero_le _, rfl, rfl⟩
  case round =>
    obtain ⟨k, hk, rfl, hall⟩ := hrel
    have HA := Lib.hid hall
    clear hall
    by_cases hlt : k < s.size
    · have hb0 : 0 ≤ ((s[k]).toNat : Int) := by omega
      have hb1 : ((s[k]).toNat : Int) < 256 := by have := (s[k]).toNat_lt; omega
      go_wp2_with fail
      refine (K.out _ _ hb0 hb1 ((Below.refl _ _).alloc (Nat.le_refl _) _)).mono ?_
      rintro e w' ⟨rfl, rfl⟩
      have HT := Lib.hid (take_snoc s k hlt)
      generalize hd : decide (Dp.digV ((s[k]).toNat : Int) < b) = d
      have HD := Lib.hid hd
      clear hd
      cases d
      · go_wp2
        go_ret
        refine ⟨ret_bool ?_, rfl⟩
        have hn := Dp.allD_no (b := b) (l := s.data.toList) (k := k) (by simpa using hlt) (by exact HD.out)
        rw [hn]
        simp
      · go_wp2
        go_round
        case rel => exact ⟨k + 1, by omega, by go_num, by rw [HT.out]; unfold Dp.allD at *; rw [List.all_append, HA.out]; simpa using HD.out⟩
        case measure => simp [intOf]; omega
    · go_wp2
      go_ret
      refine ⟨ret_bool ?_, rfl⟩
      have h1 : s.data.toList.take k = s.data.toList := List.take_of_length_le (by simp; omega)
      have h2 := HA.out
      rw [h1] at h2
      rw [h2]
      simp [ByteArray.toList_eq]
end Go.Proofs.YtoidopdpnnogaaaDoor
