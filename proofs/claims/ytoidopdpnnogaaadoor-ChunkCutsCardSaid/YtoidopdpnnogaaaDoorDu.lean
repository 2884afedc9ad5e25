/- The reference's texts of a number are its digits. -/
import Derived.Test.YtoidopdpnnogaaaDoorDt
import Derived.Test.YtoidopdpnnogaaaDoorKit
namespace Go.Proofs.YtoidopdpnnogaaaDoor
set_option linter.unusedVariables false
set_option linter.unusedSimpArgs false
open Go.RowKit
set_option maxHeartbeats 1000000
theorem hex_slice (r : Nat) (h : r < 16) (w : World) : (Instr.slice 9 (.string ⟨#[48, 49, 50, 51, 52, 53, 54, 55, 56, 57, 97, 98, 99, 100, 101, 102]⟩) (some (.int .u64 (r : Int))) (some (.int .u64 ((r : Int) + 1))) none).run Tryd.prog w = .ok (.string ⟨#[Dp.dg r]⟩) w :=
  match r, h with
  | 0, _ => by kernel_rfl
  | 1, _ => by kernel_rfl
  | 2, _ => by kernel_rfl
  | 3, _ => by kernel_rfl
  | 4, _ => by kernel_rfl
  | 5, _ => by kernel_rfl
  | 6, _ => by kernel_rfl
  | 7, _ => by kernel_rfl
  | 8, _ => by kernel_rfl
  | 9, _ => by kernel_rfl
  | 10, _ => by kernel_rfl
  | 11, _ => by kernel_rfl
  | 12, _ => by kernel_rfl
  | 13, _ => by kernel_rfl
  | 14, _ => by kernel_rfl
  | 15, _ => by kernel_rfl
  | n + 16, h => absurd h (by omega)
theorem cons_bytes (c : UInt8) (l : List UInt8) : ((⟨#[c]⟩ : ByteArray) ++ ⟨l.toArray⟩) = ⟨(c :: l).toArray⟩ := by
  apply ByteArray.ext
  rw [ByteArray.data_append]
  simp
set_option maxRecDepth 100000 in
theorem ref_told10 (u : Nat) (hu : u < 18446744073709551616) (w : World) :
    Calls Tryd.prog 78 #[.int .u64 (u : Int), .int .u64 10] w fun e w' => e = .returned (.string ⟨(Dp.digs 10 u).toArray⟩) ∧ w = w' := by
  have HS := Lib.hid (fun r (h : r < 16) => hex_slice r h w)
  go_enter Tryd.func78, Tryd.ntmps78
  go_wp2_with fail
  go_loop [0, 5] (fun n s => ∃ (m : Nat) (l : List UInt8), n = .int .u64 m ∧ s = .string ⟨l.toArray⟩ ∧ m < 18446744073709551616 ∧ Hid (Dp.digs 10 u = Dp.digs 10 m ++ l)) (fun n _ => (intOf n).toNat)
  case atStart => exact ⟨u, [], rfl, rfl, hu, Lib.hid (by rw [List.append_nil])⟩
  case round =>
    obtain ⟨m, l, rfl, rfl, hm, HD⟩ := hrel
    have hl : l.length ≤ 20 := by
      have h1 := congrArg List.length HD.out
      have h2 := Dp.digs_length_le (b := 10) (by omega) 20 u (by omega) (by omega)
      rw [List.length_append] at h1
      omega
    obtain ⟨r, hr⟩ : ∃ r : Nat, m % 10 = r := ⟨_, rfl⟩
    obtain ⟨q, hq⟩ : ∃ r : Nat, m / 10 = r := ⟨_, rfl⟩
    have er : (m : Int) % 10 = (r : Int) := by rw [← hr]; rfl
    have eq : (m : Int) / 10 = (q : Int) := by rw [← hq]; rfl
    have hr16 : r < 16 := by omega
    have hs := HS.out r hr16
    have HR := Lib.hid hr
    have HQ := Lib.hid hq
    have HQM := Lib.hid (show q ≤ m by rw [← hq]; exact Nat.div_le_self _ _)
    clear hr hq
    obtain ⟨y, hy⟩ : ∃ y : ByteArray, (⟨#[Dp.dg r]⟩ : ByteArray) ++ ⟨l.toArray⟩ = y := ⟨_, rfl⟩
    have HY := Lib.hid hy
    by_cases h0 : q = 0
    · subst h0
      go_wp2
      go_ret
      have h1 := HQ.out
      have h2 := HR.out
      refine ⟨ret_str ?_, rfl⟩
      rw [HD.out, ← HY.out, cons_bytes, Dp.digs_lt (by omega), show m = r by omega]
      rfl
    · go_wp2
      go_round
      case rel =>
        have h1 := HQ.out
        refine ⟨q, Dp.dg r :: l, rfl, by rw [← HY.out, cons_bytes], by have := HQM.out; omega, Lib.hid ?_⟩
        rw [HD.out, Dp.digs_ge (by omega) (by omega), HR.out, HQ.out, List.append_assoc]
        rfl
      case measure => have h1 := HQ.out; simp [intOf]; omega
set_option maxRecDepth 100000 in
theorem ref_told16 (u : Nat) (hu : u < 18446744073709551616) (w : World) :
    Calls Tryd.prog 78 #[.int .u64 (u : Int), .int .u64 16] w fun e w' => e = .returned (.string ⟨(Dp.digs 16 u).toArray⟩) ∧ w = w' := by
  have HS := Lib.hid (fun r (h : r < 16) => hex_slice r h w)
  go_enter Tryd.func78, Tryd.ntmps78
  go_wp2_with fail
  go_loop [0, 5] (fun n s => ∃ (m : Nat) (l : List UInt8), n = .int .u64 m ∧ s = .string ⟨l.toArray⟩ ∧ m < 18446744073709551616 ∧ Hid (Dp.digs 16 u = Dp.digs 16 m ++ l)) (fun n _ => (intOf n).toNat)
  case atStart => exact ⟨u, [], rfl, rfl, hu, Lib.hid (by rw [List.append_nil])⟩
  case round =>
    obtain ⟨m, l, rfl, rfl, hm, HD⟩ := hrel
    have hl : l.length ≤ 20 := by
      have h1 := congrArg List.length HD.out
      have h2 := Dp.digs_length_le (b := 16) (by omega) 16 u (by omega) (by omega)
      rw [List.length_append] at h1
      omega
    obtain ⟨r, hr⟩ : ∃ r : Nat, m % 16 = r := ⟨_, rfl⟩
    obtain ⟨q, hq⟩ : ∃ r : Nat, m / 16 = r := ⟨_, rfl⟩
    have er : (m : Int) % 16 = (r : Int) := by rw [← hr]; rfl
    have eq : (m : Int) / 16 = (q : Int) := by rw [← hq]; rfl
    have hr16 : r < 16 := by omega
    have hs := HS.out r hr16
    have HR := Lib.hid hr
    have HQ := Lib.hid hq
    have HQM := Lib.hid (show q ≤ m by rw [← hq]; exact Nat.div_le_self _ _)
    clear hr hq
    obtain ⟨y, hy⟩ : ∃ y : ByteArray, (⟨#[Dp.dg r]⟩ : ByteArray) ++ ⟨l.toArray⟩ = y := ⟨_, rfl⟩
    have HY := Lib.hid hy
    by_cases h0 : q = 0
    · subst h0
      go_wp2
      go_ret
      have h1 := HQ.out
      have h2 := HR.out
      refine ⟨ret_str ?_, rfl⟩
      rw [HD.out, ← HY.out, cons_bytes, Dp.digs_lt (by omega), show m = r by omega]
      rfl
    · go_wp2
      go_round
      case rel =>
        have h1 := HQ.out
        refine ⟨q, Dp.dg r :: l, rfl, by rw [← HY.out, cons_bytes], by have := HQM.out; omega, Lib.hid ?_⟩
        rw [HD.out, Dp.digs_ge (by omega) (by omega), HR.out, HQ.out, List.append_assoc]
        rfl
      case measure => have h1 := HQ.out; simp [intOf]; omega
theorem ref_text (u : Nat) (hu : u < 18446744073709551616) (w : World) :
    Calls Tryd.prog 45 #[.int .u64 (u : Int)] w fun e w' => e = .returned (.string ⟨(Dp.digs 10 u).toArray⟩) ∧ w = w' := by
  have K := Lib.hid (ref_told10 u hu w)
  clear hu
  go_enter Tryd.func45, Tryd.ntmps45
  go_wp2_with fail
  refine K.out.mono ?_
  rintro e w' ⟨rfl, rfl⟩
  go_wp2
  go_ret
  exact ⟨rfl, rfl⟩
theorem ref_hex (u : Nat) (hu : u < 18446744073709551616) (w : World) :
    Calls Tryd.prog 59 #[.int .u64 (u : Int)] w fun e w' => e = .returned (.string ⟨(Dp.digs 16 u).toArray⟩) ∧ w = w' := by
  have K := Lib.hid (ref_told16 u hu w)
  clear hu
  go_enter Tryd.func59, Tryd.ntmps59
  go_wp2_with fail
  refine K.out.mono ?_
  rintro e w' ⟨rfl, rfl⟩
  go_wp2
  go_ret
  exact ⟨rfl, rfl⟩
end Go.Proofs.YtoidopdpnnogaaaDoor
