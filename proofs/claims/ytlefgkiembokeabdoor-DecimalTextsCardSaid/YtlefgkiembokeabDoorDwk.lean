/- The rows of chapter 1 (decimal) hold: 'works' is true. The two tables of the library read as they are laid. -/
import Derived.Test.YtlefgkiembokeabDoorDr6
namespace Go.Proofs.YtlefgkiembokeabDoor
set_option linter.unusedVariables false
set_option linter.unusedSimpArgs false
open Go.RowKit
set_option maxHeartbeats 1000000
theorem c_add (w : World) : Calls Tryd.prog 15 #[.int .u64 18446744073709551615, .int .u64 1] w fun e w' => e = .returned (.tuple #[.int .u64 0, .int .i64 111]) ∧ w = w' := by
  have h := dec_add 18446744073709551615 1 w (by unfold Dp.U; omega) (by unfold Dp.U; omega)
  rw [show Dp.addN 18446744073709551615 1 = 0 by decide +kernel, show Dp.addE 18446744073709551615 1 = 111 by decide +kernel] at h
  exact h
theorem c_sub (w : World) : Calls Tryd.prog 16 #[.int .u64 1, .int .u64 2] w fun e w' => e = .returned (.tuple #[.int .u64 0, .int .i64 112]) ∧ w = w' := by
  have h := dec_sub 1 2 w (by unfold Dp.U; omega) (by unfold Dp.U; omega)
  rw [show Dp.subN 1 2 = 0 by decide +kernel, show Dp.subE 1 2 = 112 by decide +kernel] at h
  exact h
theorem c_mul (w : World) : Calls Tryd.prog 17 #[.int .u64 4294967296, .int .u64 4294967296] w fun e w' => e = .returned (.tuple #[.int .u64 0, .int .i64 111]) ∧ w = w' := by
  have h := dec_mul 4294967296 4294967296 w (by unfold Dp.U; omega) (by unfold Dp.U; omega)
  rw [show Dp.mulN 4294967296 4294967296 = 0 by decide +kernel, show Dp.mulE 4294967296 4294967296 = 111 by decide +kernel] at h
  exact h
theorem c_next9 (w : World) : Calls Tryd.prog 18 #[.int .u64 9, .int .u64 10] w fun e w' => e = .returned (.tuple #[.int .u64 10, .int .i64 0]) ∧ w = w' := by
  have h := dec_next 9 10 w (by unfold Dp.U; omega) (by unfold Dp.U; omega)
  rw [show Dp.nextN 9 10 = 10 by decide +kernel, show Dp.nextE 9 10 = 0 by decide +kernel] at h
  exact h
theorem c_next10 (w : World) : Calls Tryd.prog 18 #[.int .u64 10, .int .u64 10] w fun e w' => e = .returned (.tuple #[.int .u64 0, .int .i64 111]) ∧ w = w' := by
  have h := dec_next 10 10 w (by unfold Dp.U; omega) (by unfold Dp.U; omega)
  rw [show Dp.nextN 10 10 = 0 by decide +kernel, show Dp.nextE 10 10 = 111 by decide +kernel] at h
  exact h
theorem c_clamp1 (w : World) : Calls Tryd.prog 19 #[.int .u64 5, .int .u64 7, .int .u64 9] w fun e w' => e = .returned (.tuple #[.int .u64 7, .int .i64 0]) ∧ w = w' := by
  have h := dec_clamp 5 7 9 w
  rw [show Dp.clampN 5 7 9 = 7 by decide +kernel, show Dp.clampE 7 9 = 0 by decide +kernel] at h
  exact h
theorem c_clamp2 (w : World) : Calls Tryd.prog 19 #[.int .u64 5, .int .u64 9, .int .u64 7] w fun e w' => e = .returned (.tuple #[.int .u64 0, .int .i64 2]) ∧ w = w' := by
  have h := dec_clamp 5 9 7 w
  rw [show Dp.clampN 5 9 7 = 0 by decide +kernel, show Dp.clampE 9 7 = 2 by decide +kernel] at h
  exact h
theorem c_parse (s : ByteArray) (n e : Int) (w : World) (hs : s.size ≤ 1000000) (hn : Dp.parN s.data.toList = n) (he : Dp.parE s.data.toList = e) :
    Calls Tryd.prog 7 #[.string s] w fun e' w' => e' = .returned (.tuple #[.int .u64 n, .int .i64 e]) ∧ Below w.heap.size w w' := by
  subst hn he; exact dec_parse s w hs
theorem c_digits (s : ByteArray) (n e : Int) (w : World) (hs : s.size ≤ 1000000) (hn : Dp.numN 10 s.data.toList = n) (he : Dp.numE 10 s.data.toList = e) :
    Calls Tryd.prog 9 #[.string s] w fun e' w' => e' = .returned (.tuple #[.int .u64 n, .int .i64 e]) ∧ Below w.heap.size w w' := by
  subst hn he; exact dec_digits s w hs
theorem c_hexDigits (s : ByteArray) (n e : Int) (w : World) (hs : s.size ≤ 1000000) (hn : Dp.numN 16 s.data.toList = n) (he : Dp.numE 16 s.data.toList = e) :
    Calls Tryd.prog 8 #[.string s] w fun e' w' => e' = .returned (.tuple #[.int .u64 n, .int .i64 e]) ∧ Below w.heap.size w w' := by
  subst hn he; exact dec_hexDigits s w hs
theorem c_hex (w : World) (ht : Tabs w) : Calls Tryd.prog 6 #[.int .u64 431] w fun e w' => e = .returned (.string ⟨#[49, 97, 102]⟩) ∧ Below w.heap.size w w' := by
  have h := dec_hex 431 w (by omega) ht
  rw [show (Dp.digs 16 431).toArray = #[49, 97, 102] by decide +kernel] at h
  exact h
set_option maxRecDepth 100000 in
theorem law01_works (w : World) (ht : Tabs w) :
    Calls Tryd.prog 4 #[] w fun e w' => e = .returned (.bool true) ∧ Below w.heap.size w w' := by
  have HT := Lib.hid ht
  clear ht
  go_enter Tryd.func4, Tryd.ntmps4
  go_wp2_with fail
  refine (c_add _).mono ?_; rintro e w' ⟨rfl, rfl⟩
  go_wp2_with fail
  refine (c_sub _).mono ?_; rintro e w' ⟨rfl, rfl⟩
  go_wp2_with fail
  refine (c_mul _).mono ?_; rintro e w' ⟨rfl, rfl⟩
  go_wp2_with fail
  refine (c_next9 _).mono ?_; rintro e w' ⟨rfl, rfl⟩
  go_wp2_with fail
  refine (c_next10 _).mono ?_; rintro e w' ⟨rfl, rfl⟩
  go_wp2_with fail
  refine (c_parse _ 0 110 _ (by decide) (by decide +kernel) (by decide +kernel)).mono ?_; rintro e w1 ⟨rfl, hb1⟩
  go_wp2_with fail
  refine (c_digits _ 7 0 _ (by decide) (by decide +kernel) (by decide +kernel)).mono ?_; rintro e w2 ⟨rfl, hb2⟩
  go_wp2_with fail
  refine (c_hexDigits _ 431 0 _ (by decide) (by decide +kernel) (by decide +kernel)).mono ?_; rintro e w3 ⟨rfl, hb3⟩
  go_wp2_with fail
  refine (c_parse _ 0 111 _ (by decide) (by decide +kernel) (by decide +kernel)).mono ?_; rintro e w4 ⟨rfl, hb4⟩
  go_wp2_with fail
  refine (c_parse _ 0 110 _ (by decide) (by decide +kernel) (by decide +kernel)).mono ?_; rintro e w5 ⟨rfl, hb5⟩
  go_wp2_with fail
  refine (c_clamp1 _).mono ?_; rintro e w' ⟨rfl, rfl⟩
  go_wp2_with fail
  refine (c_clamp2 _).mono ?_; rintro e w' ⟨rfl, rfl⟩
  have hb : Below w.heap.size w w5 := hb1.trans ((hb2.mono hb1.size).trans ((hb3.mono (Nat.le_trans hb1.size hb2.size)).trans ((hb4.mono (Nat.le_trans hb1.size (Nat.le_trans hb2.size hb3.size))).trans (hb5.mono (Nat.le_trans hb1.size (Nat.le_trans hb2.size (Nat.le_trans hb3.size hb4.size)))))))
  clear hb1 hb2 hb3 hb4 hb5
  have T := Lib.hid (HT.out.below hb)
  go_wp2_with (go_at_call 14; go_in)
  refine (c_hex _ T.out).mono ?_; rintro e w6 ⟨rfl, hb6⟩
  go_wp2_with (go_at_call 14; go_in)
  go_ret
  exact ⟨rfl, hb.trans (hb6.mono hb.size)⟩
end Go.Proofs.YtlefgkiembokeabDoor
