/- The chapter's rows of layer 9: they hold. -/
import Derived.Test.YtlefgkiembokeaaDoorTwC
namespace Go.Proofs.YtlefgkiembokeaaDoor
set_option linter.unusedVariables false
set_option linter.unusedSimpArgs false
open Go.RowKit Go.Shelf
set_option maxHeartbeats 2000000
theorem law09_num (n : Int) (w : World) : Calls Tryd.prog 51 #[.int .i64 n] w fun e w' => e = .returned (.int .i64 n) ∧ w = w' := by
  go_enter Tryd.func51, Tryd.ntmps51
  go_wp2
  go_ret
  exact ⟨rfl, rfl⟩
theorem two_row (w : World) : StrRow (w.alloc (.cells #[.string ⟨#[97]⟩, .string ⟨#[98]⟩] 9)) (.slice (some ⟨w.heap.size, 0, none⟩) 2 2) [[97], [98]] := by
  refine ⟨some ⟨w.heap.size, 0, none⟩, 2, rfl, .inr ⟨w.heap.size, rfl, fun j hj => ?_⟩⟩
  rw [World.cell?_alloc_new]
  match j, hj with
  | 0, _ => rfl
  | 1, _ => rfl
  | n + 2, h => exact absurd h (by simp)
set_option maxRecDepth 100000 in
theorem law09_works (w : World) (hm : ML w) :
    Calls Tryd.prog 48 #[] w fun e w' => e = .returned (.bool true) ∧ Below w.heap.size w w' := by
  have CU : Hid (∀ W, Calls Tryd.prog 90 #[.string ⟨#[97, 61, 34, 120, 59, 121, 34, 59, 98]⟩, .int .u8 59] W fun e w' => e = .returned (.tuple #[.string ⟨#[97, 61, 34, 120, 59, 121, 34]⟩, .string ⟨#[98]⟩, .bool true]) ∧ Below W.heap.size W w') := fun W => by
    have h := tok_cut ⟨#[97, 61, 34, 120, 59, 121, 34, 59, 98]⟩ 59 W (by decide) (by decide) (by decide)
    rw [show Tp.cut (⟨#[97, 61, 34, 120, 59, 121, 34, 59, 98]⟩ : ByteArray).data.toList 59 = ([97, 61, 34, 120, 59, 121, 34], [98], true) by decide +kernel] at h
    exact h
  have Q1 : Hid (∀ W, Calls Tryd.prog 49 #[.string ⟨#[34, 97, 92, 34, 98, 34]⟩] W fun e w' => e = .returned (.tuple #[.string ⟨#[97, 34, 98]⟩, .int .i64 0]) ∧ Below W.heap.size W w') := fun W => by
    have h := tok_quoted ⟨#[34, 97, 92, 34, 98, 34]⟩ W (by decide)
    rw [show Tp.quotedS (⟨#[34, 97, 92, 34, 98, 34]⟩ : ByteArray).data.toList = [97, 34, 98] by decide +kernel, show Tp.quotedE (⟨#[34, 97, 92, 34, 98, 34]⟩ : ByteArray).data.toList = 0 by decide +kernel] at h
    exact h
  have Q2 : Hid (∀ W, Calls Tryd.prog 49 #[.string ⟨#[34, 97]⟩] W fun e w' => e = .returned (.tuple #[.string ⟨#[]⟩, .int .i64 110]) ∧ Below W.heap.size W w') := fun W => by
    have h := tok_quoted ⟨#[34, 97]⟩ W (by decide)
    rw [show Tp.quotedS (⟨#[34, 97]⟩ : ByteArray).data.toList = [] by decide +kernel, show Tp.quotedE (⟨#[34, 97]⟩ : ByteArray).data.toList = 110 by decide +kernel] at h
    exact h
  have T1 : Hid (∀ W, Calls Tryd.prog 52 #[.string ⟨#[97, 45, 98]⟩] W fun e w' => e = .returned (.bool true) ∧ Below W.heap.size W w') := fun W => by
    have h := tok_token ⟨#[97, 45, 98]⟩ W (by decide)
    rw [show Tp.isTok (⟨#[97, 45, 98]⟩ : ByteArray).data.toList = true by decide +kernel] at h
    exact h
  have T2 : Hid (∀ W, Calls Tryd.prog 52 #[.string ⟨#[97, 32, 98]⟩] W fun e w' => e = .returned (.bool false) ∧ Below W.heap.size W w') := fun W => by
    have h := tok_token ⟨#[97, 32, 98]⟩ W (by decide)
    rw [show Tp.isTok (⟨#[97, 32, 98]⟩ : ByteArray).data.toList = false by decide +kernel] at h
    exact h
  have T3 : Hid (∀ W, Calls Tryd.prog 52 #[.string ⟨#[]⟩] W fun e w' => e = .returned (.bool false) ∧ Below W.heap.size W w') := fun W => by
    have h := tok_token ⟨#[]⟩ W (by decide)
    rw [show Tp.isTok (⟨#[]⟩ : ByteArray).data.toList = false by decide +kernel] at h
    exact h
  have V1 : Hid (∀ W, Calls Tryd.prog 54 #[.string ⟨#[97, 32, 98]⟩] W fun e w' => e = .returned (.bool true) ∧ Below W.heap.size W w') := fun W => by
    have h := tok_value ⟨#[97, 32, 98]⟩ W (by decide)
    rw [show Tp.isVal (⟨#[97, 32, 98]⟩ : ByteArray).data.toList = true by decide +kernel] at h
    exact h
  have V2 : Hid (∀ W, Calls Tryd.prog 54 #[.string ⟨#[32, 97]⟩] W fun e w' => e = .returned (.bool false) ∧ Below W.heap.size W w') := fun W => by
    have h := tok_value ⟨#[32, 97]⟩ W (by decide)
    rw [show Tp.isVal (⟨#[32, 97]⟩ : ByteArray).data.toList = false by decide +kernel] at h
    exact h
  have IT : Hid (∀ W, ML W → Calls Tryd.prog 62 #[.string ⟨#[97, 44, 32, 44, 98, 32, 44]⟩] W fun e w' => ∃ r, e = .returned r ∧ StrRow w' r [[97], [98]] ∧ Below W.heap.size W w') := fun W h => by
    have h := tok_items ⟨#[97, 44, 32, 44, 98, 32, 44]⟩ W (by decide) h
    rw [show Tp.items (⟨#[97, 44, 32, 44, 98, 32, 44]⟩ : ByteArray).data.toList = [[97], [98]] by decide +kernel] at h
    exact h
  have HM := Lib.hid hm
  clear hm
  go_enter Tryd.func48, Tryd.ntmps48
  go_wp2_with fail
  refine (CU.out _).mono ?_
  rintro e w1 ⟨rfl, b1⟩
  go_wp2_with fail
  refine (Q1.out _).mono ?_
  rintro e w2 ⟨rfl, b2'⟩
  have b2 := b1.trans (b2'.mono b1.size)
  clear b2' b1
  go_wp2_with fail
  refine (Q2.out _).mono ?_
  rintro e w3 ⟨rfl, b3'⟩
  have b3 := b2.trans (b3'.mono b2.size)
  clear b3' b2
  go_wp2_with fail
  refine (T1.out _).mono ?_
  rintro e w4 ⟨rfl, b4'⟩
  have b4 := b3.trans (b4'.mono b3.size)
  clear b4' b3
  go_wp2_with fail
  refine (T2.out _).mono ?_
  rintro e w5 ⟨rfl, b5'⟩
  have b5 := b4.trans (b5'.mono b4.size)
  clear b5' b4
  go_wp2_with fail
  refine (T3.out _).mono ?_
  rintro e w6 ⟨rfl, b6'⟩
  have b6 := b5.trans (b6'.mono b5.size)
  clear b6' b5
  go_wp2_with fail
  refine (V1.out _).mono ?_
  rintro e w7 ⟨rfl, b7'⟩
  have b7 := b6.trans (b7'.mono b6.size)
  clear b7' b6
  go_wp2_with fail
  refine (V2.out _).mono ?_
  rintro e w8 ⟨rfl, b8'⟩
  have b8 := b7.trans (b8'.mono b7.size)
  clear b8' b7
  have hm8 := Lib.hid (HM.out.below b8)
  go_wp2_with fail
  refine (IT.out _ hm8.out).mono ?_
  rintro e w9 ⟨r, rfl, hr, b9'⟩
  have b9 := b8.trans (b9'.mono b8.size)
  clear b9' b8
  have HR := Lib.hid hr
  clear hr
  have LI := Lib.hid (law_list r (.slice (some ⟨w9.heap.size, 0, none⟩) 2 2) [[97], [98]] [[97], [98]] (w9.alloc (.cells #[.string ⟨#[97]⟩, .string ⟨#[98]⟩] 9)) (HR.out.below ((Below.refl _ _).alloc (Nat.le_refl _) _)) (two_row w9) (by decide) (by decide))
  have b9a := b9.alloc b9.size (.cells #[.string ⟨#[97]⟩, .string ⟨#[98]⟩] 9)
  go_wp2_with fail
  refine LI.out.mono ?_
  rintro e w10 ⟨rfl, b10'⟩
  have b10 := b9a.trans (b10'.mono b9a.size)
  clear b10' b9a b9
  rw [show (([[97], [98]] : List (List UInt8)) == [[97], [98]]) = true by decide]
  go_wp2_with fail
  refine (law09_num _ _).mono ?_
  rintro e w11 ⟨rfl, rfl⟩
  go_wp2_with fail
  refine (law09_num _ _).mono ?_
  rintro e w12 ⟨rfl, rfl⟩
  go_wp2
  go_ret
  exact ⟨rfl, b10⟩
end Go.Proofs.YtlefgkiembokeaaDoor
