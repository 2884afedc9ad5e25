/- Law 16's works: the chapter's rows. -/
import Derived.Test.YtoidopdpnnogaaaDoorCk9
import Derived.Test.YtoidopdpnnogaaaDoorCk6
namespace Go.Proofs.YtoidopdpnnogaaaDoor
set_option linter.unusedVariables false
set_option linter.unusedSimpArgs false
open Go.RowKit Go.Shelf
set_option maxHeartbeats 2000000
theorem ck_num (n : Int) (w : World) : Calls Tryd.prog 17 #[.int .i64 n] w fun e w' => e = .returned (.int .i64 n) ∧ w' = w := by
  go_enter Tryd.func17, Tryd.ntmps17
  go_wp2
  go_ret
  exact ⟨rfl, rfl⟩
/-- a literal of bytes, marked -/
theorem brow_lit (w : World) (C : Array Value) (fr : Nat × Nat) (l : List UInt8) (n : Nat) (hn : n = l.length) (h : ∀ j, j < l.length → C[j]? = some (by8 (l.getD j 0))) :
    BRow (w.alloc (.cells C 5 fr)) (.slice (some ⟨w.heap.size, 0, none⟩) n n) l := by
  subst hn
  refine ⟨_, l.length, rfl, Nat.le_refl _, .inr ⟨w.heap.size, 0, rfl, fun j hj => ?_⟩⟩
  rw [Nat.zero_add, World.cell?_alloc_mark]
  exact h j hj
theorem enc_abc : enc [97, 98, 99] = [51, 13, 10, 97, 98, 99, 13, 10] := by
  unfold enc
  rw [if_neg (by decide)]
  rw [show Dp.digs 16 ([97, 98, 99] : List UInt8).length = [51] from by rw [Dp.digs_lt (by decide)]; rfl]
  rfl
theorem sz_3 : szI 3 = 8 := by
  unfold szI
  rw [if_neg (by decide), show (3 : Int).toNat = 3 from rfl, Dp.digs_lt (by decide)]
  rfl
theorem sz_16 : szI 16 = 22 := by
  unfold szI
  rw [if_neg (by decide), show (16 : Int).toNat = 16 from rfl, Dp.digs_ge (by decide) (by decide), Dp.digs_lt (by decide)]
  rfl
set_option maxRecDepth 100000 in
theorem law16_works (w : World) (ht : Tabs w) :
    Calls Tryd.prog 12 #[] w fun e w' => e = .returned (.bool true) ∧ Below w.heap.size w w' := by
  have HT := Lib.hid ht
  clear ht
  have kc := fun (W : World) (C : Array Value) (n c : Nat) => Lib.run_convert_bytes_const (P := Tryd.prog) W 22 5 C n c Tryd.underlying22 Tryd.underlying5
  go_enter Tryd.func12, Tryd.ntmps12
  go_wp2_with fail
  have hb0 : Below w.heap.size w (w.alloc (.cells #[.int .u8 97, .int .u8 98, .int .u8 99, .int .u8 100, .int .u8 101] 5 (5, 6))) := (Below.refl _ w).alloc (Nat.le_refl _) _
  refine (ck_cut _ 5 5 2 3 [97, 98, 99, 100, 101] 2 _ (brow_lit w _ _ _ _ rfl (fun j hj => by
    match j, hj with
    | 0, _ | 1, _ | 2, _ | 3, _ | 4, _ => rfl
    | n + 5, h => exact absurd h (by simp))) (by decide) (by decide) (by decide) (fun k => by omega)).mono ?_
  rintro e w1 ⟨r, rfl, hr, hb⟩
  have HB1 := Lib.hid (hb0.trans (hb.mono (by simp)))
  rw [show pies 2 3 [97, 98, 99, 100, 101] = [[97, 98], [99, 100], [101]] from rfl] at hr
  have HR := Lib.hid hr
  obtain ⟨p, c, rfl, hc, hrr⟩ := hr
  rcases hrr with ⟨_, h, _⟩ | ⟨g, o, rfl, hx⟩
  · cases h
  obtain ⟨x0, hx0, hr0⟩ := hx 0 (by decide)
  obtain ⟨x2, hx2, hr2⟩ := hx 2 (by decide)
  have HX0 := Lib.hid hx0
  have HX2 := Lib.hid hx2
  have HR0 : Hid (BRow w1 x0 [97, 98]) := Lib.hid hr0
  have HR2 : Hid (BRow w1 x2 [101]) := Lib.hid hr2
  obtain ⟨a0, c0, rfl, _, _⟩ := hr0
  obtain ⟨a2, c2, rfl, _, _⟩ := hr2
  clear hb hb0 hx hx0 hx2 hc HR
  go_wp2_with fail
  refine (ck_cut_wrong _ _ _ (by decide)).mono ?_
  rintro e w2 ⟨rfl, hb⟩
  have HB12 : Hid (Below w1.heap.size w1 w2) := Lib.hid (((Below.refl _ w1).alloc (Nat.le_refl _) _).trans (hb.mono (by simp)))
  clear hb
  go_wp2_with fail
  obtain ⟨W3, hW3⟩ : ∃ W3, (w2.alloc (.cells #[.int .u8 97, .int .u8 98, .int .u8 99] 5 (3, 4))).alloc (.cells #[.slice (some ⟨w2.heap.size, 0, none⟩) 3 3] 22) = W3 := ⟨_, rfl⟩
  have hrow3 : BRows W3 (.slice (some ⟨w2.heap.size + 1, 0, none⟩) 1 1) [[97, 98, 99]] := by
    rw [← hW3]
    exact brows_one (brow_lit w2 _ _ _ _ rfl (fun j hj => by
      match j, hj with
      | 0, _ | 1, _ | 2, _ => rfl
      | n + 3, h => exact absurd h (by simp))) (by simp)
  have hb23 : Below w2.heap.size w2 W3 := by rw [← hW3]; exact ((Below.refl _ w2).alloc (Nat.le_refl _) _).alloc (by simp) _
  have HB13 : Hid (Below w1.heap.size w1 W3) := Lib.hid (HB12.out.trans (hb23.mono HB12.out.size))
  have HTW3 : Hid (Tabs W3) := Lib.hid ((HT.out.below HB1.out).below HB13.out)
  rw [hW3]
  clear hW3 hb23
  refine (ck_encode _ [[97, 98, 99]] _ hrow3 (by decide) (by decide) HTW3.out).mono ?_
  rintro e w3 ⟨r3, rfl, hr3, hb3⟩
  rw [show enc (cat [[97, 98, 99]]) = [51, 13, 10, 97, 98, 99, 13, 10] from enc_abc] at hr3
  have HB3 := Lib.hid (HB13.out.trans (hb3.mono HB13.out.size))
  have HR3 := Lib.hid hr3
  obtain ⟨a3, c3, rfl, _, _⟩ := hr3
  have cv3 : (convert 22 9 (.slice a3 8 c3)).run Tryd.prog w3 = .ok (.string ⟨#[51, 13, 10, 97, 98, 99, 13, 10]⟩) w3 := conv_brow HR3.out
  clear hrow3 hb3
  go_wp2_with fail
  refine (ck_encode _ [] _ (brows_none _) (by decide) (by decide) ((HT.out.below HB1.out).below HB3.out)).mono ?_
  rintro e w4 ⟨r4, rfl, hr4, hb4⟩
  rw [show enc (cat []) = [] from if_pos rfl] at hr4
  obtain ⟨a4, c4, rfl, _, _⟩ := hr4
  have HB4 := Lib.hid (HB3.out.trans (hb4.mono HB3.out.size))
  clear hb4 cv3
  go_wp2_with fail
  refine (ck_last _).mono ?_
  rintro e w5 ⟨r5, rfl, hr5, hb5⟩
  have HR5 := Lib.hid hr5
  obtain ⟨a5, c5, rfl, _, _⟩ := hr5
  have cv5 : (convert 22 9 (.slice a5 5 c5)).run Tryd.prog w5 = .ok (.string ⟨#[48, 13, 10, 13, 10]⟩) w5 := conv_brow HR5.out
  have HB5 := Lib.hid (HB4.out.trans (hb5.mono HB4.out.size))
  clear hb5
  go_wp2_with fail
  refine (ck_size 3 _ (by decide) (by decide) ((HT.out.below HB1.out).below HB5.out)).mono ?_
  rintro e w6 ⟨rfl, hb6⟩
  rw [sz_3]
  have HB6 := Lib.hid (HB5.out.trans (hb6.mono HB5.out.size))
  clear hb6 cv5
  go_wp2_with fail
  refine (ck_size 16 _ (by decide) (by decide) ((HT.out.below HB1.out).below HB6.out)).mono ?_
  rintro e w7 ⟨rfl, hb7⟩
  rw [sz_16]
  have HB7 := Lib.hid (HB6.out.trans (hb7.mono HB6.out.size))
  clear hb7
  have cx0 : w7.cell? ⟨g, o, none⟩ = some (.slice a0 2 c0) := cell_below HB7.out HX0.out
  have cx2 : w7.cell? ⟨g, o + 2, none⟩ = some (.slice a2 1 c2) := cell_below HB7.out HX2.out
  have cv0 : (convert 22 9 (.slice a0 2 c0)).run Tryd.prog w7 = .ok (.string ⟨#[97, 98]⟩) w7 := conv_brow (HR0.out.below HB7.out)
  have cv2 : (convert 22 9 (.slice a2 1 c2)).run Tryd.prog w7 = .ok (.string ⟨#[101]⟩) w7 := conv_brow (HR2.out.below HB7.out)
  have NUM := Lib.hid ck_num
  go_wp2_with fail
  refine (NUM.out _ _).mono ?_
  rintro e w8 ⟨rfl, rfl⟩
  go_wp2_with fail
  refine (NUM.out _ _).mono ?_
  rintro e w9 ⟨rfl, rfl⟩
  go_wp2_with fail
  go_ret
  exact ⟨rfl, HB1.out.trans (HB7.out.mono HB1.out.size)⟩
end Go.Proofs.YtoidopdpnnogaaaDoor
