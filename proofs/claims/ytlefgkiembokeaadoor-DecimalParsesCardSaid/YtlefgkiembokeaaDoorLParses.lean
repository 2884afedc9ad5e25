/- DecimalParses returns true for any text: the walk. The two tables of the library read as they are laid. -/
import Derived.Test.YtlefgkiembokeaaDoorDwk
namespace Go.Proofs.YtlefgkiembokeaaDoor
open Go.RowKit
set_option maxHeartbeats 1000000
set_option maxRecDepth 100000 in
theorem parses_law (s : ByteArray) (w : World) (hs : s.size ≤ maxLen) (ht : Tabs w) :
    Calls Tryd.prog 3 #[.string s] w fun e w' => e = .returned (.bool true) ∧ Below w.heap.size w w' := by
  unfold maxLen at hs
  have HT := Lib.hid ht
  clear ht
  by_cases hl : s.size ≤ 60
  · have K1 := Lib.hid (fun W => dec_parse s W (by omega))
    have K2 := Lib.hid (fun W => dec_digits s W (by omega))
    have K3 := Lib.hid (fun W => dec_hexDigits s W (by omega))
    have K4 := Lib.hid (fun W => ref_parse s W (by omega))
    have K5 := Lib.hid (fun W => ref_digits s W (by omega))
    have K6 := Lib.hid (fun W => ref_hexDigits s W (by omega))
    go_enter Tryd.func3, Tryd.ntmps3
    go_wp2_with fail
    refine (K1.out _).mono ?_; rintro e w1 ⟨rfl, hb1⟩
    go_wp2_with fail
    refine (K2.out _).mono ?_; rintro e w2 ⟨rfl, hb2⟩
    go_wp2_with fail
    refine (K3.out _).mono ?_; rintro e w3 ⟨rfl, hb3⟩
    have hb : Below w.heap.size w w3 := hb1.trans ((hb2.mono hb1.size).trans (hb3.mono (Nat.le_trans hb1.size hb2.size)))
    have T := Lib.hid (HT.out.below hb)
    clear hb1 hb2 hb3
    go_wp2_with fail
    refine (K4.out _).mono ?_; rintro e w' ⟨rfl, rfl⟩
    go_wp2_with fail
    refine (K5.out _).mono ?_; rintro e w' ⟨rfl, rfl⟩
    go_wp2_with fail
    refine (K6.out _).mono ?_; rintro e w' ⟨rfl, rfl⟩
    go_wp2_with (go_at_call 22; go_in)
    refine (law01_works _ T.out).mono ?_; rintro e w6 ⟨rfl, hb6⟩
    go_wp2
    go_ret
    exact ⟨rfl, hb.trans (hb6.mono hb.size)⟩
  · go_enter Tryd.func3, Tryd.ntmps3
    go_wp2_with fail
    refine (law01_works _ HT.out).mono ?_; rintro e w6 ⟨rfl, hb6⟩
    go_wp2
    go_ret
    exact ⟨rfl, hb6⟩
end Go.Proofs.YtlefgkiembokeaaDoor
