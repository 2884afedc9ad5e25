/- DecimalSums returns true for any three numbers of 64 bits and any slice of such: the walk. The two tables of the library read as they are laid. -/
import Derived.Test.YtlefgkiembokeaaDoorDwk
import Derived.Test.YtlefgkiembokeaaDoorDs
namespace Go.Proofs.YtlefgkiembokeaaDoor
open Go.RowKit
set_option maxHeartbeats 1000000
set_option maxRecDepth 100000 in
theorem sums_law (a b c : Int) (p : Option Addr) (len cap : Nat) (zs : List Int) (w : World) (ha : (Lit.int .u64 a).wf = true) (hb : (Lit.int .u64 b).wf = true) (_hc : (Lit.int .u64 c).wf = true) (hr : IsRow .u64 w p len cap zs) (ht : Tabs w) :
    Calls Tryd.prog 4 #[.int .u64 a, .int .u64 b, .int .u64 c, .slice p len cap] w fun e w' => e = .returned (.bool true) ∧ Below w.heap.size w w' := by
  have HT := Lib.hid ht
  have hU := u64_wf ha
  have hV := u64_wf hb
  clear ht ha hb
  have hlen : len ≤ 9223372036854775807 := by
    rcases hr with ⟨_, h, _, _⟩ | ⟨x, _, h1, h2, _⟩
    · omega
    · unfold maxLen at h2; omega
  by_cases hl : len ≤ 40
  · have K1 := Lib.hid (dec_add a b w hU hV)
    have K2 := Lib.hid (dec_sub a b w hU hV)
    have K3 := Lib.hid (dec_mul a b w hU hV)
    have K4 := Lib.hid (dec_next a b w hU hV)
    have K5 := Lib.hid (dec_sum p len cap zs w hr (by omega))
    have K6 := Lib.hid (dec_clamp a b c w)
    have R1 := Lib.hid (ref_add a b w hU hV)
    have R2 := Lib.hid (ref_sub a b w hU hV)
    have R3 := Lib.hid (ref_mul a b w hU hV)
    have R4 := Lib.hid (ref_next a b w hU hV)
    have R5 := Lib.hid (ref_sum p len cap zs w hr (by omega))
    have R6 := Lib.hid (ref_clamp a b c w)
    clear hr hU hV
    go_enter Tryd.func4, Tryd.ntmps4
    go_wp2_with fail
    refine K1.out.mono ?_; rintro e w' ⟨rfl, rfl⟩
    go_wp2_with fail
    refine K2.out.mono ?_; rintro e w' ⟨rfl, rfl⟩
    go_wp2_with fail
    refine K3.out.mono ?_; rintro e w' ⟨rfl, rfl⟩
    go_wp2_with fail
    refine K4.out.mono ?_; rintro e w' ⟨rfl, rfl⟩
    go_wp2_with fail
    refine K5.out.mono ?_; rintro e w' ⟨rfl, rfl⟩
    go_wp2_with fail
    refine K6.out.mono ?_; rintro e w' ⟨rfl, rfl⟩
    go_wp2_with fail
    refine R1.out.mono ?_; rintro e w' ⟨rfl, rfl⟩
    go_wp2_with fail
    refine R2.out.mono ?_; rintro e w' ⟨rfl, rfl⟩
    go_wp2_with fail
    refine R3.out.mono ?_; rintro e w' ⟨rfl, rfl⟩
    go_wp2_with fail
    refine R4.out.mono ?_; rintro e w' ⟨rfl, rfl⟩
    go_wp2_with fail
    refine R5.out.mono ?_; rintro e w' ⟨rfl, rfl⟩
    go_wp2_with fail
    refine R6.out.mono ?_; rintro e w' ⟨rfl, rfl⟩
    clear K1 K2 K3 K4 K5 K6 R1 R2 R3 R4 R5 R6
    go_wp2_with (go_at_call 22; go_in)
    refine (law01_works _ HT.out).mono ?_; rintro e w6 ⟨rfl, hb6⟩
    go_wp2
    go_ret
    exact ⟨rfl, hb6⟩
  · clear hr hU hV
    go_enter Tryd.func4, Tryd.ntmps4
    go_wp2_with fail
    refine (law01_works _ HT.out).mono ?_; rintro e w6 ⟨rfl, hb6⟩
    go_wp2
    go_ret
    exact ⟨rfl, hb6⟩
end Go.Proofs.YtlefgkiembokeaaDoor
