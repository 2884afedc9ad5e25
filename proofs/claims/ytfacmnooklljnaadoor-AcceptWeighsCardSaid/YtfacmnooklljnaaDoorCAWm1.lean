/- Texts of this claim, one behind the other: LAW. -/
import Derived.Test.YtfacmnooklljnaaDoorYxm3
/- AcceptWeighs. No condition but those that the law states. -/
namespace Go.Proofs.YtfacmnooklljnaaDoor
set_option linter.unusedVariables false
set_option linter.unusedSimpArgs false
open Go.RowKit Go.Shelf
attribute [local go_sem] Oper.semAt_some
set_option maxHeartbeats 8000000
set_option maxRecDepth 100000
theorem walkAW (b : Int) (w : World) (hb : (Lit.int .u64 b).wf = true) :
    Calls Tryd.prog 3 #[.int .u64 b] w fun e w' => e = .returned (.bool true) ∧ Below w.heap.size w w' := by
  have hb' : 0 ≤ b ∧ b ≤ 18446744073709551615 := by
    have h := hb
    simp [Lit.wf] at h
    exact ⟨h.1, h.2⟩
  obtain ⟨q, hq⟩ : ∃ q, b.toNat = q := ⟨_, rfl⟩
  have hq2 : q < 18446744073709551616 := by omega
  have FF := fun W => fl_from b W
  simp only [hq] at FF
  have WA := Lib.hid (fun W => ac_Weigh q W hq2)
  have WR := Lib.hid (fun W => rf_Weigh q W hq2)
  have WK := Lib.hid (fun W => lw_works12 W)
  obtain ⟨n, hn⟩ : ∃ n, Fl.weigh q = n := ⟨_, rfl⟩
  rw [hn] at WA WR
  clear hn
  go_enter Tryd.func3, Tryd.ntmps3
  go_wp2_with (simp only [FF])
  go_wp2_with fail
  refine (WA.out _).mono ?_
  rintro e w1 ⟨rfl, rfl⟩
  go_wp2_with fail
  refine (WR.out _).mono ?_
  rintro e w2 ⟨rfl, rfl⟩
  go_wp2_with fail
  refine (WK.out _).mono ?_
  rintro e w3 ⟨rfl, hb3⟩
  have HB := Lib.hid hb3
  clear hb3
  go_wp2_with fail
  go_ret
  exact ⟨rfl, HB.out⟩
end Go.Proofs.YtfacmnooklljnaaDoor
