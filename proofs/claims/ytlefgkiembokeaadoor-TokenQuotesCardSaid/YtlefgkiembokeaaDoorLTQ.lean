/- TokenQuotes: for any text the law answers true. -/
import Derived.Test.YtlefgkiembokeaaDoorTwk
namespace Go.Proofs.YtlefgkiembokeaaDoor
set_option linter.unusedVariables false
set_option linter.unusedSimpArgs false
open Go.RowKit Go.Shelf
set_option maxHeartbeats 2000000
set_option maxRecDepth 100000 in
theorem walkTQ (s : ByteArray) (w : World) (hs : s.size ≤ maxLen) (hm : ML w) :
    Calls Tryd.prog 10 #[.string s] w fun e w' => e = .returned (.bool true) ∧ Below w.heap.size w w' := by
  have WK := Lib.hid (fun W (h : ML W) => law09_works W h)
  have HM := Lib.hid hm
  clear hm
  by_cases hl : s.size ≤ 200
  · have A := Lib.hid (fun W => tok_quoted s W (by omega))
    have R := Lib.hid (fun W => rtk_quoted s W (by omega))
    obtain ⟨x, hx⟩ : ∃ x : ByteArray, (⟨(Tp.quotedS s.data.toList).toArray⟩ : ByteArray) = x := ⟨_, rfl⟩
    obtain ⟨n, hn⟩ : ∃ n, Tp.quotedE s.data.toList = n := ⟨_, rfl⟩
    rw [hx, hn] at A R
    clear hx hn
    have hxx : (x.toList == x.toList) = true := beq_self_eq_true _
    have hnn : (n == n) = true := beq_self_eq_true _
    go_enter Tryd.func10, Tryd.ntmps10
    go_wp2_with fail
    refine (A.out _).mono ?_
    rintro e w1 ⟨rfl, b1⟩
    go_wp2_with fail
    refine (R.out _).mono ?_
    rintro e w2 ⟨rfl, b2'⟩
    have b2 := b1.trans (b2'.mono b1.size)
    have hm2 := Lib.hid (HM.out.below b2)
    clear b2' b1
    go_wp2_with fail
    refine (law09_num _ _).mono ?_
    rintro e w3 ⟨rfl, rfl⟩
    go_wp2_with fail
    refine (WK.out _ hm2.out).mono ?_
    rintro e w4 ⟨rfl, b4⟩
    go_wp2
    go_ret
    exact ⟨rfl, b2.trans (b4.mono b2.size)⟩
  · go_enter Tryd.func10, Tryd.ntmps10
    go_wp2_with fail
    refine (WK.out _ HM.out).mono ?_
    rintro e w4 ⟨rfl, b4⟩
    go_wp2
    go_ret
    exact ⟨rfl, b4⟩
end Go.Proofs.YtlefgkiembokeaaDoor
