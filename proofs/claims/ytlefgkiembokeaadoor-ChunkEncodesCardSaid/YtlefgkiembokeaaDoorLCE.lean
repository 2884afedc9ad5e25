/- ChunkEncodes returns true for any two slices of bytes and any number: the walk. The tables of the library read as they are laid. -/
import Derived.Test.YtlefgkiembokeaaDoorCkB
namespace Go.Proofs.YtlefgkiembokeaaDoor
set_option linter.unusedVariables false
set_option linter.unusedSimpArgs false
open Go.RowKit Go.Shelf
set_option maxHeartbeats 2000000
set_option maxRecDepth 100000 in
theorem walkCE (a : Option Addr) (la ca : Nat) (za : List Int) (b : Option Addr) (lb cb : Nat) (zb : List Int) (n : Int) (w : World) (ha : IsBytes .u8 w a la ca za) (hb : IsBytes .u8 w b lb cb zb) (hn : (Lit.int .i64 n).wf = true) (ht : Tabs w) :
    Calls Tryd.prog 6 #[.slice a la ca, .slice b lb cb, .int .i64 n] w fun e w' => e = .returned (.bool true) ∧ Below w.heap.size w w' := by
  have WK := Lib.hid (fun W (h : Tabs W) => law16_works W h)
  have HT := Lib.hid ht
  have hnn : -9223372036854775808 ≤ n ∧ n ≤ 9223372036854775807 := by simpa [Lit.wf, IntKind.min, IntKind.max, IntKind.signed, IntKind.bits] using hn
  obtain ⟨A, hA, hAl⟩ := ha.brow
  obtain ⟨B, hB, hBl⟩ := hb.brow
  have HA := Lib.hid hA
  have HB := Lib.hid hB
  have HAL := Lib.hid hAl
  have HBL := Lib.hid hBl
  have HN := Lib.hid hnn
  clear ha hb hn ht hA hB hnn hAl hBl
  by_cases hla : la ≤ 300
  · by_cases hlb : lb ≤ 300
    · have hmk : ∀ W : World, (W.alloc (.cells #[] 5)).ownsRow W.heap.size 5 1 (.slice (some ⟨W.heap.size, 0, none⟩) 0 0) 0 [] := fun W =>
        ⟨rfl, .inr ⟨W.heap.size, 0, #[], rfl, Nat.le_refl _, World.alloc_heap_new W _, Nat.le_refl _, Nat.zero_le _, rfl, rfl⟩⟩
      have HMK := Lib.hid hmk
      clear hmk
      go_enter Tryd.func6, Tryd.ntmps6
      go_wp2_with (at_builtin; refine wpList_append_brow _ rfl _ _ rfl w.heap.size _ _ _ rfl (HMK.out w) _ A rfl (HA.out.below ((Below.refl _ w).alloc (Nat.le_refl _) _)) ?c1 ?c2 ?_)
      case c1 => have := HAL.out; omega
      case c2 => simp
      intro v1 w1 hown1 hgr1
      have hb1 : Below w.heap.size w w1 := ((Below.refl _ w).alloc (Nat.le_refl _) _).grown hgr1 (by simp) (fun k hk => by simp [Value.ownBlock] at hk; omega)
      have HO1 := Lib.hid hown1
      have HB1 := Lib.hid hb1
      clear hown1 hgr1 hb1
      go_wp2_with (at_builtin; refine wpList_append_brow _ rfl _ _ rfl w.heap.size _ _ _ rfl (HO1.out.alloc _) _ [77] rfl (brow_lit w1 _ _ _ _ rfl (fun j hj => by
        match j, hj with
        | 0, _ => rfl
        | n + 1, h => exact absurd h (by simp))) ?c1 ?c2 ?_)
      case c1 => have := HAL.out; simp; omega
      case c2 => have := HB1.out.size; simp; omega
      intro v2 w2 hown2 hgr2
      have hb2 : Below w.heap.size w w2 := (HB1.out.alloc HB1.out.size _).grown hgr2 (by have := HB1.out.size; simp; omega) (fun k hk => own8_ge HO1.out k hk)
      have hown2 : w2.ownsRow w.heap.size 5 1 v2 (la + 1) ((A ++ [77]).map by8) := by
        have h1 := HAL.out
        rw [List.map_append]
        simp only [List.map_cons, List.map_nil]
        rw [← h1]
        exact hown2
      obtain ⟨g, cp, rfl⟩ := own_form hown2 (by omega)
      obtain ⟨hc1, hrowc, hc2⟩ := own_head hown2
      obtain ⟨hc3, hc4⟩ := hc2 77 [] rfl
      rw [HAL.out] at hc1 hrowc hc3 hc4
      have HROWC := Lib.hid hrowc
      have H77 : Hid (w2.cell? ⟨g, la, none⟩ = some (.int .u8 77)) := Lib.hid hc4
      have HB2 := Lib.hid hb2
      clear hown2 hgr2 hb2 hrowc hc2 hc4 HO1
      go_wp2_with fail
      obtain ⟨W3, hW3⟩ : ∃ W3, w2.alloc (.cells #[.slice (some ⟨g, 0, none⟩) la cp, .slice b lb cb] 41) = W3 := ⟨_, rfl⟩
      have hrow3 : BRows W3 (.slice (some ⟨w2.heap.size, 0, none⟩) 2 2) [A, B] := by
        rw [← hW3]
        exact brows_two HROWC.out (HB.out.below HB2.out) rfl
      have HB23 : Hid (Below w2.heap.size w2 W3) := Lib.hid (by rw [← hW3]; exact (Below.refl _ w2).alloc (Nat.le_refl _) _)
      have HAB : Hid (A.length + B.length ≤ 600) := Lib.hid (by have := HAL.out; have := HBL.out; omega)
      rw [hW3]
      clear hW3
      refine (ck_encode _ [A, B] _ hrow3 (by have := HAB.out; simp [cat]; omega) (by simp) ((HT.out.below HB2.out).below HB23.out)).mono ?_
      rintro e w3 ⟨r3, rfl, hr3, hb3⟩
      rw [show cat [A, B] = A ++ B by simp [cat]] at hr3
      have HR3 := Lib.hid hr3
      obtain ⟨a3, c3, rfl, _, _⟩ := hr3
      obtain ⟨z, hz⟩ : ∃ z, enc (A ++ B) = z := ⟨_, rfl⟩
      have HZ := Lib.hid hz
      rw [hz] at HR3 ⊢
      have HB3 := Lib.hid (HB23.out.trans (hb3.mono HB23.out.size))
      clear hb3 hrow3 hz
      go_wp2_with (at_builtin; refine wpList_append_brow _ rfl _ _ rfl w3.heap.size _ _ _ rfl (HMK.out w3) _ A rfl (((HA.out.below HB2.out).below HB3.out).below ((Below.refl _ w3).alloc (Nat.le_refl _) _)) ?c1 ?c2 ?_)
      case c1 => have := HAL.out; omega
      case c2 => simp
      intro v4 w4 hown4 hgr4
      have HB34 : Hid (Below w3.heap.size w3 w4) := Lib.hid (((Below.refl _ w3).alloc (Nat.le_refl _) _).grown hgr4 (by simp) (fun k hk => by simp [Value.ownBlock] at hk; omega))
      have HO4 := Lib.hid hown4
      clear hown4 hgr4
      go_wp2_with (at_builtin; refine wpList_append_brow _ rfl _ _ rfl w3.heap.size _ _ _ rfl HO4.out _ B rfl (((HB.out.below HB2.out).below HB3.out).below HB34.out) ?c1 ?c2 ?_)
      case c1 => have := HAB.out; omega
      case c2 => exact HB34.out.size
      intro v5 w5 hown5 hgr5
      have HB35 : Hid (Below w3.heap.size w3 w5) := Lib.hid (HB34.out.grown hgr5 HB34.out.size (fun k hk => own8_ge HO4.out k hk))
      have hown5 : w5.ownsRow w3.heap.size 5 1 v5 (A ++ B).length ((A ++ B).map by8) := by
        rw [List.map_append, List.length_append]
        exact hown5
      have HR5 := Lib.hid (BRow.of_own hown5)
      have HRE := Lib.hid (rch_encode v5 (A ++ B) w5 HR5.out (by have := HAB.out; rw [List.length_append]; omega))
      clear hown5 hgr5 HO4
      go_wp2_with fail
      refine HRE.out.mono ?_
      rintro e w6 ⟨rfl, hb6⟩
      rw [HZ.out]
      have HB36 := Lib.hid (HB35.out.trans (hb6.mono HB35.out.size))
      clear hb6
      have hsz : szI ((la : Int) + (lb : Int)) = (z.length : Int) := by
        rw [← HZ.out, ← sz_enc, List.length_append, HAL.out, HBL.out, Int.natCast_add]
      have HSZ := Lib.hid hsz
      have HB26 : Hid (Below w2.heap.size w2 w6) := Lib.hid (HB3.out.trans (HB36.out.mono HB3.out.size))
      have cv3 : (convert 41 9 (.slice a3 z.length c3)).run Tryd.prog w6 = .ok (.string ⟨z.toArray⟩) w6 := conv_brow (HR3.out.below HB36.out)
      clear hsz
      go_wp2_with fail
      refine (ck_size _ _ (by omega) (by omega) ((HT.out.below HB2.out).below HB26.out)).mono ?_
      rintro e w7 ⟨rfl, hb7⟩
      rw [HSZ.out]
      have HB2W : Hid (Below w2.heap.size w2 w7) := Lib.hid (HB26.out.trans (hb7.mono HB26.out.size))
      clear hb7 cv3
      by_cases hn : 4611686018427387904 < n
      · have hn' : n > 4611686018427387904 := hn
        have cvc : (convert 41 9 (.slice (some ⟨g, 0, none⟩) la cp)).run Tryd.prog w7 = .ok (.string ⟨A.toArray⟩) w7 := by
          have h := conv_brow (HROWC.out.below HB2W.out)
          exact h
        have cva : (convert 41 9 (.slice a la ca)).run Tryd.prog w7 = .ok (.string ⟨A.toArray⟩) w7 := conv_brow ((HA.out.below HB2.out).below HB2W.out)
        have c77 := cell_below HB2W.out H77.out
        go_wp2_with fail
        refine (WK.out _ ((HT.out.below HB2.out).below HB2W.out)).mono ?_
        rintro e wz ⟨rfl, hbz⟩
        have HBZ := Lib.hid hbz
        clear cvc cva c77 hbz
        go_wp2
        go_ret
        exact ⟨rfl, (HB2.out.trans (HB2W.out.mono HB2.out.size)).trans (HBZ.out.mono (Nat.le_trans HB2.out.size HB2W.out.size))⟩
      · have hn' : ¬ n > 4611686018427387904 := hn
        have hn2 : -9223372036854775808 ≤ n := HN.out.1
        go_wp2_with fail
        refine (ck_size n _ (by omega) hn2 ((HT.out.below HB2.out).below HB2W.out)).mono ?_
        rintro e w8 ⟨rfl, hb8⟩
        have HB2X : Hid (Below w2.heap.size w2 w8) := Lib.hid (HB2W.out.trans (hb8.mono HB2W.out.size))
        clear hb8
        go_wp2_with fail
        refine (rch_size n _ (by omega) hn2).mono ?_
        rintro e w9 ⟨rfl, rfl⟩
        clear HB2W
        have HB2W := HB2X
        have cvc : (convert 41 9 (.slice (some ⟨g, 0, none⟩) la cp)).run Tryd.prog w8 = .ok (.string ⟨A.toArray⟩) w8 := by
          have h := conv_brow (HROWC.out.below HB2W.out)
          exact h
        have cva : (convert 41 9 (.slice a la ca)).run Tryd.prog w8 = .ok (.string ⟨A.toArray⟩) w8 := conv_brow ((HA.out.below HB2.out).below HB2W.out)
        have c77 := cell_below HB2W.out H77.out
        go_wp2_with fail
        refine (WK.out _ ((HT.out.below HB2.out).below HB2W.out)).mono ?_
        rintro e wz ⟨rfl, hbz⟩
        have HBZ := Lib.hid hbz
        clear cvc cva c77 hbz
        go_wp2
        go_ret
        exact ⟨rfl, (HB2.out.trans (HB2W.out.mono HB2.out.size)).trans (HBZ.out.mono (Nat.le_trans HB2.out.size HB2W.out.size))⟩
    · go_enter Tryd.func6, Tryd.ntmps6
      go_wp2_with fail
      refine (WK.out _ HT.out).mono ?_
      rintro e w1 ⟨rfl, hb1⟩
      go_wp2
      go_ret
      exact ⟨rfl, hb1⟩
  · go_enter Tryd.func6, Tryd.ntmps6
    go_wp2_with fail
    refine (WK.out _ HT.out).mono ?_
    rintro e w1 ⟨rfl, hb1⟩
    go_wp2
    go_ret
    exact ⟨rfl, hb1⟩
end Go.Proofs.YtlefgkiembokeaaDoor
