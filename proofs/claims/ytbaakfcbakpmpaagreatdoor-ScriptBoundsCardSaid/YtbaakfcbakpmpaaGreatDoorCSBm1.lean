/- Texts of this claim, one behind the other: LSB. -/
import Derived.Test.YtbaakfcbakpmpaaGreatDoorUjm7
import Derived.Laws.OwnMore
import Derived.Deep.Cut
import Derived.Deep.DeepCutAuto
/- ScriptBounds returns true for any number: the walk. The tables of the library, and its cell of a bound, read as they are laid. -/
namespace Go.Proofs.YtbaakfcbakpmpaaGreatDoor
set_option linter.unusedVariables false
set_option linter.unusedSimpArgs false
open Go.RowKit Go.Shelf
set_option maxHeartbeats 8000000
set_option maxRecDepth 100000
def opnQ : Sc.St × Value := (Sc.opn, .slice none 0 0)
/-- the first k of the made steps stand so -/
def OpnAt (w : World) (G k : Nat) : Prop := ∃ cs, w.heap[G]? = some (.cells cs 26 (0, 0)) ∧ cs.size = 24582 ∧ ∀ j, j < k → ∀ i x, (stC opnQ)[i]? = some x → cs[j * 6 + i]? = some x
theorem OpnAt.stsIn {w : World} {G k : Nat} (h : OpnAt w G k) (n c : Nat) (hn : n ≤ k) : StsIn w (.slice (some ⟨G, 0, none⟩) n c) (List.replicate n opnQ) := by
  obtain ⟨cs, h1, h2, h3⟩ := h
  refine ⟨some ⟨G, 0, none⟩, c, by rw [List.length_replicate], .inr ⟨G, 0, rfl, fun j hj i x hx => ?_⟩, fun q hq => ?_⟩
  · rw [List.length_replicate] at hj
    rw [List.getD_eq_getElem?_getD, List.getElem?_replicate_of_lt hj] at hx
    have h4 := h3 j (by omega) i x hx
    simp [World.cell?, h1, h4]
  · rw [List.eq_of_mem_replicate hq]
    exact (BRow.nil w).br
theorem OpnAt.below {w w' : World} {G k : Nat} (h : OpnAt w G k) (hb : Below w.heap.size w w') : OpnAt w' G k := by
  obtain ⟨cs, h1, h2⟩ := h
  exact ⟨cs, (hb.block _ (Array.getElem?_eq_some_iff.1 h1).1).trans h1, h2⟩
theorem opn_put {cs : Array Value} (k : Nat) (hs : cs.size = 24582) (hk : k < 4097) (h3 : ∀ j, j < k → ∀ i x, (stC opnQ)[i]? = some x → cs[j * 6 + i]? = some x) (j : Nat) (hj : j < k + 1) (i : Nat) (x : Value) (hx : (stC opnQ)[i]? = some x) :
    ((((((cs.setIfInBounds (k * 6) (.int .i64 2)).setIfInBounds (k * 6 + 1) (.int .u64 0)).setIfInBounds (k * 6 + 2) (.int .i64 0)).setIfInBounds (k * 6 + 3) (.int .u64 0)).setIfInBounds (k * 6 + 4) (.int .u64 0)).setIfInBounds (k * 6 + 5) (.slice none 0 0))[j * 6 + i]? = some x := by
  have hi : i < 6 := by
    rcases Nat.lt_or_ge i 6 with h | h
    · exact h
    · rw [List.getElem?_eq_none (by show 6 ≤ i; exact h)] at hx; cases hx
  by_cases e : j = k
  · subst e
    have b0 : j * 6 < 24582 := by omega
    have b1 : j * 6 + 1 < 24582 := by omega
    have b2 : j * 6 + 2 < 24582 := by omega
    have b3 : j * 6 + 3 < 24582 := by omega
    have b4 : j * 6 + 4 < 24582 := by omega
    have b5 : j * 6 + 5 < 24582 := by omega
    match i, hi, hx with
    | 0, _, hx => cases hx; simp [Array.getElem?_setIfInBounds, hs, b0]; rfl
    | 1, _, hx => cases hx; simp [Array.getElem?_setIfInBounds, hs, b1]; rfl
    | 2, _, hx => cases hx; simp [Array.getElem?_setIfInBounds, hs, b2]; rfl
    | 3, _, hx => cases hx; simp [Array.getElem?_setIfInBounds, hs, b3]; rfl
    | 4, _, hx => cases hx; simp [Array.getElem?_setIfInBounds, hs, b4]; rfl
    | 5, _, hx => cases hx; simp [Array.getElem?_setIfInBounds, hs, b5]; rfl
  · have h4 := h3 j (by omega) i x hx
    rw [Array.getElem?_setIfInBounds, if_neg (by omega), Array.getElem?_setIfInBounds, if_neg (by omega), Array.getElem?_setIfInBounds, if_neg (by omega), Array.getElem?_setIfInBounds, if_neg (by omega), Array.getElem?_setIfInBounds, if_neg (by omega), Array.getElem?_setIfInBounds, if_neg (by omega)]
    exact h4
theorem opn_wr : ∀ n k : Nat, Sc.wr ((List.replicate n Sc.opn).take k) = some ((List.replicate (min k n) ([111, 112, 101, 110, 10] : List UInt8)).flatten) := fun n k => by
  rw [List.take_replicate]; exact Sc.wr_opn _
theorem walkSB (a : Int) (w : World) (hwf : (Lit.int .i64 a).wf = true) (hk : KX w) :
    Calls Tryz.prog 8 #[.int .i64 a] w fun e w' => e = .returned (.bool true) ∧ Below w.heap.size w w' := by
  obtain ⟨i0, hi, hz0, hz1, hz2⟩ := info_parts (show (Tryz.prog.info? 26).map (fun i => (i.zero, i.size, i.bytes)) = some (some (.agg #[.int .i64 0, .int .u64 0, .int .i64 0, .int .u64 0, .int .u64 0, .slice none 0 0]), 6, 64) by kernel_rfl)
  have HB := Lib.hid (Below.refl w.heap.size w)
  have HK := Lib.hid hk
  have KN := Lib.hid sc_num
  have KWK := Lib.hid (sc_works w hk.tabs hk.ml)
  clear hk
  by_cases h0 : a < 0
  · clear hi hz0 hz1 hz2
    go_enter Tryz.func8, Tryz.ntmps8
    go_wp2_with fail
    refine KWK.out.mono ?_
    rintro e w2 ⟨rfl, hb⟩
    go_wp2_with fail
    go_ret
    exact ⟨rfl, hb⟩
  by_cases h20 : 20 < a
  · clear hi hz0 hz1 hz2
    go_enter Tryz.func8, Tryz.ntmps8
    go_wp2_with fail
    refine KWK.out.mono ?_
    rintro e w2 ⟨rfl, hb⟩
    go_wp2_with fail
    go_ret
    exact ⟨rfl, hb⟩
  obtain ⟨A, rfl⟩ : ∃ A : Nat, a = (A : Int) := ⟨a.toNat, by omega⟩
  have hA : A ≤ 20 := by omega
  clear hwf KWK
  obtain ⟨w1, hmk0, hown, hgrow⟩ := run_make_full (P := Tryz.prog) w w.heap.size 53 26 i0 (.agg #[.int .i64 0, .int .u64 0, .int .i64 0, .int .u64 0, .int .u64 0, .slice none 0 0]) 6 Tryz.underlying53 hi hz0 hz1 .i64 .i64 4097 (by rw [hz2]; omega) (by unfold maxLen; omega) (Nat.le_refl _)
  have hmk : (Instr.makeSlice 53 (.int .i64 4097) (.int .i64 4097)).run Tryz.prog w = .ok (.slice (some ⟨w.heap.size, 0, none⟩) 4097 4097) w1 := hmk0
  obtain ⟨G, hG⟩ : ∃ z, w.heap.size = z := ⟨_, rfl⟩
  have hb1 : Below w.heap.size w w1 := (Below.refl _ _).grown hgrow (Nat.le_refl _) (fun k hk => by simp at hk)
  rw [hG] at hmk hown hb1
  have hop : OpnAt w1 G 0 := by
    rcases hown.2 with ⟨h, _⟩ | ⟨g, cap, cur, h, _, hg, _, _, hs, _⟩
    · cases h
    · cases h
      exact ⟨cur, hg, hs, fun j hj => absurd hj (Nat.not_lt_zero _)⟩
  have HOP := Lib.hid hop
  have HB1 := Lib.hid hb1
  have HG := Lib.hid hG
  clear hmk0 hown hgrow hb1 hG hi hz0 hz1 hz2 hop
  go_enter Tryz.func8, Tryz.ntmps8
  go_wp2_with fail
  clear hmk
  go_loopw [4] (fun i wr => ∃ k : Nat, k ≤ 4097 ∧ i = .int .i64 k ∧ OpnAt wr G k ∧ Below G w wr) (fun i _ => 4097 - (intOf i).toNat)
  case atStart => exact ⟨0, Nat.zero_le _, rfl, HOP.out, HB1.out⟩
  case round =>
    obtain ⟨k, hk, rfl, hop, hbl⟩ := hrel
    have HOPK := Lib.hid hop
    have HBL := Lib.hid hbl
    clear hop hbl
    by_cases hlt : k < 4097
    · have hI : (k : Int) < 4097 := by omega
      obtain ⟨cs, h1, h2, h3⟩ := HOPK.out
      have hcell : ∀ m, m < 24582 → ∃ v, wr.cell? ⟨G, m, none⟩ = some v := fun m hm => ⟨cs[m]'(by omega), by simp [World.cell?, h1, Array.getElem?_eq_getElem (show m < cs.size by omega)]⟩
      obtain ⟨v0, c0⟩ := hcell (k * 6) (by omega)
      obtain ⟨v1, c1⟩ := hcell (k * 6 + 1) (by omega)
      obtain ⟨v2, c2⟩ := hcell (k * 6 + 2) (by omega)
      obtain ⟨v3, c3⟩ := hcell (k * 6 + 3) (by omega)
      obtain ⟨v4, c4⟩ := hcell (k * 6 + 4) (by omega)
      obtain ⟨v5, c5⟩ := hcell (k * 6 + 5) (by omega)
      have fz : ∀ m, wr.frozen? ⟨G, m, none⟩ = false := fun m => frozen_of_row _ _ _ _ _ h1
      have z0 := fz (k * 6)
      have z1 := fz (k * 6 + 1)
      have z2 := fz (k * 6 + 2)
      have z3 := fz (k * 6 + 3)
      have z4 := fz (k * 6 + 4)
      have z5 := fz (k * 6 + 5)
      have HP := Lib.hid (opn_put k h2 hlt h3)
      have H1 := Lib.hid h1
      have H2 := Lib.hid h2
      clear hcell fz h1 h2 h3
      go_wp2_with fail
      obtain ⟨W, hW⟩ : ∃ z, (((((wr.setCell ⟨G, k * 6, none⟩ (.int .i64 2)).setCell ⟨G, k * 6 + 1, none⟩ (.int .u64 0)).setCell ⟨G, k * 6 + 2, none⟩ (.int .i64 0)).setCell ⟨G, k * 6 + 3, none⟩ (.int .u64 0)).setCell ⟨G, k * 6 + 4, none⟩ (.int .u64 0)).setCell ⟨G, k * 6 + 5, none⟩ (.slice none 0 0) = z := ⟨_, rfl⟩
      rw [hW]
      have HOW := Lib.hid (show OpnAt W G (k + 1) by
        have e1 := heap_setCell_same wr G (k * 6) _ _ (.int .i64 2) H1.out
        have e2 := heap_setCell_same _ G (k * 6 + 1) _ _ (.int .u64 0) e1
        have e3 := heap_setCell_same _ G (k * 6 + 2) _ _ (.int .i64 0) e2
        have e4 := heap_setCell_same _ G (k * 6 + 3) _ _ (.int .u64 0) e3
        have e5 := heap_setCell_same _ G (k * 6 + 4) _ _ (.int .u64 0) e4
        have e6 := heap_setCell_same _ G (k * 6 + 5) _ _ (.slice none 0 0) e5
        rw [hW] at e6
        exact ⟨_, e6, by simp [H2.out], HP.out⟩)
      have HBW := Lib.hid (show Below G w W by
        rw [← hW]
        exact (((((HBL.out.setCell (p := ⟨G, k * 6, none⟩) (Nat.le_refl _) _).setCell (p := ⟨G, k * 6 + 1, none⟩) (Nat.le_refl _) _).setCell (p := ⟨G, k * 6 + 2, none⟩) (Nat.le_refl _) _).setCell (p := ⟨G, k * 6 + 3, none⟩) (Nat.le_refl _) _).setCell (p := ⟨G, k * 6 + 4, none⟩) (Nat.le_refl _) _).setCell (p := ⟨G, k * 6 + 5, none⟩) (Nat.le_refl _) _)
      clear hW c0 c1 c2 c3 c4 c5 z0 z1 z2 z3 z4 z5
      go_roundw
      case rel => exact ⟨k + 1, hlt, by go_num, HOW.out, HBW.out⟩
      case measure => simp [intOf]; omega
    · have hI : ¬ (k : Int) < 4097 := by omega
      have HOE := Lib.hid (show OpnAt wr G 4097 by have h := HOPK.out; rwa [show k = 4097 by omega] at h)
      have HB := Lib.hid (show Below w.heap.size w wr by rw [HG.out]; exact HBL.out)
      have HK := Lib.hid (HK.out.below HB.out)
      obtain ⟨sb, hsb⟩ : ∃ z : ByteArray, (⟨((List.replicate 4096 ([111, 112, 101, 110, 10] : List UInt8)).flatten).toArray⟩ : ByteArray) = z := ⟨_, rfl⟩
      have HSB := Lib.hid (show sb.data.toList = (List.replicate 4096 ([111, 112, 101, 110, 10] : List UInt8)).flatten by rw [← hsb])
      have hsz : sb.size = 20480 := by
        have h1 := Sc.opn_len 4096
        have h2 : sb.data.toList.length = sb.size := by simp
        rw [HSB.out] at h2
        omega
      have hq : ∀ n, ∀ q ∈ List.replicate n opnQ, q.1.ok ∧ q.1.bytes.length ≤ 10000 := fun n q hq => by
        rw [List.eq_of_mem_replicate hq]; exact ⟨Sc.opn_ok, by decide⟩
      have hmap : ∀ n, (List.replicate n opnQ).map (·.1) = List.replicate n Sc.opn := fun n => by rw [List.map_replicate]; rfl
      have hlen : ∀ n k s, k ≤ 4096 → Sc.wr (((List.replicate n opnQ).map (·.1)).take k) = some s → s.length ≤ 900000 := fun n k s hk h => by
        rw [hmap, opn_wr] at h
        cases h
        rw [Sc.opn_len]
        omega
      have K1 := sc_Write (.slice (some ⟨G, 0, none⟩) 4096 4097) (List.replicate 4096 opnQ) wr (HOE.out.stsIn 4096 4097 (by omega)) (hq 4096) (by rw [List.length_replicate]; omega) (hlen 4096) HK.out.tabs
      have ho1 : wrOut ((List.replicate 4096 opnQ).map (·.1)) = .tuple #[.string sb, .int .i64 0] := by
        unfold wrOut
        rw [hmap, if_neg (by rw [List.length_replicate]; omega), Sc.wr_opn, ← hsb]
      have ho2 : wrOut ((List.replicate 4097 opnQ).map (·.1)) = .tuple #[.string ⟨#[]⟩, .int .i64 3] := by
        unfold wrOut
        rw [hmap, if_pos (by rw [List.length_replicate]; omega)]
      rw [ho1] at K1
      have K1 := Lib.hid K1
      have K2 := Lib.hid (fun W (hb : Below wr.heap.size wr W) => ho2 ▸ sc_Write (.slice (some ⟨G, 0, none⟩) 4097 4097) (List.replicate 4097 opnQ) W ((HOE.out.below hb).stsIn 4097 4097 (by omega)) (hq 4097) (by rw [List.length_replicate]; omega) (hlen 4097) (HK.out.below hb).tabs)
      clear hsb hq hmap hlen ho1 ho2
      go_wp2_with fail
      refine K1.out.mono ?_
      rintro e w2 ⟨rfl, hb2⟩
      have HC2 := Lib.hid hb2
      have HK := Lib.hid (HK.out.below hb2)
      have HB := Lib.hid (HB.out.trans (hb2.mono HB.out.size))
      have K2 := Lib.hid (K2.out w2 hb2)
      clear hb2 K1
      go_wp2_with fail
      refine K2.out.mono ?_
      rintro e w3 ⟨rfl, hb3⟩
      have HK := Lib.hid (HK.out.below hb3)
      have HB := Lib.hid (HB.out.trans (hb3.mono HB.out.size))
      clear hb3 K2
      go_wp2_with fail
      obtain ⟨wo, hwo⟩ : ∃ wo : World, wo = w3 := ⟨_, rfl⟩
      rw [← hwo]
      rw [← hwo] at HK HB
      clear hwo
      go_loopw [9, 10] (fun t i wq => ∃ (j : Nat) (lb : ByteArray), j ≤ A ∧ i = .int .i64 j ∧ t = .string lb ∧ lb.data.toList = List.replicate j 10 ∧ wq = wo) (fun _ i _ => A - (intOf i).toNat)
      case atStart => exact ⟨0, ⟨#[]⟩, Nat.zero_le _, rfl, rfl, rfl, rfl⟩
      case round =>
        obtain ⟨j, lb, hj, rfl, rfl, hlb, hw⟩ := hrel
        subst hw
        have HLB := Lib.hid hlb
        have hls : lb.size = j := by
          have h2 : lb.data.toList.length = lb.size := by simp
          rw [hlb, List.length_replicate] at h2
          omega
        clear hlb
        by_cases hja : j < A
        · have hI2 : (j : Int) < (A : Int) := by omega
          have HL2 := Lib.hid (show (lb ++ (⟨#[10]⟩ : ByteArray)).data.toList = List.replicate (j + 1) 10 by
            rw [List.replicate_succ', ← HLB.out]; simp)
          go_wp2_with fail
          go_roundw
          case rel => exact ⟨j + 1, _, hja, by go_num, rfl, HL2.out, trivial⟩
          case measure => simp [intOf]; omega
        · have hI2 : ¬ (j : Int) < (A : Int) := by omega
          obtain rfl : j = A := by omega
          obtain ⟨b1, hb1⟩ : ∃ z : ByteArray, lb ++ sb = z := ⟨_, rfl⟩
          obtain ⟨b2, hb2⟩ : ∃ z : ByteArray, (lb ++ sb) ++ (⟨#[111, 112, 101, 110]⟩ : ByteArray) = z := ⟨_, rfl⟩
          obtain ⟨b3, hb3⟩ : ∃ z : ByteArray, (lb ++ sb) ++ (⟨#[120, 10, 111, 112, 101, 110]⟩ : ByteArray) = z := ⟨_, rfl⟩
          have d1 : Sc.read b1.data.toList = (List.replicate 4096 Sc.opn, 0, 0) := by
            rw [← hb1, ← Sc.read_opn0 j, ← HSB.out, ← HLB.out]; simp
          have d2 : Sc.read b2.data.toList = ([], j + 4096, 3) := by
            rw [← hb2, ← Sc.read_opn1 j, ← HSB.out, ← HLB.out]; simp
          have d3 : Sc.read b3.data.toList = ([], j + 4096, 390) := by
            rw [← hb3, ← Sc.read_opn2 j, ← HSB.out, ← HLB.out]; simp
          have s1 : b1.size ≤ 50000 := by rw [← hb1, ByteArray.size_append]; omega
          have s2 : b2.size ≤ 50000 := by rw [← hb2, ByteArray.size_append, ByteArray.size_append]; have : (⟨#[111, 112, 101, 110]⟩ : ByteArray).size = 4 := rfl; omega
          have s3 : b3.size ≤ 50000 := by rw [← hb3, ByteArray.size_append, ByteArray.size_append]; have : (⟨#[120, 10, 111, 112, 101, 110]⟩ : ByteArray).size = 6 := rfl; omega
          have K1 := fun W h1 h2 => sc_Read b1 W s1 h1 h2
          have K2 := fun W h1 h2 => sc_Read b2 W s2 h1 h2
          have K3 := fun W h1 h2 => sc_Read b3 W s3 h1 h2
          rw [d1] at K1
          rw [d2] at K2
          rw [d3] at K3
          have K1 := Lib.hid K1
          have K2 := Lib.hid K2
          have K3 := Lib.hid K3
          have H1 := Lib.hid hb1
          have H2 := Lib.hid hb2
          have H3 := Lib.hid hb3
          clear hb1 hb2 hb3 d1 d2 d3 s1 s2 s3

          go_wp2_with fail
          rw [H1.out]
          refine (K1.out _ HK.out.tabs HK.out.ml).mono ?_
          rintro e w4 ⟨v4, rfl, hrow, hb⟩
          obtain ⟨p4, c4, rfl⟩ : ∃ p c, v4 = .slice p 4096 c := by
            obtain ⟨qs, h1, ⟨p, c, h2, _⟩, _⟩ := hrow.stsIn
            have h3 : qs.length = 4096 := by rw [← List.length_map (f := (·.1)), h1, List.length_replicate]
            rw [h3] at h2
            exact ⟨p, c, h2⟩
          have HK := Lib.hid (HK.out.below hb)
          have HB := Lib.hid (HB.out.trans (hb.mono HB.out.size))
          clear hb hrow
          go_wp2_with fail
          rw [H2.out]
          refine (K2.out _ HK.out.tabs HK.out.ml).mono ?_
          rintro e w5 ⟨v5, rfl, _, hb⟩
          have HK := Lib.hid (HK.out.below hb)
          have HB := Lib.hid (HB.out.trans (hb.mono HB.out.size))
          clear hb
          go_wp2_with fail
          rw [H3.out]
          refine (K3.out _ HK.out.tabs HK.out.ml).mono ?_
          rintro e w6 ⟨v6, rfl, _, hb⟩
          have HK := Lib.hid (HK.out.below hb)
          have HB := Lib.hid (HB.out.trans (hb.mono HB.out.size))
          clear hb
          have KWK := Lib.hid (sc_works w6 HK.out.tabs HK.out.ml)
          have e1 : (((j + 4096 : Nat) : Int) == 4096 + (j : Int)) = true := by rw [beq_iff_eq]; omega
          go_wp2_with fail
          iterate 5 (refine (KN.out _ _).mono ?_; rintro e w' ⟨rfl, hw⟩; subst w'; go_wp2_with fail)
          refine KWK.out.mono ?_
          rintro e w7 ⟨rfl, hb⟩
          have HB := Lib.hid (HB.out.trans (hb.mono HB.out.size))
          clear hb
          go_wp2_with fail
          go_ret
          exact ⟨rfl, HB.out⟩

end Go.Proofs.YtbaakfcbakpmpaaGreatDoor
