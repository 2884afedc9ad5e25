/- The iterators of layer 1 (decimal): a number's digits, from the lowest one on. -/
import Derived.Test.YtlefgkiembokeaaDoorRf
import Derived.Test.YtlefgkiembokeaaDoorKit
import Derived.Test.YtlefgkiembokeaaDoorDh
import Derived.Shelf.Abstract
import Derived.Shelf.RegionOpen
import Derived.OwnWalkIn
import Derived.TacticsInMore
import Derived.LoopNIn
import Derived.LoopIn
namespace Go.Proofs.YtlefgkiembokeaaDoor
set_option linter.unusedVariables false
set_option linter.unusedSimpArgs false
open Go.RowKit Go.Shelf
attribute [local go_sem] Oper.semAt_some
set_option maxHeartbeats 1000000
theorem lowest_in (F : Fence) (n : Nat) (h : F.fn 85) (hro : F.round = none) (u : Int) (w : World) :
    CallsIn F n Tryd.prog 85 #[.int .u64 u] w fun e w' => e = .returned (.func (.func 119) #[] #[.pointer (some ⟨w.heap.size, 0, none⟩)]) ∧ w' = w.alloc (.cells #[.int .u64 u] 23) := by
  refine callsIn_of_wp Tryd.func85 rfl h ?_ hro
  simp only [Tryd.ntmps85, List.size_toArray, List.length_cons, List.length_nil, Nat.reduceAdd, Nat.reduceSub, Array.replicate_succ, Array.replicate_zero, List.push_toArray, List.append_toArray, List.nil_append, List.cons_append]
  gi_wp2
  go_ret
  exact ⟨rfl, rfl⟩
/-- N digits: each but the last one has more behind it -/
def DigN (u N : Nat) : Prop := 1 ≤ N ∧ N ≤ 20 ∧ ∀ k, k < N → (9 < u / 10 ^ k ↔ k + 1 < N)
theorem lowest1_it (F : Fence) (n : Nat) (h : F.fn 119) (hro : F.round = none) (hn : 1 ≤ n) (u N B : Nat) (own : Nat → Prop) (Kp : World → World → Prop) (hB : own B) (hKp : ∀ X Y, Kp X Y → Keep own X Y)
    (hN : DigN u N) (hu : u < 18446744073709551616) (W : World) (hW : Boxed W B 23 (.int .u64 u)) :
    IterAt F n Tryd.prog 119 #[.pointer (some ⟨B, 0, none⟩)] (fun k => #[.int .i64 k, .int .u8 (((u / 10 ^ k : Nat) : Int) % 10)]) N own Kp W := by
  intro l J Jx hJ hJx hY h0
  refine callsIn_of_wp Tryd.func119 rfl h ?_ hro
  simp only [Tryd.ntmps119, List.size_toArray, List.length_cons, List.length_nil, Nat.reduceAdd, Nat.reduceSub, Array.replicate_succ, Array.replicate_zero, List.push_toArray, List.append_toArray, List.nil_append, List.cons_append]
  gi_wp2
  gi_loopw [3] (fun i wr => ∃ k : Nat, k < N ∧ i = .int .i64 k ∧ J k wr ∧ Boxed wr B 23 (.int .u64 (u / 10 ^ k : Nat))) (fun i _ => N - (intOf i).toNat)
  case atStart => exact ⟨0, hN.1, rfl, h0, by simpa using hW⟩
  case round =>
    obtain ⟨k, hk, rfl, hj, hb⟩ := hrel
    have hc := hb.cell
    have hf := hb.frozen
    obtain ⟨fn, tmps, assign, body, hy, hR⟩ := hY k wr hk hj
    have h9 := hN.2.2 k hk
    have h20 := hN.2.1
    obtain ⟨v, hv⟩ : ∃ v, u / 10 ^ k = v := ⟨_, rfl⟩
    have hvu : v < 18446744073709551616 := by rw [← hv]; exact Nat.lt_of_le_of_lt (Nat.div_le_self _ _) hu
    rw [hv] at hc hy h9 hb
    have HV := Lib.hid hv
    have HB := Lib.hid hb
    have H9 := Lib.hid h9
    clear hv hb h9
    gi_wp2
    refine hR.mono ?_
    rintro e Y (⟨rfl, hj', hkp, _⟩ | ⟨rfl, hjx, _⟩)
    · have hbY : Boxed Y B 23 (.int .u64 (v : Int)) := (hKp _ _ hkp B hB).trans HB.out
      have hcY := hbY.cell
      have hfY := hbY.frozen
      have HBY := Lib.hid hbY
      clear hc hf hy hbY
      by_cases hm : 9 < v
      · gi_wp2
        go_roundw
        case rel =>
          refine ⟨k + 1, H9.out.1 hm, by go_num, hJ _ _ _ hj' (.setCell _ _ _ _ hB), ?_⟩
          have e1 : ((u / 10 ^ (k + 1) : Nat) : Int) = (v : Int) / 10 := by
            have := HV.out
            rw [Nat.pow_succ, ← Nat.div_div_eq_div_mul, this]
            rfl
          rw [e1]
          exact HBY.out.set _
        case measure => simp [intOf]; omega
      · gi_wp2
        go_end0
        have hkN : k + 1 = N := by
          have := H9.out
          have h3 : ¬ k + 1 < N := fun h => hm (this.2 h)
          omega
        exact ⟨⟨_, rfl⟩, .inl (hkN ▸ hj')⟩
    · gi_wp2
      go_end0
      exact ⟨⟨_, rfl⟩, .inr hjx⟩
theorem each1_it (u N B E : Nat) (Kp : World → World → Prop) (hKp : ∀ X Y, Kp X Y → Keep (fun b => E ≤ b ∧ b < E + 2) X Y)
    (hN : DigN u N) (hu : u < 18446744073709551616) (W : World) (hE : W.heap.size = E) (hW : Boxed W B 23 (.int .u64 u)) :
    IterAt Fence.wide 9 Tryd.prog 84 #[.pointer (some ⟨B, 0, none⟩)] (fun k => #[.int .i64 k, .int .u8 (((u / 10 ^ k : Nat) : Int) % 10)]) N (fun b => E ≤ b ∧ b < E + 2) Kp W := by
  intro l J Jx hJ hJx hY h0
  refine callsIn_of_wp_marks Tryd.func84 rfl trivial ?_ rfl
  simp only [Tryd.ntmps84, List.size_toArray, List.length_cons, List.length_nil, Nat.reduceAdd, Nat.reduceSub, Array.replicate_succ, Array.replicate_zero, List.push_toArray, List.append_toArray, List.nil_append, List.cons_append]

  have hBlt := hW.lt
  have hc := (hW.alloc (.cells #[.func (.yield l) #[] #[]] 104)).cell
  have LW := Lib.hid (fun X => lowest_in Fence.wide 8 trivial rfl (u : Int) X)
  gi_wp2_with fail
  refine wpW_scope ?_
  gi_step
  apply wpIn_label
  gi_wp2_with fail
  refine ⟨trivial, (LW.out _).mono ?_⟩
  rintro e w' ⟨rfl, rfl⟩
  have hBlt : B < E := by have := hW.lt; omega
  obtain ⟨W0, hW0⟩ : ∃ W0, (W.alloc (.cells #[.func (.yield l) #[] #[]] 104)).alloc (.cells #[.int .u64 (u : Int)] 23) = W0 := ⟨_, rfl⟩
  have hs0 : W0.heap.size = E + 2 := by rw [← hW0]; simp; omega
  have bY : Boxed W0 E 104 (.func (.yield l) #[] #[]) := by
    rw [← hW0, ← hE]; exact (Boxed.new W _ _).alloc _
  have bN : Boxed W0 (E + 1) 23 (.int .u64 (u : Int)) := by
    rw [← hW0, ← hE]; have := Boxed.new (W.alloc (.cells #[.func (.yield l) #[] #[]] 104)) 23 (.int .u64 (u : Int)); rwa [World.size_alloc] at this
  have j0 : J 0 W0 := by rw [← hW0]; exact hJ _ _ _ (hJ _ _ _ h0 (.alloc _ _)) (.alloc _ _)
  have hsz : (W.alloc (.cells #[.func (.yield l) #[] #[]] 104)).heap.size = E + 1 := by simp; omega
  rw [hsz, hW0]
  clear hW0 hsz hc
  gi_wp2_with fail
  refine rf_outer (N := N) (own := fun b => b = E + 1) (Kp := Keep (fun b => b = E + 1)) (encs := fun k => #[.int .i64 k, .int .u8 (((u / 10 ^ k : Nat) : Int) % 10)]) rfl (by omega) (gf := 119) (lb := #[.pointer (some ⟨E + 1, 0, none⟩)]) rfl trivial (enters_of Tryd.func119 (by kernel_rfl) rfl)
    (fun _ => rfl) (fun b hb => by omega)
    (fun X hX hs => lowest1_it Fence.wide 8 trivial rfl (by omega) u N (E + 1) (fun b => b = E + 1) (Keep (fun b => b = E + 1)) rfl (fun _ _ h => h) hN hu X ((hX.block _ (by omega)).trans bN))
    Keep.trans (fun X o o' h2 h3 => Keep.putObj _ _ _ (by omega))
    (fun k X => J k X ∧ Boxed X E 104 (.func (.yield l) #[] #[])) (fun c X => c = .exit 0 ∧ Jx X)
    (fun k X Y hs ht => ⟨hJ _ _ _ hs.1 (ht.mono (by omega) (fun b hb => by omega)), ht.boxed hs.2 (by omega)⟩)
    (fun c X Y hs ht => ⟨hs.1, hJx _ _ hs.2 (ht.mono (by omega) (fun b hb => by omega))⟩) ⟨j0, bY⟩
    (fun k b _ => b = { tmps := #[.func (.yield l) #[] #[], .pointer (some ⟨B, 0, none⟩), .pointer (some ⟨E, 0, none⟩), .int .i64 k, .int .u8 (((u / 10 ^ k : Nat) : Int) % 10), .int .u64 (u : Int), .func (.func 119) #[] #[.pointer (some ⟨E + 1, 0, none⟩)], .int .i64 k, .int .u8 (((u / 10 ^ k : Nat) : Int) % 10), undef, undef, undef, undef, undef], defers := [] })
    (fun _ _ _ _ hs _ => hs) ?assign ?body ?done ?stop
  case assign =>
    intro l' k X K hk hi hK
    gi_wp2
    exact hK _ _ (KeepsFrom.refl _ _) (fun _ _ => rfl) hi rfl
  case body =>
    rintro l' k b X hl' ⟨r, hr⟩ hk ⟨hj, hb⟩ rfl
    have cY := hb.cell
    obtain ⟨fn, tmps, assign, body, hy, hR⟩ := hY k X hk hj
    have hR' := roundIn_any 6 hR
    obtain ⟨d, hd⟩ : ∃ d : Int, (((u / 10 ^ k : Nat) : Int) % 10) = d := ⟨_, rfl⟩
    rw [hd] at hy ⊢
    clear hd hR
    gi_wp2
    refine RoundIn.mono (F := Fence.wide) hR' ?_
    rintro e Y (⟨rfl, hj', hkp, hkf⟩ | ⟨rfl, hjx, hkf⟩)
    · have hk1 := hKp _ _ hkp
      have hbY : Boxed Y E 104 (.func (.yield l) #[] #[]) := (hk1 E ⟨by omega, by omega⟩).trans hb
      gi_wp2
      exact ⟨⟨hkf.size, fun i o hi h1 h2 => hkf.same i o (by omega) h1 h2⟩, fun b hb => hk1 b (by omega), hj', hbY⟩
    · gi_wp2
      exact ⟨⟨hkf.size, fun i o hi h1 h2 => hkf.same i o (by omega) h1 h2⟩, rfl, hjx⟩
  case done =>
    rintro D X hD ⟨hj, _⟩ hK
    gi_wp2
    rw [Exit.noGoto_normal]
    refine ⟨by simp, .inl ⟨_, _, rfl, run_takeDeferred hK, ?_⟩⟩
    exact ⟨_, results_none rfl _ _ _, ⟨_, rfl⟩, .inl (hJ _ _ _ hj (.putObj _ (by omega) hK rfl))⟩
  case stop =>
    rintro D c X hD ⟨rfl, hjx⟩ hK
    gi_wp2
    rw [Exit.noGoto_normal]
    refine ⟨by simp, .inl ⟨_, _, rfl, run_takeDeferred hK, ?_⟩⟩
    exact ⟨_, results_none rfl _ _ _, ⟨_, rfl⟩, .inr (hJx _ _ hjx (.putObj _ (by omega) hK rfl))⟩
end Go.Proofs.YtlefgkiembokeaaDoor
