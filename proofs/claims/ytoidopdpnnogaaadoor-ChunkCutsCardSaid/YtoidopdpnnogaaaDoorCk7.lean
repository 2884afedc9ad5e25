/- Go's slices.Chunk over bytes. -/
import Derived.Test.YtoidopdpnnogaaaDoorCk1
import Derived.OwnWalkIn
import Derived.Deep.QuietTactic
import Derived.BigQuiet
import Derived.TacticsInMore
import Derived.LoopNIn
import Derived.LoopIn
namespace Go.Proofs.YtoidopdpnnogaaaDoor
set_option linter.unusedVariables false
set_option linter.unusedSimpArgs false
open Go.RowKit Go.Shelf
attribute [local go_sem] Oper.semAt_some
set_option maxHeartbeats 2000000
set_option maxRecDepth 100000 in
theorem sl_chunk (ao : Option Addr) (m c : Nat) (n : Int) (w : World) (hn : ¬ n < 1) (hn2 : n ≤ 1000000) :
    Calls Tryd.prog 53 #[.slice ao m c, .int .i64 n] w fun e w' => e = .returned (.func (.func 88) #[] #[.pointer (some ⟨w.heap.size, 0, none⟩), .pointer (some ⟨w.heap.size + 1, 0, none⟩)])
      ∧ w' = (w.alloc (.cells #[.slice ao m c] 22)).alloc (.cells #[.int .i64 n] 3) := by
  go_enter Tryd.func53, Tryd.ntmps53
  go_wp2
  go_ret
  exact ⟨rfl, rfl⟩
/-- n bytes at a time: N pieces -/
def PieN (len n N : Nat) : Prop := ∀ k, k * n < len ↔ k < N
theorem turn_drewN (B : Nat) (own : Nat → Prop) (W : World) (n : Nat) : Turn B own W (W.drewN n) := ⟨rfl, rfl, rfl, Nat.le_refl _, fun _ _ _ _ => rfl⟩
theorem chunk1_it (m : Nat) (g o len cap n N B C : Nat) (own : Nat → Prop) (Kp : World → World → Prop) (hB : ¬ own B) (hC : ¬ own C)
    (hKp : ∀ X Y, Kp X Y → Y.heap[B]? = X.heap[B]? ∧ Y.heap[C]? = X.heap[C]?) (hn : 1 ≤ n) (hn2 : n ≤ 1000000) (hl : len ≤ 1000000) (hlc : len ≤ cap) (hN : PieN len n N) (W : World)
    (hWB : Boxed W B 22 (.slice (some ⟨g, o, none⟩) len cap)) (hWC : Boxed W C 3 (.int .i64 n)) :
    IterAt Fence.wide m Tryd.prog 88 #[.pointer (some ⟨B, 0, none⟩), .pointer (some ⟨C, 0, none⟩)] (fun k => #[.slice (some ⟨g, o + k * n, none⟩) (min n (len - k * n)) (min n (len - k * n))]) N own Kp W := by
  intro l J Jx hJ hJx hY h0
  refine callsIn_of_wp Tryd.func88 rfl trivial ?_ rfl
  simp only [Tryd.ntmps88, List.size_toArray, List.length_cons, List.length_nil, Nat.reduceAdd, Nat.reduceSub, Array.replicate_succ, Array.replicate_zero, List.push_toArray, List.append_toArray, List.nil_append, List.cons_append]
  gi_wp2
  gi_loopw [4] (fun i wr => ∃ k : Nat, k ≤ N ∧ i = .int .i64 (k * n : Nat) ∧ J k wr ∧ Boxed wr B 22 (.slice (some ⟨g, o, none⟩) len cap) ∧ Boxed wr C 3 (.int .i64 n)) (fun i _ => len + n - (intOf i).toNat)
  case atStart => exact ⟨0, Nat.zero_le _, by simp, h0, hWB, hWC⟩
  case round =>
    obtain ⟨k, hk, rfl, hj, hb, hc⟩ := hrel
    have hcB := hb.cell
    have hcC := hc.cell
    obtain ⟨i, hi⟩ : ∃ i, k * n = i := ⟨_, rfl⟩
    have HI := Lib.hid hi
    rw [hi]
    have HN1 := Lib.hid (hN k)
    by_cases hlt : i < len
    · have hkN : k < N := (hN k).1 (by rw [hi]; exact hlt)
      have HJ := Lib.hid hj
      have HBX := Lib.hid hb
      have HCX := Lib.hid hc
      clear hi hj hb hc
      gi_wp2
      refine wpIn_wide.2 ?_
      go_quiet (fail)
      have HT := Lib.hid (turn_drewN W.heap.size own wr nq)
      obtain ⟨X, hX⟩ : ∃ X, wr.drewN nq = X := ⟨_, rfl⟩
      obtain ⟨e, he⟩ : ∃ e, min n (len - i) = e := ⟨_, rfl⟩
      have he2 : (min (n : Int) ((len - i : Nat) : Int)) = (e : Int) := by rw [← he]; omega
      have he3 : e ≤ len - i := by omega
      have he4 : 0 < e := by omega
      have he5 : (0 : Int) < e := by omega
      have he6 : i + e ≤ cap := by omega
      rw [hX] at HT ⊢
      rw [he2]
      have hJX := hJ _ _ _ HJ.out HT.out
      have hBX := HT.out.boxed HBX.out hB
      have hCX := HT.out.boxed HCX.out hC
      obtain ⟨fn, tmps, assign, body, hy, hR⟩ := hY k X hkN hJX
      rw [HI.out, he] at hy
      have HE := Lib.hid he
      clear he he2 hX hJX hcB hcC
      have hcB := hBX.cell
      have hcC := hCX.cell
      have HBX := Lib.hid hBX
      have HCX := Lib.hid hCX
      clear hBX hCX
      gi_wp2
      refine ⟨(fun h => by cases h), hR.mono ?_⟩
      rintro z Y (⟨rfl, hj', hkp, _⟩ | ⟨rfl, hjx, _⟩)
      · have hBY : Boxed Y B 22 (.slice (some ⟨g, o, none⟩) len cap) := (hKp _ _ hkp).1.trans HBX.out
        have hCY : Boxed Y C 3 (.int .i64 n) := (hKp _ _ hkp).2.trans HCX.out
        have hcBY := hBY.cell
        have hcCY := hCY.cell
        have HBY := Lib.hid hBY
        have HCY := Lib.hid hCY
        clear hBY hCY hcB hcC hy
        gi_wp2
        go_roundw
        case rel =>
          have h1 := HI.out
          exact ⟨k + 1, by omega, by rw [Nat.add_mul, h1]; simp, hj', HBY.out, HCY.out⟩
        case measure => simp [intOf]; omega
      · gi_wp2
        refine bodyPost_ret (results_none rfl _ _ _) rfl ?_
        exact ⟨⟨_, rfl⟩, .inr hjx⟩
    · clear hi
      gi_wp2
      go_end0
      have hkN : k = N := by
        have h1 := HN1.out
        have h2 := HI.out
        have h3 : ¬ k < N := fun h => hlt (by have := h1.2 h; omega)
        omega
      exact ⟨⟨_, rfl⟩, .inl (hkN ▸ hj)⟩
end Go.Proofs.YtoidopdpnnogaaaDoor
