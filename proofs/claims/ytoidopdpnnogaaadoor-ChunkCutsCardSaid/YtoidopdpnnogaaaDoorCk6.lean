/- The program's chunks: Last. -/
import Derived.Test.YtoidopdpnnogaaaDoorCk5
import Derived.Lib.SmallJoins
namespace Go.Proofs.YtoidopdpnnogaaaDoor
set_option linter.unusedVariables false
set_option linter.unusedSimpArgs false
open Go.RowKit Go.Shelf
set_option maxHeartbeats 2000000
set_option maxRecDepth 100000 in
theorem ck_last (w : World) :
    Calls Tryd.prog 51 #[] w fun e w' => ∃ r, e = .returned r ∧ BRow w' r [48, 13, 10, 13, 10] ∧ Below w.heap.size w w' := by
  obtain ⟨B, hB⟩ : ∃ B, w.heap.size = B := ⟨_, rfl⟩
  obtain ⟨W0, hW0⟩ : ∃ W0, w.alloc (.cells #[.slice none 0 0] 142) = W0 := ⟨_, rfl⟩
  obtain ⟨W1, hW1⟩ : ∃ W1, W0.alloc (.cells #[.int .u8 48] 5 (1, 1 + 1)) = W1 := ⟨_, rfl⟩
  obtain ⟨W5, hW5⟩ : ∃ W5, W1.alloc (.cells #[.slice (some ⟨B + 1, 0, none⟩) 1 1] 22) = W5 := ⟨_, rfl⟩
  have s0 : W0.heap.size = B + 1 := by rw [← hW0, ← hB]; exact Array.size_push ..
  have s1 : W1.heap.size = B + 1 + 1 := by rw [← hW1, ← s0]; exact Array.size_push ..
  have HBU : Hid (BufAt W0 B 142 (.slice none 0 0)) := Lib.hid (by rw [← hW0, ← hB]; exact Boxed.new w _ _)
  have HBW : Hid (Below B w W0) := Lib.hid (by rw [← hW0, ← hB]; exact (Below.refl _ w).alloc (Nat.le_refl _) _)
  have HS1 : Hid (BRow W1 (.slice (some ⟨B + 1, 0, none⟩) 1 1) [48]) := Lib.hid ⟨_, 1, rfl, Nat.le_refl _, .inr ⟨B + 1, 0, rfl, fun j hj => by
    obtain rfl : j = 0 := by simpa using hj
    rw [← hW1, ← s0]
    exact Joins.cell_alloc_mark_at W0 #[.int .u8 48] _ _ _ 0 rfl⟩⟩
  have HP5 : Hid (BRows W5 (.slice (some ⟨B + 1 + 1, 0, none⟩) 1 1) [[48]]) := Lib.hid (by rw [← hW5]; exact brows_one HS1.out s1.symm)
  have HB5 : Hid (Below W0.heap.size W0 W5) := Lib.hid (by
    rw [← hW5, ← hW1]
    have h1 : Below W0.heap.size W0 (W0.alloc (.cells #[.int .u8 48] 5 (1, 1 + 1))) := (Below.refl _ W0).alloc (Nat.le_refl _) _
    exact h1.alloc h1.size _)
  have hKlt : B < W0.heap.size := lt_of_cell HBU.out.cell
  have C1 := Lib.hid (ck_line B 142 (.slice none 0 0) (.slice (some ⟨B + 1 + 1, 0, none⟩) 1 1) [] [[48]] W5 ((HB5.out.block B hKlt).trans HBU.out) (BRow.nil _) HP5.out (fun p hp => by rw [List.mem_singleton.1 hp]; decide) (by decide) (by decide))

  have EB := Lib.hid hB
  have E0 := Lib.hid hW0
  have E1 := Lib.hid hW1
  have E5 := Lib.hid hW5
  have ES := Lib.hid s0
  have ES1 := Lib.hid s1
  clear hB hW0 hW1 hW5 s0 s1 hKlt
  have kc := fun (o : Obj) (C : Array Value) (n c : Nat) => Joins.run_convert_bytes_const_at (P := Tryd.prog) (w.alloc o) 22 5 C n c (w.heap.size + 1) (by simp) Tryd.underlying22 Tryd.underlying5
  go_enter Tryd.func51, Tryd.ntmps51
  go_wp2_with fail
  rw [EB.out, E0.out, E1.out, E5.out]
  refine C1.out.mono ?_
  rintro e w6 ⟨rfl, v6, hbu6, hrow6, hgr6⟩
  have HBU6 := Lib.hid hbu6
  have HROW6 := Lib.hid hrow6
  have HGR6 := Lib.hid hgr6
  clear hbu6 hrow6 hgr6
  have hW05 : B ≤ W0.heap.size := by have := ES.out; omega
  have hB5s : B ≤ W5.heap.size := Nat.le_trans hW05 HB5.out.size
  have HB6 : Hid (Below B w w6) := Lib.hid ((HBW.out.trans (HB5.out.mono hW05)).grown HGR6.out hB5s (fun k e => by cases e; exact Nat.le_refl _))
  have HS6 : Hid (B ≤ w6.heap.size) := Lib.hid (Nat.le_trans hB5s HGR6.out.size)
  clear hW05 hB5s
  have C2 := Lib.hid (ck_line B 142 v6 (.slice none 0 0) _ [] w6 HBU6.out HROW6.out (brows_none _) (fun p hp => by cases hp) (by decide) (by simp))
  go_wp2_with fail
  refine C2.out.mono ?_
  rintro e w8 ⟨rfl, v8, hbu8, hrow8, hgr8⟩
  have c8 := hbu8.cell
  have HROW8 := Lib.hid hrow8
  have HGR8 := Lib.hid hgr8
  clear hbu8 hrow8 hgr8
  go_wp2
  go_ret
  rw [EB.out]
  exact ⟨_, rfl, HROW8.out, HB6.out.grown HGR8.out HS6.out (fun k e => by cases e; exact Nat.le_refl _)⟩
end Go.Proofs.YtoidopdpnnogaaaDoor
