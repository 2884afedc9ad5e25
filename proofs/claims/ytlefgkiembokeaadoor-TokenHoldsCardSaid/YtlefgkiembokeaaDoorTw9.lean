/- The reader of quoted texts: one byte taken. -/
import Derived.Test.YtlefgkiembokeaaDoorTw7
namespace Go.Proofs.YtlefgkiembokeaaDoor
set_option linter.unusedVariables false
set_option linter.unusedSimpArgs false
open Go.RowKit Go.Shelf
set_option maxHeartbeats 1000000
namespace Tp
/-- the state behind a byte: within quotes, behind a backslash -/
def stQ (q b : Bool) (c : Int) : Bool := if b then q else if q && c == 92 then q else if c == 34 then !q else q
def stB (q b : Bool) (c : Int) : Bool := if b then false else q && c == 92
/-- whether the byte is outside -/
def stR (q b : Bool) (c : Int) : Bool := if b then false else if q && c == 92 then false else if c == 34 then q else !q
end Tp
/-- the reader's three cells -/
def RS (w : World) (B : Nat) (s : ByteArray) (q b : Bool) : Prop := w.heap[B]? = some (.cells #[.string s, .bool q, .bool b] 117 (0, 0))
theorem RS.c0 {w : World} {B : Nat} {s : ByteArray} {q b : Bool} (h : RS w B s q b) : w.cell? ⟨B, 0, none⟩ = some (.string s) := by unfold RS at h; simp [World.cell?, h]
theorem RS.c1 {w : World} {B : Nat} {s : ByteArray} {q b : Bool} (h : RS w B s q b) : w.cell? ⟨B, 1, none⟩ = some (.bool q) := by unfold RS at h; simp [World.cell?, h]
theorem RS.c2 {w : World} {B : Nat} {s : ByteArray} {q b : Bool} (h : RS w B s q b) : w.cell? ⟨B, 2, none⟩ = some (.bool b) := by unfold RS at h; simp [World.cell?, h]
theorem RS.f {w : World} {B : Nat} {s : ByteArray} {q b : Bool} (h : RS w B s q b) (j : Nat) : w.frozen? ⟨B, j, none⟩ = false := frozen_of_row _ _ _ _ _ h
theorem RS.set1 {w : World} {B : Nat} {s : ByteArray} {q b : Bool} (h : RS w B s q b) (x : Bool) : RS (w.setCell ⟨B, 1, none⟩ (.bool x)) B s x b := heap_setCell_same _ _ _ _ _ _ h
theorem RS.set2 {w : World} {B : Nat} {s : ByteArray} {q b : Bool} (h : RS w B s q b) (x : Bool) : RS (w.setCell ⟨B, 2, none⟩ (.bool x)) B s q x := heap_setCell_same _ _ _ _ _ _ h
theorem RS.below {w w' : World} {B : Nat} {s : ByteArray} {q b : Bool} (h : RS w B s q b) (hb : Below w.heap.size w w') (hB : B < w.heap.size) : RS w' B s q b := (hb.block B hB).trans h
/-- a write into the block B, or none -/
def Touch (B : Nat) (w w' : World) : Prop := w' = w ∨ ∃ i v, w' = w.setCell ⟨B, i, none⟩ v
theorem Touch.below {B N : Nat} {w w' : World} (h : Touch B w w') (hN : N ≤ B) : Below N w w' := by
  rcases h with rfl | ⟨i, v, rfl⟩
  · exact Below.refl _ _
  · exact (Below.refl _ _).setCell hN _
theorem Touch.size {B : Nat} {w w' : World} (h : Touch B w w') : w'.heap.size = w.heap.size := by
  rcases h with rfl | ⟨i, v, rfl⟩
  · rfl
  · simp
theorem Touch.heap {B : Nat} {w w' : World} (h : Touch B w w') (k : Nat) (hk : k ≠ B) : w'.heap[k]? = w.heap[k]? := by
  rcases h with rfl | ⟨i, v, rfl⟩
  · rfl
  · exact heap_setCell_other _ _ _ _ hk
theorem tok_open (B : Nat) (s : ByteArray) (q b : Bool) (c : Int) (w : World) (h0 : 0 ≤ c) (h1 : c < 256) (h : RS w B s q b) :
    Calls Tryd.prog 93 #[.pointer (some ⟨B, 0, none⟩), .int .u8 c] w fun e w' => e = .returned (.bool (Tp.stR q b c)) ∧ RS w' B s (Tp.stQ q b c) (Tp.stB q b c) ∧ Touch B w w' := by
  have HR := Lib.hid h
  have hc1 := h.c1
  have hc2 := h.c2
  have hf1 := h.f 1
  have hf2 := h.f 2
  clear h
  cases b
  · cases q
    · by_cases hc : c = 34
      · have e1 : (c == 34) = true := beq_iff_eq.2 hc
        have e2 : (c == 92) = false := beq_eq_false_iff_ne.2 (by omega)
        clear hc
        go_enter Tryd.func93, Tryd.ntmps93
        go_wp2
        go_ret
        exact ⟨ret_bool (by simp [Tp.stR, e1]), by simpa [Tp.stQ, Tp.stB, e1] using HR.out.set1 true, .inr ⟨_, _, rfl⟩⟩
      · have e1 : (c == 34) = false := beq_eq_false_iff_ne.2 hc
        clear hc
        go_enter Tryd.func93, Tryd.ntmps93
        go_wp2
        go_ret
        exact ⟨ret_bool (by simp [Tp.stR, e1]), by simpa [Tp.stQ, Tp.stB, e1] using HR.out, .inl rfl⟩
    · by_cases hc : c = 34
      · have e1 : (c == 34) = true := beq_iff_eq.2 hc
        have e2 : (c == 92) = false := beq_eq_false_iff_ne.2 (by omega)
        clear hc
        go_enter Tryd.func93, Tryd.ntmps93
        go_wp2
        go_ret
        exact ⟨ret_bool (by simp [Tp.stR, e1, e2]), by simpa [Tp.stQ, Tp.stB, e1, e2] using HR.out.set1 false, .inr ⟨_, _, rfl⟩⟩
      · have e1 : (c == 34) = false := beq_eq_false_iff_ne.2 hc
        clear hc
        by_cases hd : c = 92
        · have e2 : (c == 92) = true := beq_iff_eq.2 hd
          clear hd
          go_enter Tryd.func93, Tryd.ntmps93
          go_wp2
          go_ret
          exact ⟨ret_bool (by simp [Tp.stR, e1, e2]), by simpa [Tp.stQ, Tp.stB, e1, e2] using HR.out.set2 true, .inr ⟨_, _, rfl⟩⟩
        · have e2 : (c == 92) = false := beq_eq_false_iff_ne.2 hd
          clear hd
          go_enter Tryd.func93, Tryd.ntmps93
          go_wp2
          go_ret
          exact ⟨ret_bool (by simp [Tp.stR, e1, e2]), by simpa [Tp.stQ, Tp.stB, e1, e2] using HR.out, .inl rfl⟩
  · go_enter Tryd.func93, Tryd.ntmps93
    go_wp2
    go_ret
    exact ⟨ret_bool (by simp [Tp.stR]), by simpa [Tp.stQ, Tp.stB] using HR.out.set2 false, .inr ⟨_, _, rfl⟩⟩
end Go.Proofs.YtlefgkiembokeaaDoor
