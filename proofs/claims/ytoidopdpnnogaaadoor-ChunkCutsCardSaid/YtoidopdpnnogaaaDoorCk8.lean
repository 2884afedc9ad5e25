/- The program's chunks: Cut. Laws for a round's region that draws its order. -/
import Derived.Test.YtoidopdpnnogaaaDoorCk3
import Derived.Test.YtoidopdpnnogaaaDoorCk7
import Derived.OrdersIn
namespace Go.Proofs.YtoidopdpnnogaaaDoor
set_option linter.unusedVariables false
set_option linter.unusedSimpArgs false
open Go.RowKit Go.Shelf
attribute [local go_sem] Oper.semAt_some
set_option maxHeartbeats 2000000
/-! an operation of a round, out of the plain one -/
theorem op_round {P : Program} {l n : Nat} {o : Oper} {a : Act} {w : World} {K : Act → World → Prop} {Q : Exit → Act → World → Prop} (hd : ∀ c, o.op ≠ .defer c) (h : o.wp P a w K Q) :
    o.wpIn (Fence.wide.inRound l) n P a w K Q := by
  refine ⟨fun _ _ => trivial, ?_⟩
  rw [Fence.inRound_round, Oper.semAt_some l _ _ hd]
  unfold Oper.wp at h
  generalize (execOp a.eval o).run P w = r at h ⊢
  cases r with
  | ok x w' =>
    cases x <;> simp only [Oper.upon, Oper.uponIn] at h ⊢ <;>
      first
        | exact h
        | exact ⟨(fun e => by cases e), CallsIn.inRound l (callsIn_wide.2 h)⟩
        | exact ⟨(fun e => by cases e), fun c cs _ => let ⟨v, w', r, s⟩ := h c cs; ⟨v, w', r, stepsIn_wide.2 s⟩⟩
  | halt x w' => cases x <;> simp only [Oper.upon, Oper.uponIn] at h ⊢ <;> exact h
theorem ready_round {P : Program} {l n : Nat} {md : Region.Mode} {ops : Array Oper} {Q : Exit → Act → World → Prop} {fuel : Nat} {listed : Array Bool} {a : Act} {w : World} {i : Nat} {o : Oper} {rs : List Nat}
    (ho : ops[i]? = some o) (hg : o.guard = none) (hd : ∀ c, o.op ≠ .defer c)
    (h : ∀ K : Act → World → Prop, (∀ a w, wpAnyIn (Fence.wide.inRound l) n P md ops Q fuel (listed.setIfInBounds i true) a w → K a w) → o.wp P a w K Q)
    (hs : AllReadyIn (Fence.wide.inRound l) n P md ops Q fuel listed a w rs) : AllReadyIn (Fence.wide.inRound l) n P md ops Q fuel listed a w (i :: rs) :=
  AllReadyIn.cons ho (fun K hK => by rw [if_pos (by simp [Region.wanted, hg])]; exact op_round hd (h K hK)) hs
/-! rows of the call's own, under an iterator's turn -/
theorem cell_cells {W : World} {g o : Nat} {u : Value} (h : W.cell? ⟨g, o, none⟩ = some u) : ∀ x, W.heap[g]? = some x → x.isCells = true := by
  intro x hx
  simp only [World.cell?, hx] at h
  cases x <;> simp_all [Obj.isCells]
theorem turn_cell {B : Nat} {own : Nat → Prop} {W W' : World} {g o : Nat} {u : Value} (ht : Turn B own W W') (h : W.cell? ⟨g, o, none⟩ = some u) (hr : ¬ own g) : W'.cell? ⟨g, o, none⟩ = some u :=
  (World.cell?_of_block (a := ⟨g, o, none⟩) (ht.block g (lt_of_cell h) hr (fun _ x hx => cell_cells h x hx))).trans h
theorem turn_brow {B : Nat} {own : Nat → Prop} {W W' : World} {v : Value} {l : List UInt8} (ht : Turn B own W W') (h : BRow W v l) (hr : ∀ g, ¬ own g) : BRow W' v l := by
  obtain ⟨ao, cap, rfl, hc, h⟩ := h
  refine ⟨ao, cap, rfl, hc, ?_⟩
  rcases h with h | ⟨g, o, rfl, h⟩
  · exact .inl h
  · exact .inr ⟨g, o, rfl, fun j hj => turn_cell ht (h j hj) (hr g)⟩
theorem turn_own {B b : Nat} {own : Nat → Prop} {W W' : World} {e : TypeId} {size n : Nat} {v : Value} {xs : List Value} (ht : Turn B own W W') (h : W.ownsRow b e size v n xs) (hr : ∀ g, ¬ own g) : W'.ownsRow b e size v n xs := by
  refine ⟨h.1, ?_⟩
  rcases h.2 with h0 | ⟨g, cap, cur, rfl, hb, hg, rest⟩
  · exact .inl h0
  · exact .inr ⟨g, cap, cur, rfl, hb, ht.cells hg rfl (hr g), rest⟩
theorem own_apart {W : World} {b b' : Nat} {e e' : TypeId} {size size' n n' : Nat} {v x : Value} {xs ys : List Value} (he : e ≠ e') (h : W.ownsRow b e size v n xs) (h' : W.ownsRow b' e' size' x n' ys) : x.ownBlock = none ∨ x.ownBlock ≠ v.ownBlock := by
  rcases h'.2 with ⟨rfl, _⟩ | ⟨g', cap', cur', rfl, _, hg', _⟩
  · exact .inl rfl
  · right
    rcases h.2 with ⟨rfl, _⟩ | ⟨g, cap, cur, rfl, _, hg, _⟩
    · simp [Value.ownBlock]
    · intro e1
      simp only [Value.ownBlock, Option.some.injEq] at e1
      subst e1
      rw [hg] at hg'
      simp only [Option.some.injEq, Obj.cells.injEq] at hg'
      exact he hg'.2.1
theorem own_less {W : World} {b b' : Nat} {e : TypeId} {size n : Nat} {v : Value} {xs : List Value} (h : W.ownsRow b e size v n xs) (hb : b' ≤ b) : W.ownsRow b' e size v n xs :=
  ⟨h.1, h.2.elim .inl (fun ⟨g, cap, cur, hv, hg, r⟩ => .inr ⟨g, cap, cur, hv, Nat.le_trans hb hg, r⟩)⟩
theorem brow_piece {W : World} {g o n cap : Nat} {l : List UInt8} (h : BRow W (.slice (some ⟨g, o, none⟩) n cap) l) (i e : Nat) (he : i + e ≤ n) (m : Nat) (hm : e = min m (n - i)) : BRow W (.slice (some ⟨g, o + i, none⟩) e e) ((l.drop i).take m) := by
  obtain ⟨ao, c, h1, hc, h⟩ := h
  cases h1
  rcases h with ⟨h, _⟩ | ⟨g', o', h1, h⟩
  · cases h
  cases h1
  have hl : ((l.drop i).take m).length = e := by rw [List.length_take, List.length_drop]; omega
  refine ⟨some ⟨g, o + i, none⟩, e, by rw [hl], by omega, .inr ⟨g, o + i, rfl, fun j hj => ?_⟩⟩
  rw [hl] at hj
  have h2 := h (i + j) (by omega)
  rw [Nat.add_assoc, h2]
  congr 2
  rw [List.getD_eq_getElem?_getD, List.getD_eq_getElem?_getD, List.getElem?_take_of_lt (by omega), List.getElem?_drop]
set_option maxRecDepth 100000 in
theorem ck_clone2 (g o n cap : Nat) (l : List UInt8) (w : World) (h : BRow w (.slice (some ⟨g, o, none⟩) n cap) l) (hl : n ≤ 1000000) :
    Calls Tryd.prog 54 #[.slice (some ⟨g, o, none⟩) n cap] w fun e w' => ∃ r, e = .returned r ∧ w'.ownsRow w.heap.size 5 1 r n (l.map by8) ∧ Below w.heap.size w w' := by
  obtain ⟨i0, hi, hz0, hz1, hz2⟩ := info_parts info8
  obtain ⟨ao, cap', h1, hc, h⟩ := h
  cases h1
  rcases h with ⟨h, _⟩ | ⟨g', o', h1, h⟩
  · cases h
  cases h1
  have hq : ∀ W, (binOp BinOp.eql 22 (.slice (some ⟨g, o, none⟩) l.length cap) (.slice none 0 0)).run Tryd.prog W = .ok (.bool false) W := fun W => by kernel_rfl
  obtain ⟨n, hn⟩ : ∃ n, l.length = n := ⟨_, rfl⟩
  have HN := Lib.hid hn
  rw [hn] at hq hl ⊢
  have H := Lib.hid h
  have HC := Lib.hid hc
  have hnl : n ≤ 1000000 := by omega
  clear h hc hl hn
  go_enter Tryd.func54, Tryd.ntmps54
  have HO : Hid ((w.alloc (.cells #[] 5)).ownsRow w.heap.size 5 1 (.slice (some ⟨w.heap.size, 0, none⟩) 0 0) 0 []) :=
    ⟨rfl, .inr ⟨w.heap.size, 0, #[], rfl, Nat.le_refl _, World.alloc_heap_new w _, Nat.le_refl _, Nat.zero_le _, rfl, rfl⟩⟩
  go_wp2_with (at_builtin; refine wpList_append_own _ rfl _ _ 22 rfl w.heap.size 5 i0 (.int .u8 0) 1 1 Tryd.underlying22 hi hz0 hz1 hz2 rfl (by decide) _ _ _ rfl HO.out ⟨g, o, none⟩ n cap (l.map by8) rfl ?c1 ?c2 ?c3 ?c4 ?c5 ?c6 ?_)
  case c1 => rw [List.length_map, HN.out, Nat.mul_one]
  case c2 =>
    intro j u hj
    have h := BRow.news H.out j u hj
    rw [Lib.add_plain] at h ⊢
    exact cell_below ((Below.refl _ w).alloc (Nat.le_refl _) _) h
  case c3 => exact fun u hu => by8_one u l hu
  case c4 => unfold maxLen; omega
  case c5 => omega
  case c6 => simp
  intro v' w1 hown hgrow _
  have hB : Below w.heap.size w w1 := ((Below.refl _ w).alloc (Nat.le_refl _) _).grown hgrow (by simp) (fun k hk => by simp [Value.ownBlock] at hk; omega)
  have HR := Lib.hid hown
  have HB := Lib.hid hB
  clear hown hgrow hB
  go_wp2
  go_ret
  exact ⟨_, rfl, by simpa using HR.out, HB.out⟩
/-- the pieces of a list, n bytes at a time -/
def pies (n N : Nat) (l : List UInt8) : List (List UInt8) := (List.range N).map fun k => (l.drop (k * n)).take n
theorem pies_len (n N : Nat) (l : List UInt8) : (pies n N l).length = N := by simp [pies]
theorem pies_get (n N : Nat) (l : List UInt8) (k : Nat) (h : k < N) : (pies n N l).getD k [] = (l.drop (k * n)).take n := by
  simp [pies, List.getD_eq_getElem?_getD, List.getElem?_range h]
end Go.Proofs.YtoidopdpnnogaaaDoor
