/- Slices of bytes, and slices of such, as they lie in memory. No condition but those that each lemma states. -/
import Derived.Test.YtoidopdpnnogaaaDoorKit
import Derived.Laws.AppendOwn
import Derived.Laws.AppendOwnNone
import Derived.Laws.OwnMore
import Derived.Lib.ItoaMem
namespace Go.Proofs.YtoidopdpnnogaaaDoor
set_option linter.unusedVariables false
set_option linter.unusedSimpArgs false
open Go.RowKit
def by8 (b : UInt8) : Value := .int .u8 (b.toNat : Int)
/-- a slice of bytes -/
def BRow (w : World) (v : Value) (l : List UInt8) : Prop := ∃ ao cap, v = .slice ao l.length cap ∧ l.length ≤ cap ∧
  ((ao = none ∧ l = [] ∧ cap = 0) ∨ ∃ g o, ao = some ⟨g, o, none⟩ ∧ ∀ j, j < l.length → w.cell? ⟨g, o + j, none⟩ = some (by8 (l.getD j 0)))
theorem BRow.below {w w' : World} {v : Value} {l : List UInt8} (h : BRow w v l) (hb : Below w.heap.size w w') : BRow w' v l := by
  obtain ⟨ao, cap, rfl, hc, h⟩ := h
  refine ⟨ao, cap, rfl, hc, ?_⟩
  rcases h with h | ⟨g, o, rfl, h⟩
  · exact .inl h
  · exact .inr ⟨g, o, rfl, fun j hj => cell_below hb (h j hj)⟩
theorem BRow.nil (w : World) : BRow w (.slice none 0 0) [] := ⟨none, 0, rfl, Nat.le_refl _, .inl ⟨rfl, rfl, rfl⟩⟩
/-- one block holds no byte: what else holds bytes lies elsewhere -/
theorem BRow.grown {w w' : World} {v : Value} {l : List UInt8} {K : Nat} {x : Value} {t : TypeId} (h : BRow w v l) (hK : w.heap[K]? = some (.cells #[x] t (0, 0))) (hx : ∀ k n, x ≠ .int k n) (hg : w.grownBy w' (some K)) : BRow w' v l := by
  obtain ⟨ao, cap, rfl, hc, h⟩ := h
  refine ⟨ao, cap, rfl, hc, ?_⟩
  rcases h with h | ⟨g, o, rfl, h⟩
  · exact .inl h
  · refine .inr ⟨g, o, rfl, fun j hj => ?_⟩
    have hc := h j hj
    have hne : some g ≠ some K := by
      intro e
      obtain rfl : g = K := by simpa using e
      simp only [World.cell?, hK, Option.bind_eq_bind] at hc
      rcases Nat.eq_zero_or_pos (o + j) with h0 | h0
      · rw [h0] at hc
        simp [by8] at hc
        exact hx _ _ hc
      · have : (#[x] : Array Value)[o + j]? = none := Array.getElem?_eq_none (by simp; omega)
        simp [this] at hc
    have hlt := lt_of_cell hc
    exact (World.cell?_of_block (a := ⟨g, o + j, none⟩) (hg.block g hlt hne)).trans hc
/-- a slice of slices of bytes -/
def BRows (w : World) (v : Value) (L : List (List UInt8)) : Prop := ∃ p c, v = .slice p L.length c ∧ L.length ≤ c ∧
  ((p = none ∧ L = [] ∧ c = 0) ∨ ∃ g o, p = some ⟨g, o, none⟩ ∧ ∀ k, k < L.length → ∃ x, w.cell? ⟨g, o + k, none⟩ = some x ∧ BRow w x (L.getD k []))
theorem BRows.below {w w' : World} {v : Value} {L : List (List UInt8)} (h : BRows w v L) (hb : Below w.heap.size w w') : BRows w' v L := by
  obtain ⟨p, c, rfl, hc, h⟩ := h
  refine ⟨p, c, rfl, hc, ?_⟩
  rcases h with h | ⟨g, o, rfl, h⟩
  · exact .inl h
  · refine .inr ⟨g, o, rfl, fun k hk => ?_⟩
    obtain ⟨x, h1, h2⟩ := h k hk
    exact ⟨x, cell_below hb h1, h2.below hb⟩
/-- what a slice of the call's own owns reads as bytes -/
theorem BRow.of_own {w : World} {base : Nat} {v : Value} {l : List UInt8} {n : Nat} (h : w.ownsRow base 5 1 v n (l.map by8)) : BRow w v l := by
  have hl : n = l.length := by have := h.1; simpa using this.symm
  subst hl
  rcases h.2 with ⟨rfl, h0⟩ | ⟨g, cap, cur, rfl, hb, hg, hn, hm, hs, ht⟩
  · have : l = [] := List.length_eq_zero_iff.1 h0
    subst this
    exact BRow.nil w
  · refine ⟨_, cap, rfl, hn, .inr ⟨g, 0, rfl, fun j hj => ?_⟩⟩
    rw [Nat.zero_add]
    unfold World.cell?
    rw [show (⟨g, j, none⟩ : Addr).block = g from rfl, hg]
    show (if (none : Option _).isSome then none else cur[j]?) = _
    have h1 : (cur.toList.take (l.length * 1))[j]? = (l.map by8)[j]? := by rw [ht]
    rw [List.getElem?_take_of_lt (by omega)] at h1
    rw [if_neg (by simp), ← Array.getElem?_toList, h1, List.getElem?_map, List.getElem?_eq_getElem hj, List.getD_eq_getElem?_getD, List.getElem?_eq_getElem hj]
    rfl
theorem conv_brow {w : World} {v : Value} {l : List UInt8} (h : BRow w v l) : (convert 22 9 v).run Tryd.prog w = .ok (.string ⟨l.toArray⟩) w := by
  obtain ⟨ao, cap, rfl, hc, h⟩ := h
  rcases h with ⟨rfl, rfl, rfl⟩ | ⟨g, o, rfl, h⟩
  · rw [show ([] : List UInt8).length = 0 from rfl, run_convert_bytes_string w 22 9 5 none 0 0 Tryd.underlying22 Tryd.underlying5 Tryd.underlying9]
    rfl
  · refine run_convert_bytes_back w 22 9 5 ⟨g, o, none⟩ cap l Tryd.underlying22 Tryd.underlying5 Tryd.underlying9 (fun j hj => ?_)
    rw [Lib.add_plain, h j hj, List.getD_eq_getElem?_getD, List.getElem?_eq_getElem hj]
    rfl
theorem by8_one (u : Value) (l : List UInt8) (h : u ∈ l.map by8) : u.oneCell' = true := by
  obtain ⟨b, _, rfl⟩ := List.mem_map.1 h
  rfl
/-- the bytes of a row, as append asks for them -/
theorem BRow.news {w : World} {g o : Nat} {l : List UInt8} (h : ∀ j, j < l.length → w.cell? ⟨g, o + j, none⟩ = some (by8 (l.getD j 0))) (j : Nat) (u : Value) (hj : (l.map by8)[j]? = some u) : w.cell? ((⟨g, o, none⟩ : Addr).add j) = some u := by
  rw [List.getElem?_map] at hj
  rcases hl : l[j]? with _ | x
  · rw [hl] at hj; cases hj
  · rw [hl] at hj
    have hlt := (List.getElem?_eq_some_iff.1 hl).1
    rw [Lib.add_plain, h j hlt, List.getD_eq_getElem?_getD, hl]
    exact hj
end Go.Proofs.YtoidopdpnnogaaaDoor
