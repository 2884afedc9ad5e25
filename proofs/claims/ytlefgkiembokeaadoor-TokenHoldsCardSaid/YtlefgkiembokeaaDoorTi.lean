/- How layer 9 (token) cuts a list of items at its commas, as a plain function: no program in sight. And a slice of texts. -/
import Derived.Test.YtlefgkiembokeaaDoorTq
import Derived.Lib.SplitLaws
import Derived.Lib.Replace
import Derived.WalkKit
import Derived.Lib.ItoaMem
import Derived.Test.YtlefgkiembokeaaDoorKit
namespace Go.Proofs.YtlefgkiembokeaaDoor
set_option linter.unusedVariables false
set_option linter.unusedSimpArgs false
namespace Tp
/-- the parts of a text, 'cur' its first part so far -/
def parts : List UInt8 → List UInt8 → List (List UInt8)
  | cur, [] => [cur]
  | cur, c :: l => if c = 44 then cur :: parts [] l else parts (cur ++ [c]) l
def some? (l : List UInt8) : Bool := !l.isEmpty
def itm (cur rest : List UInt8) : List (List UInt8) := ((parts cur rest).map trim).filter some?
def items (l : List UInt8) : List (List UInt8) := itm [] l
theorem parts_cur : ∀ (l a b : List UInt8), parts (a ++ b) l = (match parts b l with | h :: t => (a ++ h) :: t | [] => [])
  | [], a, b => rfl
  | c :: l, a, b => by
    unfold parts
    by_cases h : c = 44
    · rw [if_pos h, if_pos h]
    · rw [if_neg h, if_neg h, List.append_assoc, parts_cur l a (b ++ [c])]
theorem parts_ne : ∀ (l a : List UInt8), parts a l ≠ []
  | [], a => by unfold parts; simp
  | c :: l, a => by
    unfold parts
    by_cases h : c = 44
    · rw [if_pos h]; simp
    · rw [if_neg h]; exact parts_ne l _
theorem split_is : ∀ l : List UInt8, Lib.splitK [44] 0 (Lib.count l [44]) l = parts [] l
  | [] => by rw [Lib.count_miss (by simp [Lib.index])]; rfl
  | c :: l => by
    have ih := split_is l
    unfold parts
    by_cases h : c = 44
    · subst h
      have hix : Lib.index (44 :: l) [44] = 0 := by rw [Lib.index]; simp [List.isPrefixOf]
      rw [if_pos rfl, Lib.count_cons_eq, Nat.add_comm, Lib.splitK, hix, ← ih]
      rfl
    · rw [if_neg h, Lib.count_cons_ne c 44 l h, List.nil_append, show [c] = [c] ++ [] from rfl, parts_cur, ← ih]
      cases hn : Lib.count l [44] with
      | zero => rfl
      | succ n =>
        obtain ⟨j, hj⟩ := Lib.index_of_count (s := l) (old := [44]) (by omega)
        have hp : ([44] : List UInt8).isPrefixOf (c :: l) = false := by simp [List.isPrefixOf, Ne.symm h]
        have hix : Lib.index (c :: l) [44] = ((j + 1 : Nat) : Int) := by
          rw [Lib.index, hp]
          simp [hj]
        rw [Lib.splitK, Lib.splitK, hix, hj]
        have h1 : ¬ ((((j + 1 : Nat) : Int)) == -1) = true := by intro e; have := beq_iff_eq.1 e; omega
        have h2 : ¬ (((j : Nat) : Int) == -1) = true := by intro e; have := beq_iff_eq.1 e; omega
        rw [if_neg h1, if_neg h2]
        simp only [Int.toNat_natCast, Nat.add_zero, List.take_succ_cons, List.singleton_append, List.length_singleton, List.drop_succ_cons]
theorem parts_len : ∀ (l a : List UInt8), ∀ p ∈ parts a l, p.length ≤ a.length + l.length
  | [], a, p, hp => by
    have : p = a := by simpa [parts] using hp
    subst this
    omega
  | c :: l, a, p, hp => by
    unfold parts at hp
    by_cases h : c = 44
    · rw [if_pos h] at hp
      rcases List.mem_cons.1 hp with rfl | hp
      · omega
      · have := parts_len l [] p hp; simp only [List.length_nil, List.length_cons] at *; omega
    · rw [if_neg h] at hp
      have := parts_len l _ p hp
      simp only [List.length_append, List.length_cons, List.length_nil] at *
      omega
theorem parts_at (l : List UInt8) (j : Nat) : ((parts [] l).getD j []).length ≤ l.length := by
  by_cases h : j < (parts [] l).length
  · have := parts_len l [] _ (List.getElem_mem h)
    simpa [List.getD_eq_getElem?_getD, List.getElem?_eq_getElem h] using this
  · simp [List.getD_eq_getElem?_getD, List.getElem?_eq_none (Nat.le_of_not_lt h)]
theorem parts_count (s : ByteArray) : (Lib.splitB ⟨#[44]⟩ 0 (Lib.countB s ⟨#[44]⟩) s).map (·.data.toList) = parts [] s.data.toList := by
  rw [Lib.splitB_data]
  exact split_is _
end Tp
open Go.RowKit
def tx (l : List UInt8) : Value := .string ⟨l.toArray⟩
/-- a slice of texts -/
def StrRow (w : World) (v : Value) (L : List (List UInt8)) : Prop :=
  ∃ p cap, v = .slice p L.length cap ∧ (L.length = 0 ∨ ∃ g, p = some ⟨g, 0, none⟩ ∧ ∀ j, j < L.length → w.cell? ⟨g, j, none⟩ = some (tx (L.getD j [])))
theorem strRow_own {w : World} {base : Nat} {e : TypeId} {v : Value} {n : Nat} {L : List (List UInt8)} (h : w.ownsRow base e 1 v n (L.map tx)) : StrRow w v L := by
  obtain ⟨hl, h⟩ := h
  have hn : n = L.length := by simpa using hl.symm
  subst hn
  rcases h with ⟨rfl, h0⟩ | ⟨g, cap, cur, rfl, _, hg, hc, _, hs, ht⟩
  · refine ⟨none, 0, by rw [h0], .inl h0⟩
  · refine ⟨some ⟨g, 0, none⟩, cap, rfl, .inr ⟨g, rfl, fun j hj => ?_⟩⟩
    unfold World.cell?
    rw [show (⟨g, j, none⟩ : Addr).block = g from rfl, hg]
    show (if (none : Option _).isSome then none else cur[j]?) = _
    have h1 : (cur.toList.take (L.length * 1))[j]? = (L.map tx)[j]? := by rw [ht]
    rw [List.getElem?_take_of_lt (by omega)] at h1
    rw [if_neg (by simp), ← Array.getElem?_toList, h1, List.getElem?_map, List.getElem?_eq_getElem hj]
    simp [List.getD_eq_getElem?_getD, List.getElem?_eq_getElem hj]
theorem StrRow.below {w w' : World} {v : Value} {L : List (List UInt8)} (h : StrRow w v L) (hb : Below w.heap.size w w') : StrRow w' v L := by
  obtain ⟨p, cap, rfl, h⟩ := h
  refine ⟨p, cap, rfl, ?_⟩
  rcases h with h | ⟨g, rfl, h⟩
  · exact .inl h
  · exact .inr ⟨g, rfl, fun j hj => cell_below hb (h j hj)⟩
end Go.Proofs.YtlefgkiembokeaaDoor
