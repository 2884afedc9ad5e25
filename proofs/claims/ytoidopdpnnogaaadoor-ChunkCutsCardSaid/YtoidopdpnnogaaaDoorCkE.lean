/- A region that draws its order and fills one slot by each operation: by what each slot holds. -/
import Derived.Test.YtoidopdpnnogaaaDoorCkC
import Derived.Below
namespace Go.Proofs.YtoidopdpnnogaaaDoor
set_option linter.unusedVariables false
set_option linter.unusedSimpArgs false
open Go.RowKit
set_option maxHeartbeats 2000000
def fillN (slot : Nat → Nat) (vs : Nat → Value) (m : Nat) (t : Array Value) : Array Value := (List.range m).foldl (fun t i => t.setIfInBounds (slot i) (vs i)) t
theorem fillN_succ (slot : Nat → Nat) (vs : Nat → Value) (m : Nat) (t : Array Value) : fillN slot vs (m + 1) t = (fillN slot vs m t).setIfInBounds (slot m) (vs m) := by
  simp [fillN, List.range_succ]
theorem fillN_size (slot : Nat → Nat) (vs : Nat → Value) (m : Nat) (t : Array Value) : (fillN slot vs m t).size = t.size := by
  induction m with
  | zero => rfl
  | succ m ih => rw [fillN_succ, Array.size_setIfInBounds, ih]
theorem getD_set (t : Array Value) (d j : Nat) (v : Value) (hd : d < t.size) : (t.setIfInBounds d v).getD j undef = if j = d then v else t.getD j undef := by
  rw [Array.getD_eq_getD_getElem?, Array.getD_eq_getD_getElem?, Array.getElem?_setIfInBounds]
  by_cases h : j = d
  · subst h; simp [hd]
  · rw [if_neg (Ne.symm h), if_neg h]
theorem fillN_get (slot : Nat → Nat) (vs : Nat → Value) (t : Array Value) (hs : ∀ i, slot i < t.size) : ∀ m j, (∀ i, i < m → slot i ≠ j) → (fillN slot vs m t).getD j undef = t.getD j undef
  | 0, j, _ => rfl
  | m + 1, j, h => by
    rw [fillN_succ, getD_set _ _ _ _ (by rw [fillN_size]; exact hs m), if_neg (Ne.symm (h m (by omega))), fillN_get slot vs t hs m j (fun i hi => h i (by omega))]
theorem fillN_at (slot : Nat → Nat) (vs : Nat → Value) (t : Array Value) (hs : ∀ i, slot i < t.size) : ∀ m, (∀ i j, i < m → j < m → slot i = slot j → i = j) → ∀ i, i < m → (fillN slot vs m t).getD (slot i) undef = vs i
  | 0, _, i, hi => absurd hi (by omega)
  | m + 1, hinj, i, hi => by
    rw [fillN_succ, getD_set _ _ _ _ (by rw [fillN_size]; exact hs m)]
    by_cases h : i = m
    · subst h; rw [if_pos rfl]
    · rw [if_neg (fun e => h (hinj i m hi (by omega) e))]
      exact fillN_at slot vs t hs m (fun i j h1 h2 h3 => hinj i j (by omega) (by omega) h3) i (by omega)
theorem ext_getD {s t : Array Value} (hs : s.size = t.size) (h : ∀ j, s.getD j undef = t.getD j undef) : s = t := by
  refine Array.ext hs (fun i h1 h2 => ?_)
  have := h i
  rw [Array.getD_eq_getD_getElem?, Array.getD_eq_getD_getElem?, Array.getElem?_eq_getElem h1, Array.getElem?_eq_getElem h2] at this
  exact this
section
variable {P : Program} {ops : Array Oper} {Q : Exit → Act → World → Prop}
/-- where such a region stands -/
structure Stand (a0 : Act) (w0 : World) (m : Nat) (slot : Nat → Nat) (F : Nat → World → Value → Prop) (f : Nat → Bool) (a : Act) (w : World) : Prop where
  defers : a.defers = a0.defers
  size : a.tmps.size = a0.tmps.size
  rest : ∀ j, (∀ i, i < m → slot i ≠ j) → a.tmps.getD j undef = a0.tmps.getD j undef
  bel : Below w0.heap.size w0 w
  have_ : ∀ i, i < m → f i = true → F i w (a.tmps.getD (slot i) undef)
theorem region_slots {id : Nat} {a0 : Act} {w0 : World} (slot : Nat → Nat) (F : Nat → World → Value → Prop) (hm : P.follows .mixedOrders = true) (hb : backB .any ops = true)
    (hs : ∀ i, slot i < a0.tmps.size) (hinj : ∀ i j, i < ops.size → j < ops.size → slot i = slot j → i = j) (hF : ∀ i w w' v, F i w v → Below w.heap.size w w' → F i w' v)
    (hdst : ∀ i o, ops[i]? = some o → o.dst = some (slot i))
    (hstep : ∀ (f : Nat → Bool) (a : Act) (w : World) (i : Nat) (o : Oper), ops[i]? = some o → (∀ e ∈ o.after, Region.binds .any e = true → F e.on w (a.tmps.getD (slot e.on) undef)) → Below w0.heap.size w0 w →
      (∀ j, (∀ i, i < ops.size → slot i ≠ j) → a.tmps.getD j undef = a0.tmps.getD j undef) → o.wp P a w (fun a' w' => ∃ v, a' = a.put o.dst v ∧ F i w' v ∧ Below w.heap.size w w') Q)
    (hdone : ∀ (vs : Nat → Value) (w : World), Below w0.heap.size w0 w → (∀ i, i < ops.size → F i w (vs i)) → Q .normal { a0 with tmps := fillN slot vs ops.size a0.tmps } w) : (Code.region id ops true).wp P Q a0 w0 := by
  refine region_inv hm hb (Stand a0 w0 ops.size slot F) ⟨rfl, rfl, fun _ _ => rfl, ⟨rfl, rfl, rfl, Nat.le_refl _, fun _ _ => rfl⟩, fun _ _ h => by cases h⟩ ?_ ?_
  · intro f a w i o ho hf hpre hI
    have hi := (Array.getElem?_eq_some_iff.1 ho).1
    refine Oper.wp_mono ?_ (hstep f a w i o ho (fun e he hbd => hI.have_ e.on (by have := (back_of hb ho).2 e he hbd; omega) (hpre e he hbd)) hI.bel hI.rest)
    rintro a' w' ⟨v, rfl, hv, hbw⟩
    rw [hdst i o ho]
    have hsl : slot i < a.tmps.size := by rw [hI.size]; exact hs i
    refine ⟨hI.defers, by rw [← hI.size]; exact Array.size_setIfInBounds .., fun j hj => ?_, hI.bel.trans (hbw.mono hI.bel.size), fun j hj hfj => ?_⟩
    · show (a.tmps.setIfInBounds (slot i) v).getD j undef = _
      rw [getD_set _ _ _ _ hsl, if_neg (Ne.symm (hj i hi))]
      exact hI.rest j hj
    · show F j w' ((a.tmps.setIfInBounds (slot i) v).getD (slot j) undef)
      rw [getD_set _ _ _ _ hsl]
      by_cases hji : j = i
      · subst hji; rw [if_pos rfl]; exact hv
      · rw [if_neg (fun e => hji (hinj j i hj hi e))]
        have h2 : f j = true := by simpa [hji] using hfj
        exact hF j w w' _ (hI.have_ j hj h2) hbw
  · intro f a w hall hI
    have e : a = { a0 with tmps := fillN slot (fun i => a.tmps.getD (slot i) undef) ops.size a0.tmps } := by
      have h1 : a.tmps = fillN slot (fun i => a.tmps.getD (slot i) undef) ops.size a0.tmps := by
        refine ext_getD (by rw [fillN_size, hI.size]) (fun j => ?_)
        by_cases hj : ∃ i, i < ops.size ∧ slot i = j
        · obtain ⟨i, hi, rfl⟩ := hj
          rw [fillN_at slot _ _ hs _ hinj i hi]
        · rw [fillN_get slot _ _ hs _ j (fun i hi e => hj ⟨i, hi, e⟩), hI.rest j (fun i hi e => hj ⟨i, hi, e⟩)]
      obtain ⟨t, d⟩ := a
      have h2 := hI.defers
      simp only at h1 h2
      rw [← h1, h2]
    rw [e]
    exact hdone _ w hI.bel (fun i hi => hI.have_ i hi (hall i hi))
end
end Go.Proofs.YtoidopdpnnogaaaDoor
