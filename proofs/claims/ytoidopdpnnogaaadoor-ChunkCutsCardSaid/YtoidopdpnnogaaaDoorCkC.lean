/- A region that draws its order, by what holds at each of its stands. -/
import Derived.ProofKit
import Derived.Orders
namespace Go.Proofs.YtoidopdpnnogaaaDoor
set_option linter.unusedVariables false
set_option linter.unusedSimpArgs false

set_option maxHeartbeats 2000000
def backB (md : Region.Mode) (ops : Array Oper) : Bool := (List.range ops.size).all fun i => ((ops[i]?).map fun o => o.guard.isNone && o.after.all fun e => !Region.binds md e || decide (e.on < i)).getD true
section
variable {P : Program} {ops : Array Oper} {Q : Exit → Act → World → Prop} {md : Region.Mode}
theorem back_of (h : backB md ops = true) {i : Nat} {o : Oper} (ho : ops[i]? = some o) : o.guard = none ∧ ∀ e ∈ o.after, Region.binds md e = true → e.on < i := by
  have hi := (Array.getElem?_eq_some_iff.1 ho).1
  have h1 := List.all_eq_true.1 h i (List.mem_range.2 hi)
  rw [ho] at h1
  simp only [Option.map_some, Option.getD_some, Bool.and_eq_true] at h1
  refine ⟨by simpa using h1.1, fun e he hbd => ?_⟩
  have := (Array.all_eq_true_iff_forall_mem.1 h1.2) e he
  rw [hbd] at this
  simpa using this
theorem ready_mem {listed : Array Bool} (hs : listed.size = ops.size) {i : Nat} (h : i ∈ Region.ready md ops listed) :
    ∃ o, ops[i]? = some o ∧ listed.getD i false = false ∧ i < listed.size ∧ ∀ e ∈ o.after, Region.binds md e = true → listed.getD e.on false = true := by
  unfold Region.ready at h
  obtain ⟨h1, h2⟩ := List.mem_filter.1 h
  have hi := List.mem_range.1 h1
  refine ⟨ops[i], Array.getElem?_eq_getElem hi, ?_, by omega, ?_⟩
  · simp only [Bool.and_eq_true] at h2
    have h3 := h2.1
    have hj : i < listed.size := by omega
    simp only [Array.getD, hj, dite_true] at h3 ⊢
    simpa using h3
  · intro e he hb
    simp only [Bool.and_eq_true, Array.getElem?_eq_getElem hi, Option.map_some, Option.getD_some] at h2
    have h3 := (Array.all_eq_true_iff_forall_mem.1 h2.2) e he
    rw [hb] at h3
    simpa using h3
theorem ready_all (hb : backB md ops = true) {listed : Array Bool} (hs : listed.size = ops.size) (h : Region.ready md ops listed = []) : ∀ i, i < ops.size → listed.getD i false = true := by
  intro i
  induction i using Nat.strongRecOn with
  | _ i ih =>
    intro hi
    by_cases hl : listed.getD i false = true
    · exact hl
    · exfalso
      have hj : i < listed.size := by omega
      have hm : i ∈ Region.ready md ops listed := by
        unfold Region.ready
        refine List.mem_filter.2 ⟨List.mem_range.2 hi, ?_⟩
        simp only [Bool.and_eq_true, Array.getElem?_eq_getElem hi, Option.map_some, Option.getD_some]
        refine ⟨?_, Array.all_eq_true_iff_forall_mem.2 fun e he => ?_⟩
        · simp only [Array.getD, hj, dite_true] at hl ⊢
          simpa using hl
        · cases hbd : Region.binds md e with
          | false => rfl
          | true =>
            have h1 := (back_of hb (Array.getElem?_eq_getElem hi)).2 e he hbd
            rw [ih e.on h1 (by omega)]
            simp
      rw [h] at hm
      cases hm
theorem wpAny_inv (hb : backB md ops = true) (Inv : (Nat → Bool) → Act → World → Prop)
    (hstep : ∀ (f : Nat → Bool) (a : Act) (w : World) (i : Nat) (o : Oper), ops[i]? = some o → f i = false → (∀ e ∈ o.after, Region.binds md e = true → f e.on = true) → Inv f a w →
      o.wp P a w (Inv (fun j => if j = i then true else f j)) Q)
    (hdone : ∀ (f : Nat → Bool) (a : Act) (w : World), (∀ i, i < ops.size → f i = true) → Inv f a w → Q .normal a w) :
    ∀ (fuel : Nat) (listed : Array Bool) (a : Act) (w : World), listed.size = ops.size → listed.toList.count false ≤ fuel → Inv (fun i => listed.getD i false) a w → wpAny P md ops Q fuel listed a w := by
  intro fuel
  induction fuel with
  | zero =>
    intro listed a w hs hc hI
    have hr : Region.ready md ops listed = [] := by
      cases hr : Region.ready md ops listed with
      | nil => rfl
      | cons i r =>
        obtain ⟨o, ho, hl, hi, _⟩ := ready_mem (md := md) hs (i := i) (by rw [hr]; exact List.mem_cons_self)
        have h1 : false ∈ listed.toList := by
          simp only [Array.getD, hi, dite_true] at hl
          have h2 : listed[i] ∈ listed.toList := Array.mem_toList_iff.2 (Array.getElem_mem hi)
          have h3 : listed[i] = false := hl
          rwa [h3] at h2
        have := List.count_pos_iff.2 h1
        omega
    exact ⟨hr, hdone _ a w (ready_all hb hs hr) hI⟩
  | succ fuel ih =>
    intro listed a w hs hc hI
    refine ⟨fun hr => hdone _ a w (ready_all hb hs hr) hI, fun i hi => ?_⟩
    obtain ⟨o, ho, hl, hil, hpre⟩ := ready_mem hs hi
    have hg := (back_of hb ho).1
    have h1 := hstep _ a w i o ho hl hpre hI
    unfold wpOp
    simp only [ho]
    rw [if_pos (by simp [Region.wanted, hg])]
    refine .inl (Oper.wp_mono (fun a' w' hI' => ?_) h1)
    refine ih _ a' w' (by simp [hs]) ?_ ?_
    · have h3 : listed.toList[i]'(by simpa using hil) = false := by
        simp only [Array.getD, hil, dite_true] at hl
        simpa using hl
      rw [Array.toList_setIfInBounds, List.count_set (h := by simpa using hil), h3]
      have h4 : 0 < listed.toList.count false := List.count_pos_iff.2 (by rw [← h3]; exact List.getElem_mem _)
      rw [if_pos (by rfl), if_neg (by decide)]
      omega
    · refine cast (congrArg (fun g => Inv g a' w') (funext fun j => ?_)) hI'
      by_cases hj : j = i
      · subst hj
        simp [Array.getD, hil]
      · rw [if_neg hj]
        simp only [Array.getD, Array.size_setIfInBounds]
        by_cases hjl : j < listed.size
        · simp [hjl, Array.getElem_setIfInBounds, Ne.symm hj]
        · simp [hjl]
theorem region_inv {id : Nat} {a : Act} {w : World} (hm : P.follows .mixedOrders = true) (hb : backB .any ops = true) (Inv : (Nat → Bool) → Act → World → Prop) (h0 : Inv (fun _ => false) a w.drew)
    (hstep : ∀ (f : Nat → Bool) (a : Act) (w : World) (i : Nat) (o : Oper), ops[i]? = some o → f i = false → (∀ e ∈ o.after, Region.binds .any e = true → f e.on = true) → Inv f a w →
      o.wp P a w (Inv (fun j => if j = i then true else f j)) Q)
    (hdone : ∀ (f : Nat → Bool) (a : Act) (w : World), (∀ i, i < ops.size → f i = true) → Inv f a w → Q .normal a w) : (Code.region id ops true).wp P Q a w := by
  refine wp_region_any hm (wpAny_inv hb Inv hstep hdone _ _ a _ (by simp) ?_ ?_)
  · refine Nat.le_trans List.count_le_length ?_
    simp
  · refine cast (congrArg (fun g => Inv g a w.drew) (funext fun j => ?_)) h0
    by_cases hj : j < ops.size <;> simp [Array.getD, hj]
end
end Go.Proofs.YtoidopdpnnogaaaDoor
