/- Single operations, for the stands of a drawn region. -/
import Derived.Test.YtoidopdpnnogaaaDoorCkE
import Derived.Test.YtoidopdpnnogaaaDoorCkB
namespace Go.Proofs.YtoidopdpnnogaaaDoor
set_option linter.unusedVariables false
set_option linter.unusedSimpArgs false
open Go.RowKit Go.Shelf
set_option maxHeartbeats 400000
theorem eval_at {a : Act} {t : Nat} {v : Value} (h : a.tmps.getD t undef = v) : a.eval (.tmp t) = v := h
theorem st_move {P : Program} {o : Oper} {a : Act} {w : World} {Q : Exit → Act → World → Prop} {F : World → Value → Prop} (t : Nat) (v : Value) (ho : o.op = Op.move (.tmp t)) (hv : a.tmps.getD t undef = v) (hF : F w v) :
    o.wp P a w (fun a' w' => ∃ u, a' = a.put o.dst u ∧ F w' u ∧ Below w.heap.size w w') Q := by
  have e := eval_at hv
  unfold Oper.wp execOp
  simp only [ho, e, Sem.run_bind, Sem.run_pure, Result.andThen_ok]
  exact ⟨v, rfl, hF, Below.refl _ _⟩
theorem st_assign {P : Program} {o : Oper} {a : Act} {w : World} {Q : Exit → Act → World → Prop} {F : World → Value → Prop} (t : Nat) (v : Value) (ho : o.op = Op.assign (.tmp t)) (hv : a.tmps.getD t undef = v) (hF : F w v) :
    o.wp P a w (fun a' w' => ∃ u, a' = a.put o.dst u ∧ F w' u ∧ Below w.heap.size w w') Q := by
  have e := eval_at hv
  unfold Oper.wp execOp
  simp only [ho, e, Sem.run_bind, Sem.run_pure, Result.andThen_ok]
  exact ⟨v, rfl, hF, Below.refl _ _⟩
theorem st_conv {P : Program} {o : Oper} {a : Act} {w : World} {Q : Exit → Act → World → Prop} {F : World → Value → Prop} (t : Nat) (s d : TypeId) (v r : Value) (ho : o.op = Op.convert s d (.tmp t)) (hv : a.tmps.getD t undef = v)
    (hc : (convert s d v).run P w = .ok r w) (hF : F w r) :
    o.wp P a w (fun a' w' => ∃ u, a' = a.put o.dst u ∧ F w' u ∧ Below w.heap.size w w') Q := by
  have e := eval_at hv
  unfold Oper.wp execOp
  simp only [ho, e, Sem.run_bind, Sem.run_pure, Result.andThen_ok, hc]
  exact ⟨r, rfl, hF, Below.refl _ _⟩
theorem st_call {P : Program} {o : Oper} {a : Act} {w : World} {Q : Exit → Act → World → Prop} {F : World → Value → Prop} (t k : Nat) (ty : Array TypeId) (v : Value) (ho : o.op = Op.call { callee := .value (.func k), args := #[.tmp t], argTypes := ty }) (hv : a.tmps.getD t undef = v)
    (eg : ∀ args w, (callFunc k args).run P w = .ok (.enter k args) w)
    (hc : Calls P k #[v] w fun e w' => ∃ r, e = .returned r ∧ F w' r ∧ Below w.heap.size w w') :
    o.wp P a w (fun a' w' => ∃ u, a' = a.put o.dst u ∧ F w' u ∧ Below w.heap.size w w') Q := by
  have e := eval_at hv
  have e2 : a.eval (.func k) = .func (.func k) #[] #[] := rfl
  have e3 : a.tmps[t]?.getD undef = v := by rw [← Array.getD_eq_getD_getElem?]; exact hv
  unfold Oper.wp execOp
  simp [ho, resolve, invoke, e2, e3, eg, go_sem]
  refine hc.mono ?_
  rintro z w' ⟨r, rfl, h1, h2⟩
  exact ⟨r, rfl, h1, h2⟩
theorem st_build1 {o : Oper} {a : Act} {w : World} {Q : Exit → Act → World → Prop} {F : World → Value → Prop} (t : Nat) (ao : Option Addr) (n c : Nat) (ho : o.op = Op.buildSlice 24 1 #[(0, .tmp t)]) (hv : a.tmps.getD t undef = .slice ao n c)
    (hF : F (w.alloc (.cells #[.slice ao n c] 22)) (.slice (some ⟨w.heap.size, 0, none⟩) 1 1)) :
    o.wp Tryd.prog a w (fun a' w' => ∃ u, a' = a.put o.dst u ∧ F w' u ∧ Below w.heap.size w w') Q := by
  have e := eval_at hv
  unfold Oper.wp execOp
  simp only [ho, List.map_toArray, List.map_cons, List.map_nil, e]
  go_simp
  exact ⟨_, rfl, hF, (Below.refl _ w).alloc (Nat.le_refl _) _⟩
end Go.Proofs.YtoidopdpnnogaaaDoor
