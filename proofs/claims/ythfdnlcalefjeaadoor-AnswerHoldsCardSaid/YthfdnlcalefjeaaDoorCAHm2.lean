/- Texts of this claim, one behind the other: Rr, Ru, Rw, Hb, Ck0, Hc, Hd, He, Dw1, Dr1, Dr2, Dr3, Dr4, Dr5, Dr6, Hf, Hj, Hg, Dt, Du. -/
import Derived.OrdersIn
import Derived.TacticsIn
import Derived.Lib.QuietBelow
import Derived.Test.YthfdnlcalefjeaaDoorCAHm1
import Derived.Defers
import Derived.Recover
import Derived.BigCall
import Derived.Laws.AppendOwn
import Derived.Laws.AppendOwnNone
import Derived.Laws.OwnMore
import Derived.Lib.ItoaMem
import Derived.Deep.AppendSrc
import Derived.Lib.EndianMore
import Derived.Lib.ConvBytes
import Derived.Lib.SmallJoins
import Derived.IntWalk
import Derived.Test.YthfdnlcalefjeaaDoorRows
import Derived.OneCell
import Derived.WalkMore
import Derived.Lib.Walk
import Derived.Sort.Grow
import Derived.Lib.Repeat
import Derived.Lib.Case
/- A region that draws its order, within a round of a range over a function: the plain laws lifted, and the call of yield behind operations in whatever order. No condition but those that each lemma states. -/
namespace Go.Proofs.YthfdnlcalefjeaaDoor
set_option linter.unusedVariables false
set_option linter.unusedSimpArgs false
open Go.RowKit
set_option maxHeartbeats 2000000
def noDefer (ops : Array Oper) : Bool := ops.all fun o => match o.op with
  | .defer _ => false
  | _ => true
theorem noDefer_at {ops : Array Oper} (h : noDefer ops = true) {i : Nat} {o : Oper} (ho : ops[i]? = some o) : ∀ c, o.op ≠ .defer c := by
  intro c hc
  have h1 := (Array.all_eq_true_iff_forall_mem.1 h) o (Array.mem_of_getElem? ho)
  rw [hc] at h1
  cases h1
/-- an operation of a round, out of the plain one -/
theorem opR {P : Program} {l n : Nat} {o : Oper} {a : Act} {w : World} {K : Act → World → Prop} {Q : Exit → Act → World → Prop} (hd : ∀ c, o.op ≠ .defer c) (h : o.wp P a w K Q) :
    o.wpIn (Fence.wide.inRound l) n P a w K Q := by
  refine ⟨fun _ _ => trivial, ?_⟩
  rw [Fence.inRound_round, Oper.semAt_some l _ _ hd]
  unfold Oper.wp at h
  generalize (execOp a.eval o).run P w = r at h ⊢
  cases r with
  | ok x w' =>
    cases x <;> simp only [Oper.upon, Oper.uponIn] at h ⊢ <;>
      first
        | exact h
        | exact ⟨(fun e => by cases e), CallsIn.inRound l (callsIn_wide.2 h)⟩
        | exact ⟨(fun e => by cases e), fun c cs _ => let ⟨v, w', r, s⟩ := h c cs; ⟨v, w', r, stepsIn_wide.2 s⟩⟩
  | halt x w' => cases x <;> simp only [Oper.upon, Oper.uponIn] at h ⊢ <;> exact h
section
variable {P : Program} {ops : Array Oper} {Q' : Exit → Act → World → Prop} {md : Region.Mode} {C : World → Prop} {l n : Nat}
theorem wpOpR_of_qOp {i : Nat} {a : Act} {K : Act → Prop} {K' : Act → World → Prop} {w : World} (hd : noDefer ops = true) (hC : C w) (h : ∀ a w', C w' → K a → K' a w') (hh : qOp P ops C i K a) : wpOpIn (Fence.wide.inRound l) n P ops Q' i K' a w := by
  unfold qOp at hh
  unfold wpOpIn
  split
  · rename_i ho; simp only [ho] at hh; exact h _ _ hC hh
  · rename_i o ho
    simp only [ho] at hh
    split
    · rename_i hw; simp only [hw, if_true] at hh; exact opR (noDefer_at hd ho) (Oper.wp_of_quiet hC h hh)
    · rename_i hw; simp only [hw] at hh; exact ⟨fun _ _ => trivial, h _ _ hC hh⟩
theorem wpAnyR_of_quiet {Q : Act → Prop} (hd : noDefer ops = true) (hQ : ∀ a w, C w → Q a → Q' .normal a w) : ∀ (fuel : Nat) (listed : Array Bool) (a : Act) (w : World), C w →
    wpAnyQ P md ops C Q fuel listed a → wpAnyIn (Fence.wide.inRound l) n P md ops Q' fuel listed a w
  | 0, _, _, _, hw, h => ⟨h.1, hQ _ _ hw h.2⟩
  | fuel + 1, _, _, _, hw, h => ⟨fun h0 => hQ _ _ hw (h.1 h0), fun i hi => wpOpR_of_qOp hd hw (fun a' w' hw' => wpAnyR_of_quiet hd hQ fuel _ a' w' hw') (h.2 i hi)⟩
theorem wpR_region_quiet {id : Nat} {Q : Exit → Act → World → Prop} {a : Act} {w : World} (hm : P.follows .mixedOrders = true) (hd : noDefer ops = true) (hB : Region.lexB .any ops = true) (hC : C { w with drawn := w.drawn + 1 })
    (h : wpQuiet P ops C (fun a' => ∀ w', C w' → Q .normal a' w') ops.toList a) : (Code.region id ops true).wpIn (Fence.wide.inRound l) n P Q a w := by
  simp only [Region.lexB, Bool.and_eq_true] at hB
  refine wpIn_region_any hm (wpAnyR_of_quiet (Q := fun a' => ∀ w', C w' → Q .normal a' w') hd (fun _ w' hw' h => h w' hw') _ _ _ _ hC ?_)
  have := wpAnyQ_lex (C := C) (md := .any) hB.1 ops.toList 0 (Array.replicate ops.size false) a (by simp) (by simpa using hB.2) h
  simpa using this
/-- callees that make memory behind what there is -/
theorem wpR_region_below {id : Nat} {Q : Exit → Act → World → Prop} {a : Act} {w : World} {ls : List Oper} (hm : P.follows .mixedOrders = true) (hd : noDefer ls.toArray = true) (hB : Region.lexB .any ls.toArray = true)
    (h : wpQuiet P ls.toArray (fun w' => ∃ p : Regrown, w' = Go.Sort.grow (redrawn w p.d) p.os) (fun a' => ∀ w', (∃ p : Regrown, w' = Go.Sort.grow (redrawn w p.d) p.os) → Q .normal a' w') ls a) : (Code.region id ls.toArray true).wpIn (Fence.wide.inRound l) n P Q a w :=
  wpR_region_quiet (C := fun w' => ∃ p : Regrown, w' = Go.Sort.grow (redrawn w p.d) p.os) hm hd hB ⟨⟨w.drawn + 1, #[]⟩, by rw [Go.Sort.grow_empty]; rfl⟩ (by simpa using h)
end
section
variable {P : Program} {ops : Array Oper} {Q : Exit → Act → World → Prop} {md : Region.Mode} {F : Fence} {n : Nat}
theorem wpAnyIn_inv (hb : backB md ops = true) (Inv : (Nat → Bool) → Act → World → Prop)
    (hstep : ∀ (f : Nat → Bool) (a : Act) (w : World) (i : Nat) (o : Oper), ops[i]? = some o → f i = false → (∀ e ∈ o.after, Region.binds md e = true → f e.on = true) → Inv f a w →
      o.wpIn F n P a w (Inv (fun j => if j = i then true else f j)) Q)
    (hdone : ∀ (f : Nat → Bool) (a : Act) (w : World), (∀ i, i < ops.size → f i = true) → Inv f a w → Q .normal a w) :
    ∀ (fuel : Nat) (listed : Array Bool) (a : Act) (w : World), listed.size = ops.size → listed.toList.count false ≤ fuel → Inv (fun i => listed.getD i false) a w → wpAnyIn F n P md ops Q fuel listed a w := by
  intro fuel
  induction fuel with
  | zero =>
    intro listed a w hs hc hI
    have hr : Region.ready md ops listed = [] := by
      cases hr : Region.ready md ops listed with
      | nil => rfl
      | cons i r =>
        obtain ⟨o, ho, hl, hi, _⟩ := ready_mem (md := md) hs (i := i) (by rw [hr]; exact List.mem_cons_self)
        have h1 : false ∈ listed.toList := by
          simp only [Array.getD, hi, dite_true] at hl
          have h2 : listed[i] ∈ listed.toList := Array.mem_toList_iff.2 (Array.getElem_mem hi)
          have h3 : listed[i] = false := hl
          rwa [h3] at h2
        have := List.count_pos_iff.2 h1
        omega
    exact ⟨hr, hdone _ a w (ready_all hb hs hr) hI⟩
  | succ fuel ih =>
    intro listed a w hs hc hI
    refine ⟨fun hr => hdone _ a w (ready_all hb hs hr) hI, fun i hi => ?_⟩
    obtain ⟨o, ho, hl, hil, hpre⟩ := ready_mem hs hi
    have hg := (back_of hb ho).1
    have h1 := hstep _ a w i o ho hl hpre hI
    unfold wpOpIn
    simp only [ho]
    rw [if_pos (by simp [Region.wanted, hg])]
    refine Oper.wpIn_mono (fun a' w' hI' => ?_) h1
    refine ih _ a' w' (by simp [hs]) ?_ ?_
    · have h3 : listed.toList[i]'(by simpa using hil) = false := by
        simp only [Array.getD, hil, dite_true] at hl
        simpa using hl
      rw [Array.toList_setIfInBounds, List.count_set (h := by simpa using hil), h3]
      have h4 : 0 < listed.toList.count false := List.count_pos_iff.2 (by rw [← h3]; exact List.getElem_mem _)
      rw [if_pos (by rfl), if_neg (by decide)]
      omega
    · refine cast (congrArg (fun g => Inv g a' w') (funext fun j => ?_)) hI'
      by_cases hj : j = i
      · subst hj
        simp [Array.getD, hil]
      · rw [if_neg hj]
        simp only [Array.getD, Array.size_setIfInBounds]
        by_cases hjl : j < listed.size
        · simp [hjl, Array.getElem_setIfInBounds, Ne.symm hj]
        · simp [hjl]
theorem region_inv_in {id : Nat} {a : Act} {w : World} (hm : P.follows .mixedOrders = true) (hb : backB .any ops = true) (Inv : (Nat → Bool) → Act → World → Prop) (h0 : Inv (fun _ => false) a w.drew)
    (hstep : ∀ (f : Nat → Bool) (a : Act) (w : World) (i : Nat) (o : Oper), ops[i]? = some o → f i = false → (∀ e ∈ o.after, Region.binds .any e = true → f e.on = true) → Inv f a w →
      o.wpIn F n P a w (Inv (fun j => if j = i then true else f j)) Q)
    (hdone : ∀ (f : Nat → Bool) (a : Act) (w : World), (∀ i, i < ops.size → f i = true) → Inv f a w → Q .normal a w) : (Code.region id ops true).wpIn F n P Q a w := by
  refine wpIn_region_any hm (wpAnyIn_inv hb Inv hstep hdone _ _ a _ (by simp) ?_ ?_)
  · refine Nat.le_trans List.count_le_length ?_
    simp
  · refine cast (congrArg (fun g => Inv g a w.drew) (funext fun j => ?_)) h0
    by_cases hj : j < ops.size <;> simp [Array.getD, hj]
/-! what stands ahead of an operation, however far -/
def edgesOf (md : Region.Mode) (ops : Array Oper) (i : Nat) : List Nat := match ops[i]? with
  | some o => (o.after.toList.filter (Region.binds md)).map (·.on)
  | none => []
def ancOf (md : Region.Mode) (ops : Array Oper) : Nat → Nat → List Nat
  | 0, _ => []
  | k + 1, i => (edgesOf md ops i).flatMap fun j => j :: ancOf md ops k j
def ShutF (md : Region.Mode) (ops : Array Oper) (f : Nat → Bool) : Prop := ∀ i, f i = true → ∀ j ∈ edgesOf md ops i, f j = true
theorem anc_true {f : Nat → Bool} (hc : ShutF md ops f) : ∀ (k i : Nat), (∀ j ∈ edgesOf md ops i, f j = true) → ∀ j ∈ ancOf md ops k i, f j = true
  | 0, _, _, j, hj => by cases hj
  | k + 1, i, h, j, hj => by
    obtain ⟨x, hx, hj⟩ := List.mem_flatMap.1 hj
    rcases List.mem_cons.1 hj with rfl | hj
    · exact h _ hx
    · exact anc_true hc k x (hc x (h x hx)) j hj
theorem edges_of {f : Nat → Bool} {i : Nat} {o : Oper} (ho : ops[i]? = some o) (h : ∀ e ∈ o.after, Region.binds md e = true → f e.on = true) : ∀ j ∈ edgesOf md ops i, f j = true := by
  intro j hj
  unfold edgesOf at hj
  rw [ho] at hj
  obtain ⟨e, he, rfl⟩ := List.mem_map.1 hj
  obtain ⟨h1, h2⟩ := List.mem_filter.1 he
  exact h e (Array.mem_toList_iff.1 h1) h2
/-- the call of yield at place m, one operation behind it; ahead of it m operations in whatever order, each by what its slot holds -/
theorem region_yield {id l : Nat} {a0 : Act} {w0 : World} (m : Nat) (slot : Nat → Nat) (Fs : Nat → World → Value → Prop) (T : Act → World → Prop) (hm : P.follows .mixedOrders = true) (hb : backB .any ops = true) (hd : noDefer ops = true)
    (hsz : ops.size = m + 2) (hanc : ((List.range m).all fun j => (ancOf .any ops m m).contains j) = true) (hlast : (edgesOf .any ops (m + 1)).contains m = true)
    (hs : ∀ i, slot i < a0.tmps.size) (hinj : ∀ i j, i < m → j < m → slot i = slot j → i = j) (hF : ∀ i w w' v, Fs i w v → Below w.heap.size w w' → Fs i w' v)
    (hdst : ∀ i o, i < m → ops[i]? = some o → o.dst = some (slot i))
    (hstep : ∀ (f : Nat → Bool) (a : Act) (w : World) (i : Nat) (o : Oper), i < m → ops[i]? = some o → (∀ e ∈ o.after, Region.binds .any e = true → Fs e.on w (a.tmps.getD (slot e.on) undef)) → Below w0.heap.size w0 w →
      (∀ j, (∀ i, i < m → slot i ≠ j) → a.tmps.getD j undef = a0.tmps.getD j undef) → o.wp P a w (fun a' w' => ∃ v, a' = a.put o.dst v ∧ Fs i w' v ∧ Below w.heap.size w w') Q)
    (hyield : ∀ (vs : Nat → Value) (w : World) (o : Oper), ops[m]? = some o → Below w0.heap.size w0 w → (∀ i, i < m → Fs i w (vs i)) →
      o.wpIn (Fence.wide.inRound l) n P { a0 with tmps := fillN slot vs m a0.tmps } w T Q)
    (htail : ∀ (a : Act) (w : World) (o : Oper), ops[m + 1]? = some o → T a w → o.wpIn (Fence.wide.inRound l) n P a w (fun a' w' => Q .normal a' w') Q) :
    (Code.region id ops true).wpIn (Fence.wide.inRound l) n P Q a0 w0 := by
  refine region_inv_in hm hb (fun f a w => ShutF .any ops f ∧ (f m = false → f (m + 1) = false ∧ Stand a0 w0 m slot Fs f a w) ∧ (f m = true → f (m + 1) = false → T a w) ∧ (f (m + 1) = true → Q .normal a w))
    ⟨(fun i h => by cases h), (fun _ => ⟨rfl, rfl, rfl, (fun _ _ => rfl), ⟨rfl, rfl, rfl, Nat.le_refl _, (fun _ _ => rfl)⟩, (fun _ _ h => by cases h)⟩), (fun h => by cases h), (fun h => by cases h)⟩ ?_ ?_
  · rintro f a w i o ho hf hpre ⟨hc, h1, h2, h3⟩
    have hi := (Array.getElem?_eq_some_iff.1 ho).1
    have hee := edges_of ho hpre
    have hc' : ShutF .any ops (fun j => if j = i then true else f j) := by
      intro x hx y hy
      show (if y = i then true else f y) = true
      by_cases hyi : y = i
      · rw [if_pos hyi]
      · rw [if_neg hyi]
        by_cases hxi : x = i
        · subst hxi; exact hee y hy
        · exact hc x (by simpa [hxi] using hx) y hy
    have hpres : ∀ {g : Nat → Bool}, ShutF .any ops g → (∀ j ∈ edgesOf .any ops m, g j = true) → ∀ j, j < m → g j = true := fun hg he j hj => by
      have h4 := List.all_eq_true.1 hanc j (List.mem_range.2 hj)
      exact anc_true hg m m he j (by simpa using h4)
    by_cases him : i = m
    · subst him
      obtain ⟨h4, hI⟩ := h1 hf
      have hall := hpres hc hee
      have e : a = { a0 with tmps := fillN slot (fun j => a.tmps.getD (slot j) undef) i a0.tmps } := by
        have h5 : a.tmps = fillN slot (fun j => a.tmps.getD (slot j) undef) i a0.tmps := by
          refine ext_getD (by rw [fillN_size, hI.size]) (fun j => ?_)
          by_cases hj : ∃ k, k < i ∧ slot k = j
          · obtain ⟨k, hk, rfl⟩ := hj
            rw [fillN_at slot _ _ hs _ hinj k hk]
          · rw [fillN_get slot _ _ hs _ j (fun k hk e => hj ⟨k, hk, e⟩), hI.rest j (fun k hk e => hj ⟨k, hk, e⟩)]
        obtain ⟨t, d⟩ := a
        have h6 := hI.defers
        simp only at h5 h6
        rw [← h5, h6]
      have h7 := hyield (fun j => a.tmps.getD (slot j) undef) w o ho hI.bel (fun j hj => hI.have_ j hj (hall j hj))
      rw [← e] at h7
      refine Oper.wpIn_mono (fun a' w' hT => ⟨hc', fun h => by simp at h, fun _ _ => hT, fun h => ?_⟩) h7
      have h' : (if i + 1 = i then true else f (i + 1)) = true := h
      rw [if_neg (by omega), h4] at h'
      cases h'
    · by_cases hit : i = m + 1
      · subst hit
        have hfm : f m = true := hee m (by simpa using hlast)
        refine Oper.wpIn_mono (fun a' w' hT => ⟨hc', fun h => ?_, fun _ h => by simp at h, fun _ => hT⟩) (htail a w o ho (h2 hfm hf))
        have h' : (if m = m + 1 then true else f m) = false := h
        rw [if_neg (by omega), hfm] at h'
        cases h'
      · have hlt : i < m := by omega
        have hfm : f m = false := by
          cases hfm : f m with
          | false => rfl
          | true =>
            have := hpres hc (hc m hfm) i hlt
            rw [hf] at this
            cases this
        obtain ⟨h4, hI⟩ := h1 hfm
        refine Oper.wpIn_mono ?_ (opR (noDefer_at hd ho) (hstep f a w i o hlt ho (fun e he hbd => hI.have_ e.on (by have := (back_of hb ho).2 e he hbd; omega) (hpre e he hbd)) hI.bel hI.rest))
        rintro a' w' ⟨v, rfl, hv, hbw⟩
        rw [hdst i o hlt ho]
        have hsl : slot i < a.tmps.size := by rw [hI.size]; exact hs i
        refine ⟨hc', fun _ => ⟨by show (if m + 1 = i then true else f (m + 1)) = false; rw [if_neg (by omega)]; exact h4, hI.defers, by rw [← hI.size]; exact Array.size_setIfInBounds .., fun j hj => ?_, hI.bel.trans (hbw.mono hI.bel.size), fun j hj hfj => ?_⟩, fun h => ?_, fun h => ?_⟩
        · show (a.tmps.setIfInBounds (slot i) v).getD j undef = _
          rw [getD_set _ _ _ _ hsl, if_neg (Ne.symm (hj i hlt))]
          exact hI.rest j hj
        · show Fs j w' ((a.tmps.setIfInBounds (slot i) v).getD (slot j) undef)
          rw [getD_set _ _ _ _ hsl]
          by_cases hji : j = i
          · subst hji; rw [if_pos rfl]; exact hv
          · rw [if_neg (fun e => hji (hinj j i hj hlt e))]
            have h2 : f j = true := by simpa [hji] using hfj
            exact hF j w w' _ (hI.have_ j hj h2) hbw
        · have h' : (if m = i then true else f m) = true := h
          rw [if_neg (Ne.symm him), hfm] at h'; cases h'
        · have h' : (if m + 1 = i then true else f (m + 1)) = true := h
          rw [if_neg (Ne.symm hit), h4] at h'; cases h'
  · rintro f a w hall ⟨_, _, _, h3⟩
    exact h3 (hall (m + 1) (by omega))
/-- the call of yield within a round of the iterator's own loop -/
theorem op_yield {l l' k : Nat} {o : Oper} {a : Act} {w : World} {K : Act → World → Prop} {R : Ending → World → Prop} (t : Nat) (xs : Array Operand) (ty : Array TypeId) (args : Array Value) (ho : o.op = Op.call { callee := .value (.tmp t), args := xs, argTypes := ty })
    (ht : a.tmps.getD t undef = .func (.yield l') #[] #[]) (hx : xs.map a.eval = args) (h : YieldAt Fence.wide k P l' args w R) (hR : ∀ e w', R e w' → ∃ b, e = .returned (.bool b) ∧ K (a.put o.dst (.bool b)) w') :
    o.wpIn (Fence.wide.inRound l) n P a w K Q := by
  obtain ⟨fn, tmps, assign, body, hy, hr⟩ := h
  refine ⟨fun _ _ => trivial, ?_⟩
  rw [Fence.inRound_round, Oper.semAt_some l _ _ (fun c h => by rw [ho] at h; cases h)]
  have ht2 : a.tmps[t]?.getD undef = .func (.yield l') #[] #[] := by rw [← Array.getD_eq_getD_getElem?]; exact ht
  have e : (execOp a.eval o).run P w = .ok (.round l' fn tmps assign body) w := by
    unfold execOp
    simp [ho, resolve, invoke, ht2, hx, hy, go_sem]
  rw [e]
  refine ⟨(fun h => by cases h), ?_⟩
  refine RoundIn.mono (F := Fence.wide) (roundIn_any _ hr) ?_
  intro z w' hz
  obtain ⟨b, rfl, hk⟩ := hR z w' hz
  exact hk
end
end Go.Proofs.YthfdnlcalefjeaaDoor

/- A drawn region whose last operation waits for all others, where the world is told by a relation of its own. -/
namespace Go.Proofs.YthfdnlcalefjeaaDoor
set_option linter.unusedVariables false
set_option linter.unusedSimpArgs false
open Go.RowKit
section
variable {P : Program} {ops : Array Oper} {Q : Exit → Act → World → Prop}
theorem region_last2 {id : Nat} {a0 : Act} {w0 : World} (m : Nat) (slot : Nat → Nat) (F : Nat → World → Value → Prop) (T : (Nat → Bool) → World → Prop) (hm : P.follows .mixedOrders = true) (hb : backB .any ops = true)
    (hsz : ops.size = m + 1) (hanc : ((List.range m).all fun j => (ancOf .any ops m m).contains j) = true)
    (hs : ∀ i, slot i < a0.tmps.size) (hinj : ∀ i j, i < m → j < m → slot i = slot j → i = j) (h0 : T (fun _ => false) w0.drew)
    (hdst : ∀ i o, i < m → ops[i]? = some o → o.dst = some (slot i))
    (hstep : ∀ (f : Nat → Bool) (a : Act) (w : World) (i : Nat) (o : Oper), i < m → ops[i]? = some o → f i = false → (∀ e ∈ o.after, Region.binds .any e = true → f e.on = true ∧ F e.on w (a.tmps.getD (slot e.on) undef)) → T f w →
      (∀ j, (∀ i, i < m → slot i ≠ j) → a.tmps.getD j undef = a0.tmps.getD j undef) →
      o.wp P a w (fun a' w' => ∃ v, a' = a.put o.dst v ∧ F i w' v ∧ T (fun j => if j = i then true else f j) w' ∧ ∀ j v', f j = true → F j w v' → F j w' v') Q)
    (hlast : ∀ (f : Nat → Bool) (vs : Nat → Value) (w : World) (o : Oper), ops[m]? = some o → (∀ i, i < m → f i = true) → T f w → (∀ i, i < m → F i w (vs i)) →
      o.wp P { a0 with tmps := fillN slot vs m a0.tmps } w (fun a' w' => Q .normal a' w') Q) :
    (Code.region id ops true).wp P Q a0 w0 := by
  refine region_inv hm hb (fun f a w => ShutF .any ops f ∧ (f m = false → Stand2 a0 m slot F T f a w) ∧ (f m = true → Q .normal a w))
    ⟨(fun i h => by cases h), (fun _ => ⟨rfl, rfl, (fun _ _ => rfl), (fun _ _ _ => rfl), h0, (fun _ _ h => by cases h)⟩), (fun h => by cases h)⟩ ?_ ?_
  · rintro f a w i o ho hf hpre ⟨hc, h1, h2⟩
    have hi := (Array.getElem?_eq_some_iff.1 ho).1
    have hee := edges_of ho hpre
    have hc' : ShutF .any ops (fun j => if j = i then true else f j) := by
      intro x hx y hy
      show (if y = i then true else f y) = true
      by_cases hyi : y = i
      · rw [if_pos hyi]
      · rw [if_neg hyi]
        by_cases hxi : x = i
        · subst hxi; exact hee y hy
        · exact hc x (by simpa [hxi] using hx) y hy
    have hpres : ∀ {g : Nat → Bool}, ShutF .any ops g → (∀ j ∈ edgesOf .any ops m, g j = true) → ∀ j, j < m → g j = true := fun hg he j hj => by
      have h4 := List.all_eq_true.1 hanc j (List.mem_range.2 hj)
      exact anc_true hg m m he j (by simpa using h4)
    by_cases him : i = m
    · subst him
      have hI := h1 hf
      have hall := hpres hc hee
      have e : a = { a0 with tmps := fillN slot (fun j => a.tmps.getD (slot j) undef) i a0.tmps } := by
        have h5 : a.tmps = fillN slot (fun j => a.tmps.getD (slot j) undef) i a0.tmps := by
          refine ext_getD (by rw [fillN_size, hI.size]) (fun j => ?_)
          by_cases hj : ∃ k, k < i ∧ slot k = j
          · obtain ⟨k, hk, rfl⟩ := hj
            rw [fillN_at slot _ _ hs _ hinj k hk]
          · rw [fillN_get slot _ _ hs _ j (fun k hk e => hj ⟨k, hk, e⟩), hI.rest j (fun k hk e => hj ⟨k, hk, e⟩)]
        obtain ⟨t, d⟩ := a
        have h6 := hI.defers
        simp only at h5 h6
        rw [← h5, h6]
      have h7 := hlast f (fun j => a.tmps.getD (slot j) undef) w o ho hall hI.told (fun j hj => hI.have_ j hj (hall j hj))
      rw [← e] at h7
      exact Oper.wp_mono (fun a' w' hT => ⟨hc', fun h => by simp at h, fun _ => hT⟩) h7
    · have hlt : i < m := by omega
      have hfm : f m = false := by
        cases hfm : f m with
        | false => rfl
        | true =>
          have := hpres hc (hc m hfm) i hlt
          rw [hf] at this
          cases this
      have hI := h1 hfm
      refine Oper.wp_mono ?_ (hstep f a w i o hlt ho hf (fun e he hbd => ⟨hpre e he hbd, hI.have_ e.on (by have := (back_of hb ho).2 e he hbd; omega) (hpre e he hbd)⟩) hI.told hI.rest)
      rintro a' w' ⟨v, rfl, hv, ht, hst⟩
      rw [hdst i o hlt ho]
      have hsl : slot i < a.tmps.size := by rw [hI.size]; exact hs i
      refine ⟨hc', fun _ => ⟨hI.defers, by rw [← hI.size]; exact Array.size_setIfInBounds .., fun j hj => ?_, fun j hj hfj => ?_, ht, fun j hj hfj => ?_⟩, fun h => ?_⟩
      · show (a.tmps.setIfInBounds (slot i) v).getD j undef = _
        rw [getD_set _ _ _ _ hsl, if_neg (Ne.symm (hj i hlt))]
        exact hI.rest j hj
      · show (a.tmps.setIfInBounds (slot i) v).getD (slot j) undef = _
        have hji : j ≠ i := fun e => by simp [e] at hfj
        rw [getD_set _ _ _ _ hsl, if_neg (fun e => hji (hinj j i hj hlt e))]
        exact hI.yet j hj (by simpa [hji] using hfj)
      · show F j w' ((a.tmps.setIfInBounds (slot i) v).getD (slot j) undef)
        rw [getD_set _ _ _ _ hsl]
        by_cases hji : j = i
        · subst hji; rw [if_pos rfl]; exact hv
        · rw [if_neg (fun e => hji (hinj j i hj hlt e))]
          have h2 : f j = true := by simpa [hji] using hfj
          exact hst j _ h2 (hI.have_ j hj h2)
      · have h' : (if m = i then true else f m) = true := h
        rw [if_neg (Ne.symm him), hfm] at h'; cases h'
  · rintro f a w hall ⟨_, _, h3⟩
    exact h3 (hall m (by omega))
end
end Go.Proofs.YthfdnlcalefjeaaDoor

/- Steps of drawn regions: an operation that leaves the world, a call, a call of two. -/
namespace Go.Proofs.YthfdnlcalefjeaaDoor
set_option linter.unusedVariables false
set_option linter.unusedSimpArgs false
open Go.RowKit
theorem rg_ev {a : Act} {t : Nat} {v : Value} (h : a.tmps.getD t undef = v) : a.tmps[t]?.getD undef = v := by rw [← Array.getD_eq_getD_getElem?]; exact h
theorem rg_same {P : Program} {o : Oper} {a : Act} {w : World} {Q : Exit → Act → World → Prop} {F : World → Value → Prop} (v : Value) (h : o.wp P a w (fun a' w' => a' = a.put o.dst v ∧ w' = w) Q) (hF : F w v) :
    o.wp P a w (fun a' w' => ∃ v, a' = a.put o.dst v ∧ F w' v ∧ Below w.heap.size w w') Q := by
  refine Oper.wp_mono ?_ h
  rintro a' w' ⟨rfl, rfl⟩
  exact ⟨v, rfl, hF, Below.refl _ _⟩
theorem rg_same2 {P : Program} {o : Oper} {a : Act} {w : World} {Q : Exit → Act → World → Prop} {F : Nat → World → Value → Prop} {T : (Nat → Bool) → World → Prop} {f : Nat → Bool} {i : Nat} (v : Value)
    (h : o.wp P a w (fun a' w' => a' = a.put o.dst v ∧ w' = w) Q) (hF : F i w v) (hT : T (fun j => if j = i then true else f j) w) :
    o.wp P a w (fun a' w' => ∃ v, a' = a.put o.dst v ∧ F i w' v ∧ T (fun j => if j = i then true else f j) w' ∧ ∀ j v', f j = true → F j w v' → F j w' v') Q := by
  refine Oper.wp_mono ?_ h
  rintro a' w' ⟨rfl, rfl⟩
  exact ⟨v, rfl, hF, hT, fun _ _ _ h => h⟩
theorem rg_call {P : Program} {o : Oper} {a : Act} {w : World} {K : Act → World → Prop} {Q : Exit → Act → World → Prop} (t k : Nat) (ty : Array TypeId) (v : Value) (R : Ending → World → Prop) (ho : o.op = Op.call { callee := .value (.func k), args := #[.tmp t], argTypes := ty }) (hv : a.tmps.getD t undef = v)
    (eg : ∀ args w, (callFunc k args).run P w = .ok (.enter k args) w) (hc : Calls P k #[v] w R) (hR : ∀ e w', R e w' → ∃ r, e = .returned r ∧ K (a.put o.dst r) w') : o.wp P a w K Q := by
  have e := rg_ev hv
  have e2 : a.eval (.func k) = .func (.func k) #[] #[] := rfl
  unfold Oper.wp execOp
  simp [ho, resolve, invoke, e2, e, eg, go_sem]
  refine hc.mono ?_
  intro z w' hz
  obtain ⟨r, rfl, hk⟩ := hR z w' hz
  exact hk
theorem rg_callc {P : Program} {o : Oper} {a : Act} {w : World} {K : Act → World → Prop} {Q : Exit → Act → World → Prop} (t k : Nat) (ty : Array TypeId) (v c : Value) (R : Ending → World → Prop) (ho : o.op = Op.call { callee := .value (.func k), args := #[.tmp t, .const c], argTypes := ty }) (hv : a.tmps.getD t undef = v)
    (eg : ∀ args w, (callFunc k args).run P w = .ok (.enter k args) w) (hc : Calls P k #[v, c] w R) (hR : ∀ e w', R e w' → ∃ r, e = .returned r ∧ K (a.put o.dst r) w') : o.wp P a w K Q := by
  have e := rg_ev hv
  have e2 : a.eval (.func k) = .func (.func k) #[] #[] := rfl
  have e3 : a.eval (.const c) = c := rfl
  unfold Oper.wp execOp
  simp [ho, resolve, invoke, e2, e3, e, eg, go_sem]
  refine hc.mono ?_
  intro z w' hz
  obtain ⟨r, rfl, hk⟩ := hR z w' hz
  exact hk
theorem rg_call2 {P : Program} {o : Oper} {a : Act} {w : World} {K : Act → World → Prop} {Q : Exit → Act → World → Prop} (s t k : Nat) (ty : Array TypeId) (u v : Value) (R : Ending → World → Prop) (ho : o.op = Op.call { callee := .value (.func k), args := #[.tmp s, .tmp t], argTypes := ty }) (hu : a.tmps.getD s undef = u) (hv : a.tmps.getD t undef = v)
    (eg : ∀ args w, (callFunc k args).run P w = .ok (.enter k args) w) (hc : Calls P k #[u, v] w R) (hR : ∀ e w', R e w' → ∃ r, e = .returned r ∧ K (a.put o.dst r) w') : o.wp P a w K Q := by
  have e := rg_ev hv
  have e1 := rg_ev hu
  have e2 : a.eval (.func k) = .func (.func k) #[] #[] := rfl
  unfold Oper.wp execOp
  simp [ho, resolve, invoke, e2, e, e1, eg, go_sem]
  refine hc.mono ?_
  intro z w' hz
  obtain ⟨r, rfl, hk⟩ := hR z w' hz
  exact hk
end Go.Proofs.YthfdnlcalefjeaaDoor

/- head: must, caught of a frame that returns; Check of a head that may be. -/
namespace Go.Proofs.YthfdnlcalefjeaaDoor
set_option linter.unusedVariables false
set_option linter.unusedSimpArgs false
open Go.RowKit Go.Shelf
set_option maxHeartbeats 4000000
set_option maxRecDepth 100000
/-- a slice of headers -/
def HS (w : World) (v : Value) (L : List Hp.Hd) : Prop :=
  (v = .slice none 0 0 ∧ L = []) ∨ ∃ b off cap, v = .slice (some ⟨b, off, none⟩) L.length cap ∧ ∀ j, j < L.length → w.cell? ⟨b, off + j * 2, none⟩ = some (Hp.sx (L.getD j ([], [])).1) ∧ w.cell? ⟨b, off + j * 2 + 1, none⟩ = some (Hp.sx (L.getD j ([], [])).2)
theorem HS.below {w w' : World} {v : Value} {L : List Hp.Hd} (h : HS w v L) (k : Below w.heap.size w w') : HS w' v L := by
  rcases h with h | ⟨b, off, cap, h1, h3⟩
  · exact .inl h
  · exact .inr ⟨b, off, cap, h1, fun j hj => ⟨(k.cell (p := ⟨b, off + j * 2, none⟩) (lt_of_cell (h3 j hj).1)).trans (h3 j hj).1, (k.cell (p := ⟨b, off + j * 2 + 1, none⟩) (lt_of_cell (h3 j hj).2)).trans (h3 j hj).2⟩⟩
theorem HS.slice {w : World} {v : Value} {L : List Hp.Hd} (h : HS w v L) : ∃ p c, v = .slice p L.length c := by
  rcases h with ⟨rfl, rfl⟩ | ⟨b, off, cap, rfl, _⟩
  · exact ⟨_, _, rfl⟩
  · exact ⟨_, _, rfl⟩
theorem HS.cells {w : World} {p : Option Addr} {n c : Nat} {L : List Hp.Hd} (h : HS w (.slice p n c) L) {k : Nat} (hk : k < L.length) : ∃ b off, p = some ⟨b, off, none⟩ ∧ ∀ j, j < L.length → w.cell? ⟨b, off + j * 2, none⟩ = some (Hp.sx (L.getD j ([], [])).1) ∧ w.cell? ⟨b, off + j * 2 + 1, none⟩ = some (Hp.sx (L.getD j ([], [])).2) := by
  rcases h with ⟨_, rfl⟩ | ⟨b, off, cap, h1, h3⟩
  · simp at hk
  · refine ⟨b, off, by injection h1, h3⟩
theorem hd_must (n : Int) (w : World) :
    Calls Tryd.prog 55 #[.bool true, .int .i64 n] w fun e w' => e = .returned (.tuple #[]) ∧ w' = w := by
  go_enter Tryd.func55, Tryd.ntmps55
  go_wp2
  all_goals first | contradiction | simp [bodyPost, results, Tryd.results55, go_sem]
theorem hd_caught_idle (p : Addr) (w : World) :
    CallsD Tryd.prog 54 #[.pointer (some p)] .returning w fun e u' w' => e = .returned (.tuple #[]) ∧ u' = .returning ∧ w' = w := by
  refine callsD_of_wpS Tryd.func54 rfl fun c₀ cs hu => ?_
  apply wpS_seq
  apply wpS_region
  simp [wpOpsS, go_sem, recoverD, hu, Tryd.ntmps54, Exit.thenS]
  apply wpS_seq
  apply wpS_region
  simp [wpOpsS, go_sem, recoverD, hu, Exit.thenS]
  refine wpS_cond (t := false) (by simp [Act.eval, Array.replicate]) ?_
  simp only [Bool.false_eq_true, if_false]
  refine wpS_of_wp (wp_skip ?_)
  cases c₀
  simp_all [bodyPostS, results, Tryd.results54]
def ckF (V : Nat) (nb vb : ByteArray) : Nat → World → Value → Prop
  | 0, _, v => v = .pointer (some ⟨V, 0, none⟩)
  | 1, _, v => v = .string nb
  | 2, _, v => v = .bool true
  | 3, _, v => v = .bool true
  | 4, _, v => v = .pointer (some ⟨V, 0, none⟩)
  | 5, _, v => v = .string nb
  | 6, _, v => v = .string nb
  | 7, _, v => v = .pointer (some ⟨V, 0, none⟩)
  | 8, _, v => v = .string nb
  | 9, _, v => v = .bool true
  | 10, _, v => v = .bool true
  | 11, _, v => v = .bool true
  | 12, _, v => v = .pointer (some ⟨V, 1, none⟩)
  | 13, _, v => v = .string vb
  | 14, _, v => v = .bool true
  | 15, _, v => v = .bool true
  | 16, _, v => v = .tuple #[]
  | _, _, _ => False
theorem x_mid (F : List UInt8) : ((⟨#[120]⟩ : ByteArray) ++ ⟨F.toArray⟩ ++ ⟨#[120]⟩).data.toList = 120 :: F ++ [120] := by simp
theorem take_one (F : List UInt8) : ((⟨F.toArray⟩ : ByteArray).extract 0 1).data.toList = F.take 1 := by
  rw [Lib.extract_data]; simp
theorem hd_Check (F : List UInt8) (v : Value) (fs : List Hp.Hd) (w : World) (hv : HS w v fs) (hok : Hp.HOk F fs) (hF : F.length ≤ 100000) (hl : fs.length ≤ 100000) (hs : ∀ f ∈ fs, f.1.length ≤ 100000 ∧ f.2.length ≤ 100000) :
    Calls Tryd.prog 46 #[.agg #[Hp.sx F, v]] w fun e w' => e = .returned (.int .i64 0) ∧ Below w.heap.size w w' := by
  obtain ⟨p, c, rfl⟩ := hv.slice
  unfold Hp.sx
  have hba := x_mid F
  have hta := take_one F
  have hne : ((⟨F.toArray⟩ : ByteArray).toList == []) = false := by
    rw [ByteArray.toList_eq]; exact beq_eq_false_iff_ne.2 (by simpa using hok.ne)
  have hFs : (⟨F.toArray⟩ : ByteArray).size = F.length := by simp [ByteArray.size]
  have hpos : 1 ≤ F.length := List.length_pos_iff.2 hok.ne
  obtain ⟨N, hN⟩ : ∃ N, fs.length = N := ⟨_, rfl⟩
  rw [hN] at hv hl ⊢
  have HTR := Lib.hid hok.first
  have HVL := Lib.hid hok.val
  obtain ⟨fb, hfb⟩ : ∃ z : ByteArray, (⟨F.toArray⟩ : ByteArray) = z := ⟨_, rfl⟩
  rw [hfb] at hba hta hne hFs ⊢
  have hfs1 : 1 ≤ fb.size := by omega
  have hfs2 : fb.size ≤ 100000 := by omega
  have hsl : ∀ W, (Instr.slice 9 (.string fb) none (some (.int .i64 1)) none).run Tryd.prog W = .ok (.string (fb.extract 0 1)) W := fun W => by
    have h2 : (1 : Int) ≤ fb.size := by omega
    simp [go_sem, Tryd.underlying9, h2]
  obtain ⟨tb, htb⟩ : ∃ z : ByteArray, fb.extract 0 1 = z := ⟨_, rfl⟩
  rw [htb] at hta hsl
  obtain ⟨xb, hxb⟩ : ∃ z : ByteArray, (⟨#[120]⟩ : ByteArray) ++ fb ++ ⟨#[120]⟩ = z := ⟨_, rfl⟩
  rw [hxb] at hba
  have htbs : tb.size ≤ 9223372036854775807 := by
    have h1 : tb.data.toList.length = tb.size := rfl
    rw [hta, List.length_take] at h1; omega
  have hxbs : xb.size ≤ 9223372036854775807 := by
    have h1 : xb.data.toList.length = xb.size := rfl
    rw [hba] at h1; simp at h1; omega
  have KT := Lib.hid (fun W => tok_trim tb W htbs)
  have KV := Lib.hid (fun W => tok_value xb W hxbs)
  rw [hba, HVL.out] at KV
  obtain ⟨ub, hub⟩ : ∃ z : ByteArray, (⟨(Tp.trim tb.data.toList).toArray⟩ : ByteArray) = z := ⟨_, rfl⟩
  have hun : (ub.toList == []) = false := by
    rw [← hub, ByteArray.toList_eq, hta]; exact beq_eq_false_iff_ne.2 (by simpa using HTR.out)
  rw [hub] at KT
  have HXB := Lib.hid hxb
  clear hub hta hba htb hFs hpos hfb hxb htbs hxbs
  obtain ⟨H, hH⟩ : ∃ H, w.heap.size = H := ⟨_, rfl⟩
  obtain ⟨W2, hW2⟩ : ∃ Z, (w.alloc (.cells #[.string fb, .slice p N c] 45)).alloc (.cells #[.int .i64 0] 23) = Z := ⟨_, rfl⟩
  have HB2 := Lib.hid (show Below H w W2 by rw [← hW2, ← hH]; exact ((Below.refl _ _).alloc (Nat.le_refl _) _).alloc (by simp) _)
  have HZ2 := Lib.hid (show W2.heap.size = H + 2 by rw [← hW2, ← hH]; simp)
  have HG0 := Lib.hid (show W2.heap[H]? = some (.cells #[.string fb, .slice p N c] 45 (0, 0)) by
    rw [← hW2, ← hH, Below.heap_alloc _ _ _ (by simp)]; exact World.alloc_heap_new _ _)
  have HG1 := Lib.hid (show W2.heap[H + 1]? = some (.cells #[.int .i64 0] 23 (0, 0)) by
    rw [← hW2, ← hH]
    have := World.alloc_heap_new (w.alloc (.cells #[.string fb, .slice p N c] 45)) (.cells #[.int .i64 0] 23)
    simpa using this)
  have HV2 := Lib.hid (hv.below (by rw [hH]; exact HB2.out))
  have HW2 := Lib.hid hW2
  have HHH := Lib.hid hH
  have HOK := Lib.hid hok.each
  have HSS := Lib.hid hs
  have HNN := Lib.hid hN
  clear hv hok hs hN
  have a0 : W2.cell? ⟨H, 0, none⟩ = some (.string fb) := by simp [World.cell?, HG0.out]
  have a1 : W2.cell? ⟨H, 1, none⟩ = some (.slice p N c) := by simp [World.cell?, HG0.out]
  clear hH hW2
  go_enter_defers Tryd.func46, Tryd.ntmps46
  go_wp2_with fail
  rw [HHH.out, HW2.out]
  refine (KT.out W2).mono ?_
  rintro e w3 ⟨rfl, hb3⟩
  have HC3 := Lib.hid hb3
  have hg3 := (hb3.block H (by rw [HZ2.out]; omega)).trans HG0.out
  have b0 : w3.cell? ⟨H, 0, none⟩ = some (.string fb) := by simp [World.cell?, hg3]
  clear hb3 hg3 a0 a1
  go_wp2_with fail
  rw [HXB.out]
  refine (KV.out w3).mono ?_
  rintro e w4 ⟨rfl, hb4⟩
  have HC4 := Lib.hid (HC3.out.trans (hb4.mono HC3.out.size))
  clear hb4 b0
  go_wp2_with fail
  refine (hd_must 2 w4).mono ?_
  rintro e w5 ⟨rfl, hw5⟩
  subst w5
  have hg4 := (HC4.out.block H (by rw [HZ2.out]; omega)).trans HG0.out
  have b1 : w4.cell? ⟨H, 1, none⟩ = some (.slice p N c) := by simp [World.cell?, hg4]
  clear hg4
  go_wp2_with fail
  clear b1
  go_loopw [26] (fun i wr => ∃ k : Nat, k ≤ N ∧ i = .int .i64 k ∧ Below W2.heap.size W2 wr) (fun i _ => N - (intOf i).toNat)
  case atStart => exact ⟨0, Nat.zero_le _, rfl, HC4.out⟩
  case round =>
    obtain ⟨k, hk, rfl, hbl⟩ := hrel
    have HBL := Lib.hid hbl
    clear hbl
    by_cases hlt : k < N
    · obtain ⟨g1, o1, rfl, hc1⟩ := (HV2.out.below HBL.out).cells (k := k) (by rw [HNN.out]; exact hlt)
      obtain ⟨hx, hy⟩ := hc1 k (by rw [HNN.out]; exact hlt)
      obtain ⟨⟨n0, v0⟩, hf⟩ : ∃ x, fs.getD k ([], []) = x := ⟨_, rfl⟩
      have hmem : (n0, v0) ∈ fs := by rw [← hf, List.getD_eq_getElem?_getD, List.getElem?_eq_getElem (by rw [HNN.out]; exact hlt)]; exact List.getElem_mem _
      have hokf := HOK.out _ hmem
      have hszf := HSS.out _ hmem
      rw [hf] at hx hy
      unfold Hp.sx at hx hy
      simp only at hx hy hokf hszf
      have hns := (show (⟨n0.toArray⟩ : ByteArray).size = n0.length by simp [ByteArray.size])
      have hvs := (show (⟨v0.toArray⟩ : ByteArray).size = v0.length by simp [ByteArray.size])
      have hnd : (⟨n0.toArray⟩ : ByteArray).data.toList = n0 := by simp
      have hvd : (⟨v0.toArray⟩ : ByteArray).data.toList = v0 := by simp
      obtain ⟨nb, hnb⟩ : ∃ z : ByteArray, (⟨n0.toArray⟩ : ByteArray) = z := ⟨_, rfl⟩
      obtain ⟨vb, hvb⟩ : ∃ z : ByteArray, (⟨v0.toArray⟩ : ByteArray) = z := ⟨_, rfl⟩
      rw [hnb] at hx hns hnd
      rw [hvb] at hy hvs hvd
      have KTO := Lib.hid (fun W => tok_token nb W (by omega))
      have KLO := Lib.hid (fun W => tok_lower nb W (by omega))
      have KVA := Lib.hid (fun W => tok_value vb W (by omega))
      rw [hnd, hokf.1] at KTO
      rw [hnd, hokf.2.1, hnb] at KLO
      rw [hvd, hokf.2.2] at KVA
      obtain ⟨V, hV⟩ : ∃ z, wr.heap.size = z := ⟨_, rfl⟩
      obtain ⟨W6, hW6⟩ : ∃ Z, wr.alloc (.cells #[.string nb, .string vb] 74) = Z := ⟨_, rfl⟩
      have hb6 : Below wr.heap.size wr W6 := by rw [← hW6]; exact (Below.refl _ _).alloc (Nat.le_refl _) _
      have HB6 := Lib.hid (HBL.out.trans (hb6.mono HBL.out.size))
      have hg6 : W6.heap[V]? = some (.cells #[.string nb, .string vb] 74 (0, 0)) := by rw [← hW6, ← hV]; exact World.alloc_heap_new _ _
      have HVL0 := Lib.hid (show V < W6.heap.size from (Array.getElem?_eq_some_iff.1 hg6).1)
      have HC0 := Lib.hid (show W6.cell? ⟨V, 0, none⟩ = some (.string nb) by simp [World.cell?, hg6])
      have HC1 := Lib.hid (show W6.cell? ⟨V, 1, none⟩ = some (.string vb) by simp [World.cell?, hg6])
      have HW6 := Lib.hid hW6
      have HVV := Lib.hid hV
      clear hf hmem hokf hszf hns hvs hnd hvd hnb hvb hc1 hb6 hg6 hW6 hV
      go_wp2_with fail
      rw [HVV.out, HW6.out]
      clear hx hy
      refine region_slotsG (fun i => 30 + min i 16) (ckF V nb vb) (fun _ => true) (by kernel_rfl) (by kernel_rfl) (fun i => by show 30 + min i 16 < _; simp; omega) (fun i j hi hj h => by have hi : i < 17 := hi; have hj : j < 17 := hj; omega) ?mono ?dst ?gu ?ng ?skip ?step ?done
      case mono =>
        intro i W W' v h _
        match i, h with
        | 0, h | 1, h | 2, h | 3, h | 4, h | 5, h | 6, h | 7, h | 8, h | 9, h | 10, h | 11, h | 12, h | 13, h | 14, h | 15, h | 16, h => exact h
        | n + 17, h => exact h.elim
      case dst =>
        intro i o ho
        match i, ho with
        | 0, ho | 1, ho | 2, ho | 3, ho | 4, ho | 5, ho | 6, ho | 7, ho | 8, ho | 9, ho | 10, ho | 11, ho | 12, ho | 13, ho | 14, ho | 15, ho | 16, ho => cases ho; rfl
        | n + 17, ho => exact absurd ho (by simp)
      case gu =>
        intro i o g b ho hgd W v hv
        match i, ho with
        | 0, ho => cases ho; cases hgd
        | 1, ho => cases ho; cases hgd
        | 2, ho => cases ho; cases hgd
        | 3, ho => cases ho; cases hgd
        | 4, ho => cases ho; cases hgd; exact hv
        | 5, ho => cases ho; cases hgd; exact hv
        | 6, ho => cases ho; cases hgd; exact hv
        | 7, ho => cases ho; cases hgd; exact hv
        | 8, ho => cases ho; cases hgd; exact hv
        | 9, ho => cases ho; cases hgd; exact hv
        | 10, ho => cases ho; cases hgd
        | 11, ho => cases ho; cases hgd
        | 12, ho => cases ho; cases hgd; exact hv
        | 13, ho => cases ho; cases hgd; exact hv
        | 14, ho => cases ho; cases hgd; exact hv
        | 15, ho => cases ho; cases hgd
        | 16, ho => cases ho; cases hgd
        | n + 17, ho => exact absurd ho (by simp)
      case ng =>
        intro i o ho hgd
        match i, ho with
        | 0, ho => cases ho; first | rfl | cases hgd
        | 1, ho => cases ho; first | rfl | cases hgd
        | 2, ho => cases ho; first | rfl | cases hgd
        | 3, ho => cases ho; first | rfl | cases hgd
        | 4, ho => cases ho; first | rfl | cases hgd
        | 5, ho => cases ho; first | rfl | cases hgd
        | 6, ho => cases ho; first | rfl | cases hgd
        | 7, ho => cases ho; first | rfl | cases hgd
        | 8, ho => cases ho; first | rfl | cases hgd
        | 9, ho => cases ho; first | rfl | cases hgd
        | 10, ho => cases ho; first | rfl | cases hgd
        | 11, ho => cases ho; first | rfl | cases hgd
        | 12, ho => cases ho; first | rfl | cases hgd
        | 13, ho => cases ho; first | rfl | cases hgd
        | 14, ho => cases ho; first | rfl | cases hgd
        | 15, ho => cases ho; first | rfl | cases hgd
        | 16, ho => cases ho; first | rfl | cases hgd
        | n + 17, ho => exact absurd ho (by simp)
      case skip =>
        intro i W hi hsel
        match i, hi, hsel with
        | 0, _, hsel => first | exact absurd hsel (by decide) | rfl
        | 1, _, hsel => first | exact absurd hsel (by decide) | rfl
        | 2, _, hsel => first | exact absurd hsel (by decide) | rfl
        | 3, _, hsel => first | exact absurd hsel (by decide) | rfl
        | 4, _, hsel => first | exact absurd hsel (by decide) | rfl
        | 5, _, hsel => first | exact absurd hsel (by decide) | rfl
        | 6, _, hsel => first | exact absurd hsel (by decide) | rfl
        | 7, _, hsel => first | exact absurd hsel (by decide) | rfl
        | 8, _, hsel => first | exact absurd hsel (by decide) | rfl
        | 9, _, hsel => first | exact absurd hsel (by decide) | rfl
        | 10, _, hsel => first | exact absurd hsel (by decide) | rfl
        | 11, _, hsel => first | exact absurd hsel (by decide) | rfl
        | 12, _, hsel => first | exact absurd hsel (by decide) | rfl
        | 13, _, hsel => first | exact absurd hsel (by decide) | rfl
        | 14, _, hsel => first | exact absurd hsel (by decide) | rfl
        | 15, _, hsel => first | exact absurd hsel (by decide) | rfl
        | 16, _, hsel => first | exact absurd hsel (by decide) | rfl
        | n + 17, hi, _ => exact absurd hi (by simp)
      case step =>
        intro f a' W i o ho hsel hpre hbel hrest
        match i, ho, hsel with
        | 0, ho, _ =>
          cases ho
          have q4 : a'.tmps.getD 4 undef = .pointer (some ⟨V, 0, none⟩) := (hrest 4 (by intro i hi; have hi : i < 17 := hi; show 30 + min i 16 ≠ _; omega))
          have e4 := rg_ev q4
          exact rg_same (.pointer (some ⟨V, 0, none⟩)) (by unfold Oper.wp execOp; go_simp; all_goals ((try simp only [e4]); (try go_simp); first | done | rfl | exact ⟨rfl, rfl⟩ | trivial)) rfl
        | 1, ho, _ =>
          cases ho
          have q30 : a'.tmps.getD 30 undef = .pointer (some ⟨V, 0, none⟩) := (hpre { on := 0, ground := .data } (by simp) rfl)
          have c0 : W.cell? ⟨V, 0, none⟩ = some (.string nb) := (hbel.cell (p := ⟨V, 0, none⟩) HVL0.out).trans HC0.out
          have e30 := rg_ev q30
          exact rg_same (.string nb) (by unfold Oper.wp execOp; go_simp; all_goals ((try simp only [e30]); (try go_simp); first | done | rfl | exact ⟨rfl, rfl⟩ | trivial)) rfl
        | 2, ho, _ =>
          cases ho
          have q31 : a'.tmps.getD 31 undef = .string nb := (hpre { on := 1, ground := .data } (by simp) rfl)
          exact rg_call 31 58 _ _ _ rfl q31 (enters_of Tryd.func58 (by kernel_rfl) rfl) (KTO.out W) (fun e w' h => ⟨_, h.1, _, rfl, rfl, h.2⟩)
        | 3, ho, _ =>
          cases ho
          have q32 : a'.tmps.getD 32 undef = .bool true := (hpre { on := 2, ground := .data } (by simp) rfl)
          have e32 := rg_ev q32
          exact rg_same (.bool true) (by unfold Oper.wp execOp; go_simp; all_goals ((try simp only [e32]); (try go_simp); first | done | rfl | exact ⟨rfl, rfl⟩ | trivial)) rfl
        | 4, ho, _ =>
          cases ho
          have q4 : a'.tmps.getD 4 undef = .pointer (some ⟨V, 0, none⟩) := (hrest 4 (by intro i hi; have hi : i < 17 := hi; show 30 + min i 16 ≠ _; omega))
          have e4 := rg_ev q4
          exact rg_same (.pointer (some ⟨V, 0, none⟩)) (by unfold Oper.wp execOp; go_simp; all_goals ((try simp only [e4]); (try go_simp); first | done | rfl | exact ⟨rfl, rfl⟩ | trivial)) rfl
        | 5, ho, _ =>
          cases ho
          have q34 : a'.tmps.getD 34 undef = .pointer (some ⟨V, 0, none⟩) := (hpre { on := 4, ground := .data } (by simp) rfl)
          have c0 : W.cell? ⟨V, 0, none⟩ = some (.string nb) := (hbel.cell (p := ⟨V, 0, none⟩) HVL0.out).trans HC0.out
          have e34 := rg_ev q34
          exact rg_same (.string nb) (by unfold Oper.wp execOp; go_simp; all_goals ((try simp only [e34]); (try go_simp); first | done | rfl | exact ⟨rfl, rfl⟩ | trivial)) rfl
        | 6, ho, _ =>
          cases ho
          have q35 : a'.tmps.getD 35 undef = .string nb := (hpre { on := 5, ground := .data } (by simp) rfl)
          exact rg_call 35 31 _ _ _ rfl q35 (enters_of Tryd.func31 (by kernel_rfl) rfl) (KLO.out W) (fun e w' h => ⟨_, h.1, _, rfl, rfl, h.2⟩)
        | 7, ho, _ =>
          cases ho
          have q4 : a'.tmps.getD 4 undef = .pointer (some ⟨V, 0, none⟩) := (hrest 4 (by intro i hi; have hi : i < 17 := hi; show 30 + min i 16 ≠ _; omega))
          have e4 := rg_ev q4
          exact rg_same (.pointer (some ⟨V, 0, none⟩)) (by unfold Oper.wp execOp; go_simp; all_goals ((try simp only [e4]); (try go_simp); first | done | rfl | exact ⟨rfl, rfl⟩ | trivial)) rfl
        | 8, ho, _ =>
          cases ho
          have q37 : a'.tmps.getD 37 undef = .pointer (some ⟨V, 0, none⟩) := (hpre { on := 7, ground := .data } (by simp) rfl)
          have c0 : W.cell? ⟨V, 0, none⟩ = some (.string nb) := (hbel.cell (p := ⟨V, 0, none⟩) HVL0.out).trans HC0.out
          have e37 := rg_ev q37
          exact rg_same (.string nb) (by unfold Oper.wp execOp; go_simp; all_goals ((try simp only [e37]); (try go_simp); first | done | rfl | exact ⟨rfl, rfl⟩ | trivial)) rfl
        | 9, ho, _ =>
          cases ho
          have q36 : a'.tmps.getD 36 undef = .string nb := (hpre { on := 6, ground := .data } (by simp) rfl)
          have q38 : a'.tmps.getD 38 undef = .string nb := (hpre { on := 8, ground := .data } (by simp) rfl)
          have hnn : (nb.toList == nb.toList) = true := beq_self_eq_true _
          have e36 := rg_ev q36
          have e38 := rg_ev q38
          exact rg_same (.bool true) (by unfold Oper.wp execOp; go_simp; all_goals ((try simp only [e36, e38]); (try go_simp); first | done | rfl | exact ⟨rfl, rfl⟩ | trivial)) rfl
        | 10, ho, _ =>
          cases ho
          have q33 : a'.tmps.getD 33 undef = .bool true := (hpre { on := 3, ground := .data } (by simp) rfl)
          have q39 : a'.tmps.getD 39 undef = .bool true := (hpre { on := 9, ground := .data } (by simp) rfl)
          have e33 := rg_ev q33
          have e39 := rg_ev q39
          exact rg_same (.bool true) (by unfold Oper.wp execOp; go_simp; all_goals ((try simp only [e33, e39]); (try go_simp); first | done | rfl | exact ⟨rfl, rfl⟩ | trivial)) rfl
        | 11, ho, _ =>
          cases ho
          have q40 : a'.tmps.getD 40 undef = .bool true := (hpre { on := 10, ground := .data } (by simp) rfl)
          have e40 := rg_ev q40
          exact rg_same (.bool true) (by unfold Oper.wp execOp; go_simp; all_goals ((try simp only [e40]); (try go_simp); first | done | rfl | exact ⟨rfl, rfl⟩ | trivial)) rfl
        | 12, ho, _ =>
          cases ho
          have q4 : a'.tmps.getD 4 undef = .pointer (some ⟨V, 0, none⟩) := (hrest 4 (by intro i hi; have hi : i < 17 := hi; show 30 + min i 16 ≠ _; omega))
          have e4 := rg_ev q4
          exact rg_same (.pointer (some ⟨V, 1, none⟩)) (by unfold Oper.wp execOp; go_simp; all_goals ((try simp only [e4]); (try go_simp); first | done | rfl | exact ⟨rfl, rfl⟩ | trivial)) rfl
        | 13, ho, _ =>
          cases ho
          have q42 : a'.tmps.getD 42 undef = .pointer (some ⟨V, 1, none⟩) := (hpre { on := 12, ground := .data } (by simp) rfl)
          have c1 : W.cell? ⟨V, 1, none⟩ = some (.string vb) := (hbel.cell (p := ⟨V, 1, none⟩) HVL0.out).trans HC1.out
          have e42 := rg_ev q42
          exact rg_same (.string vb) (by unfold Oper.wp execOp; go_simp; all_goals ((try simp only [e42]); (try go_simp); first | done | rfl | exact ⟨rfl, rfl⟩ | trivial)) rfl
        | 14, ho, _ =>
          cases ho
          have q43 : a'.tmps.getD 43 undef = .string vb := (hpre { on := 13, ground := .data } (by simp) rfl)
          exact rg_call 43 57 _ _ _ rfl q43 (enters_of Tryd.func57 (by kernel_rfl) rfl) (KVA.out W) (fun e w' h => ⟨_, h.1, _, rfl, rfl, h.2⟩)
        | 15, ho, _ =>
          cases ho
          have q41 : a'.tmps.getD 41 undef = .bool true := (hpre { on := 11, ground := .data } (by simp) rfl)
          have q44 : a'.tmps.getD 44 undef = .bool true := (hpre { on := 14, ground := .data } (by simp) rfl)
          have e41 := rg_ev q41
          have e44 := rg_ev q44
          exact rg_same (.bool true) (by unfold Oper.wp execOp; go_simp; all_goals ((try simp only [e41, e44]); (try go_simp); first | done | rfl | exact ⟨rfl, rfl⟩ | trivial)) rfl
        | 16, ho, _ =>
          cases ho
          have q45 : a'.tmps.getD 45 undef = .bool true := (hpre { on := 15, ground := .data } (by simp) rfl)
          exact rg_callc 45 55 _ _ _ _ rfl q45 (enters_of Tryd.func55 (by kernel_rfl) rfl) (hd_must 2 W) (fun e w' h => ⟨_, h.1, _, rfl, rfl, by rw [h.2]; exact Below.refl _ _⟩)
        | n + 17, ho, _ => exact absurd ho (by simp)
      case done =>
        intro vs W hbel hvs
        have v0 : vs 0 = .pointer (some ⟨V, 0, none⟩) := hvs 0 (by decide)
        have v1 : vs 1 = .string nb := hvs 1 (by decide)
        have v2 : vs 2 = .bool true := hvs 2 (by decide)
        have v3 : vs 3 = .bool true := hvs 3 (by decide)
        have v4 : vs 4 = .pointer (some ⟨V, 0, none⟩) := hvs 4 (by decide)
        have v5 : vs 5 = .string nb := hvs 5 (by decide)
        have v6 : vs 6 = .string nb := hvs 6 (by decide)
        have v7 : vs 7 = .pointer (some ⟨V, 0, none⟩) := hvs 7 (by decide)
        have v8 : vs 8 = .string nb := hvs 8 (by decide)
        have v9 : vs 9 = .bool true := hvs 9 (by decide)
        have v10 : vs 10 = .bool true := hvs 10 (by decide)
        have v11 : vs 11 = .bool true := hvs 11 (by decide)
        have v12 : vs 12 = .pointer (some ⟨V, 1, none⟩) := hvs 12 (by decide)
        have v13 : vs 13 = .string vb := hvs 13 (by decide)
        have v14 : vs 14 = .bool true := hvs 14 (by decide)
        have v15 : vs 15 = .bool true := hvs 15 (by decide)
        have v16 : vs 16 = .tuple #[] := hvs 16 (by decide)
        have HBR := Lib.hid hbel
        simp only [fillN, List.size_toArray, List.length_cons, List.length_nil, Nat.reduceAdd, show List.range 17 = [0, 1, 2, 3, 4, 5, 6, 7, 8, 9, 10, 11, 12, 13, 14, 15, 16] from rfl, List.foldl_cons, List.foldl_nil, show 30 + min 0 16 = 30 from rfl, show 30 + min 1 16 = 31 from rfl, show 30 + min 2 16 = 32 from rfl, show 30 + min 3 16 = 33 from rfl, show 30 + min 4 16 = 34 from rfl, show 30 + min 5 16 = 35 from rfl, show 30 + min 6 16 = 36 from rfl, show 30 + min 7 16 = 37 from rfl, show 30 + min 8 16 = 38 from rfl, show 30 + min 9 16 = 39 from rfl, show 30 + min 10 16 = 40 from rfl, show 30 + min 11 16 = 41 from rfl, show 30 + min 12 16 = 42 from rfl, show 30 + min 13 16 = 43 from rfl, show 30 + min 14 16 = 44 from rfl, show 30 + min 15 16 = 45 from rfl, show 30 + min 16 16 = 46 from rfl, v0, v1, v2, v3, v4, v5, v6, v7, v8, v9, v10, v11, v12, v13, v14, v15, v16]
        clear v0 v1 v2 v3 v4 v5 v6 v7 v8 v9 v10 v11 v12 v13 v14 v15 v16 hvs hbel
        go_simp
        go_wp2_with fail
        go_roundw
        case rel => exact ⟨k + 1, by omega, by go_num, HB6.out.trans (HBR.out.mono HB6.out.size)⟩
        case measure => simp [intOf]; omega
    · have HBH := Lib.hid (show Below H w wr from HB2.out.trans (HBL.out.mono (by rw [HZ2.out]; omega)))
      have hd1 : wr.heap[H + 1]? = some (.cells #[.int .i64 0] 23 (0, 0)) := (HBL.out.block _ (by rw [HZ2.out]; omega)).trans HG1.out
      have c1 : wr.cell? ⟨H + 1, 0, none⟩ = some (.int .i64 0) := by simp [World.cell?, hd1]
      have z1 : wr.frozen? ⟨H + 1, 0, none⟩ = false := frozen_of_row _ _ _ _ _ hd1
      clear hd1
      go_wp2
      refine leaves_cons (f := 54) (args := #[.pointer (some ⟨H + 1, 0, none⟩)]) (by simp) (by simp [go_sem]) ?_
      refine (hd_caught_idle _ _).mono ?_
      rintro e u' w'' ⟨rfl, rfl, rfl⟩
      simp [Leaves, settle, results, Tryd.results46, go_sem, c1]
      rw [HHH.out]
      exact HBH.out.setCell (Nat.le_succ _) _
end Go.Proofs.YthfdnlcalefjeaaDoor

/- Slices of bytes, and slices of such, as they lie in memory. No condition but those that each lemma states. -/
namespace Go.Proofs.YthfdnlcalefjeaaDoor
set_option linter.unusedVariables false
set_option linter.unusedSimpArgs false
open Go.RowKit
def by8 (b : UInt8) : Value := .int .u8 (b.toNat : Int)
/-- a slice of bytes -/
def BRow (w : World) (v : Value) (l : List UInt8) : Prop := ∃ ao cap, v = .slice ao l.length cap ∧ l.length ≤ cap ∧
  ((ao = none ∧ l = [] ∧ cap = 0) ∨ ∃ g o, ao = some ⟨g, o, none⟩ ∧ ∀ j, j < l.length → w.cell? ⟨g, o + j, none⟩ = some (by8 (l.getD j 0)))
theorem BRow.below {w w' : World} {v : Value} {l : List UInt8} (h : BRow w v l) (hb : Below w.heap.size w w') : BRow w' v l := by
  obtain ⟨ao, cap, rfl, hc, h⟩ := h
  refine ⟨ao, cap, rfl, hc, ?_⟩
  rcases h with h | ⟨g, o, rfl, h⟩
  · exact .inl h
  · exact .inr ⟨g, o, rfl, fun j hj => cell_below hb (h j hj)⟩
theorem BRow.nil (w : World) : BRow w (.slice none 0 0) [] := ⟨none, 0, rfl, Nat.le_refl _, .inl ⟨rfl, rfl, rfl⟩⟩
/-- one block holds no byte: what else holds bytes lies elsewhere -/
theorem BRow.grown {w w' : World} {v : Value} {l : List UInt8} {K : Nat} {x : Value} {t : TypeId} (h : BRow w v l) (hK : w.heap[K]? = some (.cells #[x] t (0, 0))) (hx : ∀ k n, x ≠ .int k n) (hg : w.grownBy w' (some K)) : BRow w' v l := by
  obtain ⟨ao, cap, rfl, hc, h⟩ := h
  refine ⟨ao, cap, rfl, hc, ?_⟩
  rcases h with h | ⟨g, o, rfl, h⟩
  · exact .inl h
  · refine .inr ⟨g, o, rfl, fun j hj => ?_⟩
    have hc := h j hj
    have hne : some g ≠ some K := by
      intro e
      obtain rfl : g = K := by simpa using e
      simp only [World.cell?, hK, Option.bind_eq_bind] at hc
      rcases Nat.eq_zero_or_pos (o + j) with h0 | h0
      · rw [h0] at hc
        simp [by8] at hc
        exact hx _ _ hc
      · have : (#[x] : Array Value)[o + j]? = none := Array.getElem?_eq_none (by simp; omega)
        simp [this] at hc
    have hlt := lt_of_cell hc
    exact (World.cell?_of_block (a := ⟨g, o + j, none⟩) (hg.block g hlt hne)).trans hc
/-- a slice of slices of bytes -/
def BRows (w : World) (v : Value) (L : List (List UInt8)) : Prop := ∃ p c, v = .slice p L.length c ∧ L.length ≤ c ∧
  ((p = none ∧ L = [] ∧ c = 0) ∨ ∃ g o, p = some ⟨g, o, none⟩ ∧ ∀ k, k < L.length → ∃ x, w.cell? ⟨g, o + k, none⟩ = some x ∧ BRow w x (L.getD k []))
theorem BRows.below {w w' : World} {v : Value} {L : List (List UInt8)} (h : BRows w v L) (hb : Below w.heap.size w w') : BRows w' v L := by
  obtain ⟨p, c, rfl, hc, h⟩ := h
  refine ⟨p, c, rfl, hc, ?_⟩
  rcases h with h | ⟨g, o, rfl, h⟩
  · exact .inl h
  · refine .inr ⟨g, o, rfl, fun k hk => ?_⟩
    obtain ⟨x, h1, h2⟩ := h k hk
    exact ⟨x, cell_below hb h1, h2.below hb⟩
/-- what a slice of the call's own owns reads as bytes -/
theorem BRow.of_own {w : World} {base : Nat} {v : Value} {l : List UInt8} {n : Nat} (h : w.ownsRow base 5 1 v n (l.map by8)) : BRow w v l := by
  have hl : n = l.length := by have := h.1; simpa using this.symm
  subst hl
  rcases h.2 with ⟨rfl, h0⟩ | ⟨g, cap, cur, rfl, hb, hg, hn, hm, hs, ht⟩
  · have : l = [] := List.length_eq_zero_iff.1 h0
    subst this
    exact BRow.nil w
  · refine ⟨_, cap, rfl, hn, .inr ⟨g, 0, rfl, fun j hj => ?_⟩⟩
    rw [Nat.zero_add]
    unfold World.cell?
    rw [show (⟨g, j, none⟩ : Addr).block = g from rfl, hg]
    show (if (none : Option _).isSome then none else cur[j]?) = _
    have h1 : (cur.toList.take (l.length * 1))[j]? = (l.map by8)[j]? := by rw [ht]
    rw [List.getElem?_take_of_lt (by omega)] at h1
    rw [if_neg (by simp), ← Array.getElem?_toList, h1, List.getElem?_map, List.getElem?_eq_getElem hj, List.getD_eq_getElem?_getD, List.getElem?_eq_getElem hj]
    rfl
theorem conv_brow {w : World} {v : Value} {l : List UInt8} (h : BRow w v l) : (convert 26 9 v).run Tryd.prog w = .ok (.string ⟨l.toArray⟩) w := by
  obtain ⟨ao, cap, rfl, hc, h⟩ := h
  rcases h with ⟨rfl, rfl, rfl⟩ | ⟨g, o, rfl, h⟩
  · rw [show ([] : List UInt8).length = 0 from rfl, run_convert_bytes_string w 26 9 5 none 0 0 Tryd.underlying26 Tryd.underlying5 Tryd.underlying9]
    rfl
  · refine run_convert_bytes_back w 26 9 5 ⟨g, o, none⟩ cap l Tryd.underlying26 Tryd.underlying5 Tryd.underlying9 (fun j hj => ?_)
    rw [Lib.add_plain, h j hj, List.getD_eq_getElem?_getD, List.getElem?_eq_getElem hj]
    rfl
theorem by8_one (u : Value) (l : List UInt8) (h : u ∈ l.map by8) : u.oneCell' = true := by
  obtain ⟨b, _, rfl⟩ := List.mem_map.1 h
  rfl
/-- the bytes of a row, as append asks for them -/
theorem BRow.news {w : World} {g o : Nat} {l : List UInt8} (h : ∀ j, j < l.length → w.cell? ⟨g, o + j, none⟩ = some (by8 (l.getD j 0))) (j : Nat) (u : Value) (hj : (l.map by8)[j]? = some u) : w.cell? ((⟨g, o, none⟩ : Addr).add j) = some u := by
  rw [List.getElem?_map] at hj
  rcases hl : l[j]? with _ | x
  · rw [hl] at hj; cases hj
  · rw [hl] at hj
    have hlt := (List.getElem?_eq_some_iff.1 hl).1
    rw [Lib.add_plain, h j hlt, List.getD_eq_getElem?_getD, hl]
    exact hj
end Go.Proofs.YthfdnlcalefjeaaDoor

/- head: Encode of a head that may be; bytes in a block of one's own, and a text behind them. -/
namespace Go.Proofs.YthfdnlcalefjeaaDoor
set_option linter.unusedVariables false
set_option linter.unusedSimpArgs false
open Go.RowKit Go.Shelf
set_option maxHeartbeats 4000000
set_option maxRecDepth 100000
/-- bytes in a block of one's own that may be written on -/
def FB (w : World) (B : Nat) (v : Value) (l : List UInt8) : Prop :=
  ∃ b cap, v = .slice (some ⟨b, 0, none⟩) l.length cap ∧ B ≤ b ∧ b < w.heap.size ∧ l.length ≤ cap ∧ (∀ j, j < l.length → w.cell? ⟨b, j, none⟩ = some (by8 (l.getD j 0))) ∧ ∀ j, j < cap → (w.cell? ⟨b, j, none⟩).isSome = true ∧ w.frozen? ⟨b, j, none⟩ = false
theorem FB.world (w : World) (s : ByteArray) (B : Nat) (hB : B ≤ w.heap.size) : FB (Lib.bytesWorld w 5 s) B (.slice (some ⟨w.heap.size, 0, none⟩) s.size (grownCap w s.size 0 5)) s.data.toList := by
  have hge := grownCap_ge w s.size 0 5
  have hn := Lib.bytesWorld_at_new w 5 s
  have hsz : (Lib.bytesCells w 5 s).size = grownCap w s.size 0 5 := by
    unfold Lib.bytesCells
    have e : s.data.size = s.size := rfl
    simp [e]; omega
  refine ⟨w.heap.size, _, rfl, hB, by rw [Lib.bytesWorld_size]; omega, hge, fun j hj => ?_, fun j hj => ⟨?_, ?_⟩⟩
  · exact Lib.bytesWorld_cell w 5 s j hj
  · have hj' : j < (Lib.bytesCells w 5 s).size := by rw [hsz]; exact hj
    simp [World.cell?, hn, Array.getElem?_eq_getElem hj']
  · simp only [World.frozen?, hn, hsz]
    simp; omega
theorem app_text (w : World) {ops : Array Oper} {rest : List Oper} {o : Oper} {a : Act} {Q : Exit → Act → World → Prop} (hgd : o.guard = none) (s x : Operand)
    (ho : o.op = .call { callee := .builtin .append, args := #[s, x], argTypes := #[26, 9] }) (B : Nat) (v : Value) (l : List UInt8) (t : ByteArray) (hs : a.eval s = v) (hx : a.eval x = .string t) (hv : FB w B v l) (hl : l.length + t.size ≤ 140737488355328)
    (hK : ∀ v' w', BRow w' v' (l ++ t.data.toList) → Below B w w' → wpList Tryd.prog ops Q rest (a.put o.dst v') w') : wpList Tryd.prog ops Q (o :: rest) a w := by
  obtain ⟨i0, hi, hz0, hz1, hz2⟩ := info_parts (show (Tryd.prog.info? 5).map (fun i => (i.zero, i.size, i.bytes)) = some (some (.int .u8 0), 1, 1) by kernel_rfl)
  obtain ⟨b, cap, rfl, hBb, hbs, hlc, hcl, hcp⟩ := hv
  have htl : t.data.toList.length = t.size := rfl
  have hS : Src Tryd.prog i0.size 9 (.string t) t.size (byteCells t) w := by rw [hz1]; exact Src.ofString w Tryd.underlying9 t
  have hbl : (byteCells t).length = t.size := byteCells_length t
  have hbc : ∀ j, j < t.size → (byteCells t)[j]? = some (by8 (t.data.toList.getD j 0)) := by
    intro j hj
    unfold byteCells by8
    rw [List.getElem?_map, List.getElem?_eq_getElem (by rw [htl]; exact hj), List.getD_eq_getElem?_getD, List.getElem?_eq_getElem (by rw [htl]; exact hj)]; rfl
  have happ : ∀ j, j < l.length + t.size → (l ++ t.data.toList).getD j 0 = if j < l.length then l.getD j 0 else t.data.toList.getD (j - l.length) 0 := by
    intro j hj
    rw [List.getD_eq_getElem?_getD]
    split
    · rename_i h; rw [List.getElem?_append_left h, ← List.getD_eq_getElem?_getD]
    · rename_i h; rw [List.getElem?_append_right (by omega), ← List.getD_eq_getElem?_getD]
  refine wpList_plain hgd fun K hK' => ?_
  by_cases hr : l.length + t.size ≤ cap
  · have hrun := run_append_room_src (P := Tryd.prog) w 26 9 o.type 5 i0 Tryd.underlying26 hi b 0 l.length cap (.string t) t.size (byteCells t) hS hr
      (fun j hj => by rw [hbl] at hj; rw [hz1, Nat.zero_add, Nat.mul_one]; exact (hcp _ (by omega)).1) (fun j hj => by rw [hbl] at hj; rw [hz1, Nat.zero_add, Nat.mul_one]; exact (hcp _ (by omega)).2)
    unfold Oper.wp
    simp [execOp, ho, resolve, invoke, builtin, hs, hx, hrun, Result.andThen]
    refine hK' _ _ (hK _ _ ⟨_, cap, by rw [List.length_append, htl], by rw [List.length_append, htl]; exact hr, .inr ⟨b, 0, rfl, fun j hj => ?_⟩⟩ (Lib.below_setCells_w hBb _ _ _))
    rw [List.length_append, htl] at hj
    simp only [hz1, Nat.zero_add, Nat.mul_one]
    rw [happ j hj]
    split
    · rename_i h
      rw [World.cell?_setCells_out b _ _ _ _ (fun _ _ => .inl h)]
      exact hcl j h
    · rename_i h
      have h1 := World.cell?_setCells_in b (byteCells t) l.length w (fun j hj => (hcp _ (by rw [hbl] at hj; omega)).1) (j - l.length) (by rw [hbl]; omega)
      rw [show l.length + (j - l.length) = j by omega] at h1
      rw [h1]
      have h2 := hbc (j - l.length) (by omega)
      rw [List.getElem?_eq_getElem (by rw [hbl]; omega)] at h2
      exact h2
  · have hlen : (l.map by8).length = l.length := List.length_map _
    have hfc := run_firstCells_some (P := Tryd.prog) w.drew i0.size l.length ⟨b, 0, none⟩ l.length cap (l.map by8) (by rw [hlen, hz1, Nat.mul_one]) (fun j u hj => by
      have hjl : j < l.length := by have := (List.getElem?_eq_some_iff.1 hj).1; rwa [hlen] at this
      rw [List.getElem?_map, List.getElem?_eq_getElem hjl] at hj
      have h1 := hcl j hjl
      rw [List.getD_eq_getElem?_getD, List.getElem?_eq_getElem hjl] at h1
      simp at hj
      rw [Lib.add_plain, Nat.zero_add, ← hj]
      exact h1)
    have hrun := run_append_grow_src (P := Tryd.prog) w 26 9 o.type 5 i0 (.int .u8 0) Tryd.underlying26 hi hz0 (some ⟨b, 0, none⟩) l.length cap (l.map by8) hfc (.string t) t.size (byteCells t) hS (by omega) (by omega) (growslice_fits (by omega) (by rw [hz2]; omega))
    unfold Oper.wp
    simp [execOp, ho, resolve, invoke, builtin, hs, hx, hrun, Result.andThen]
    have hge := grownCap_ge w (l.length + t.size) cap 5
    refine hK' _ _ (hK _ _ ⟨_, _, by rw [List.length_append, htl], by rw [List.length_append, htl]; exact hge, .inr ⟨w.heap.size, 0, rfl, fun j hj => ?_⟩⟩ ?_)
    · rw [List.length_append, htl] at hj
      rw [happ j hj, Nat.zero_add]
      have hn := World.alloc_heap_new w.drew (.cells ((l.map by8 ++ byteCells t).toArray ++ Builtin.zeroCells (Value.cells (.int .u8 0)) (grownCap w (l.length + t.size) cap 5 - (l.length + t.size))) 5)
      have hsz : w.drew.heap.size = w.heap.size := rfl
      rw [hsz] at hn
      have hcell : ((l.map by8 ++ byteCells t).toArray ++ Builtin.zeroCells (Value.cells (.int .u8 0)) (grownCap w (l.length + t.size) cap 5 - (l.length + t.size)))[j]? = (l.map by8 ++ byteCells t)[j]? := by
        rw [Array.getElem?_append_left (by simp [hbl]; omega)]; simp
      simp only [World.cell?, hn, Option.isSome_none, Bool.false_eq_true, if_false, hcell]
      split
      · rename_i h
        rw [List.getElem?_append_left (by rw [hlen]; exact h), List.getElem?_map, List.getElem?_eq_getElem h, List.getD_eq_getElem?_getD, List.getElem?_eq_getElem h]; rfl
      · rename_i h
        rw [List.getElem?_append_right (by rw [hlen]; omega), hlen]
        exact hbc _ (by omega)
    · exact (Below.refl B w).drew.alloc (by show B ≤ w.heap.size; omega) _
end Go.Proofs.YthfdnlcalefjeaaDoor

/- head: Encode of a head that may be. -/
namespace Go.Proofs.YthfdnlcalefjeaaDoor
set_option linter.unusedVariables false
set_option linter.unusedSimpArgs false
open Go.RowKit Go.Shelf
set_option maxHeartbeats 4000000
set_option maxRecDepth 100000
theorem own_geH {w : World} {B : Nat} {e : TypeId} {s : Nat} {v : Value} {n : Nat} {xs : List Value} (h : w.ownsRow B e s v n xs) : ∀ k, v.ownBlock = some k → B ≤ k := fun k hk => (h.lt k hk).1
theorem sumfld : ∀ fs : List Hp.Hd, (∀ f ∈ fs, f.1.length ≤ 100000 ∧ f.2.length ≤ 100000) → (Hp.lines fs).length ≤ fs.length * 200004
  | [], _ => Nat.le_refl _
  | f :: fs, h => by
    have h1 := sumfld fs (fun g hg => h g (List.mem_cons_of_mem _ hg))
    have h2 := h f List.mem_cons_self
    have h3 : (Hp.fld f).length = f.1.length + f.2.length + 2 := by unfold Hp.fld; simp; omega
    have h4 : Hp.lines (f :: fs) = (Hp.fld f ++ [13, 10]) ++ Hp.lines fs := rfl
    have h5 : (f :: fs).length = fs.length + 1 := rfl
    have h6 : ([13, 10] : List UInt8).length = 2 := rfl
    rw [h4, List.length_append, List.length_append, h3, h5, h6, Nat.add_mul]
    omega
theorem hbytes_len (F : List UInt8) (fs : List Hp.Hd) (hF : F.length ≤ 100000) (hl : fs.length ≤ 1000) (hs : ∀ f ∈ fs, f.1.length ≤ 100000 ∧ f.2.length ≤ 100000) : (Hp.hbytes F fs).length ≤ 1000000000 := by
  have h1 := sumfld fs hs
  have h2 : fs.length * 200004 ≤ 1000 * 200004 := Nat.mul_le_mul_right _ hl
  unfold Hp.hbytes
  simp
  omega
def fbx (l : List UInt8) : ByteArray := ⟨l.toArray⟩
theorem join_own {w : World} {B n : Nat} {v : Value} (L : List (List UInt8)) (h : w.ownsRow B 9 1 v n (L.map Hp.sx)) (hne : L ≠ []) (hj : (Lib.join L [13, 10]).length ≤ 140737488355328) (hl : L.length ≤ 100000) :
    Calls Tryd.prog 47 #[v, .string ⟨#[13, 10]⟩] w fun e w' => e = .returned (.string ⟨(Lib.join L [13, 10]).toArray⟩) ∧ Below w.heap.size w w' := by
  have hn : n = L.length := by have := h.1; simp at this; omega
  subst hn
  have hp : 0 < L.length := List.length_pos_iff.2 hne
  rcases h.2 with ⟨rfl, h0⟩ | ⟨g, cap, cur, rfl, hBg, hg, hnc, _, hcs, htk⟩
  · omega
  · have hlt : g < w.heap.size := (Array.getElem?_eq_some_iff.1 hg).1
    have hm : (L.map fbx).map (·.data.toList) = L := by
      rw [List.map_map]
      conv => rhs; rw [← List.map_id L]
      refine List.map_congr_left (fun l _ => ?_)
      simp [fbx]
    have K := Tryd.strings_Join g 0 cap (L.map fbx) ⟨#[13, 10]⟩ w (fun j x hx => by
      rw [List.getElem?_map] at hx
      cases hLj : L[j]? with
      | none => rw [hLj] at hx; cases hx
      | some l =>
        rw [hLj] at hx
        cases hx
        have hjl : j < L.length := (List.getElem?_eq_some_iff.1 hLj).1
        have h1 : cur.toList[j]? = some (Hp.sx l) := by
          have h2 : (cur.toList.take (L.length * 1))[j]? = some (Hp.sx l) := by rw [htk, List.getElem?_map, hLj]; rfl
          rwa [List.getElem?_take_of_lt (by omega)] at h2
        rw [Nat.zero_add]
        simp only [World.cell?, hg, Option.isSome_none, Bool.false_eq_true, if_false]
        rw [Array.getElem?_toList] at h1
        exact h1) hlt (by rw [List.length_map]; omega) (by rw [List.length_map]; exact hnc) (by rw [hm]; exact hj)
    rw [hm, List.length_map] at K
    exact K
theorem hd_Encode (F : List UInt8) (v : Value) (fs : List Hp.Hd) (w : World) (hv : HS w v fs) (hok : Hp.HOk F fs) (hF : F.length ≤ 100000) (hl : fs.length ≤ 1000) (hs : ∀ f ∈ fs, f.1.length ≤ 100000 ∧ f.2.length ≤ 100000) :
    Calls Tryd.prog 42 #[.agg #[Hp.sx F, v]] w fun e w' => ∃ r, e = .returned (.tuple #[r, .int .i64 0]) ∧ FB w' w.heap.size r (Hp.hbytes F fs) ∧ Below w.heap.size w w' := by
  obtain ⟨i0, hi, hz0, hz1, hz2⟩ := info_parts (show (Tryd.prog.info? 9).map (fun i => (i.zero, i.size, i.bytes)) = some (some (.string ByteArray.empty), 1, 16) by kernel_rfl)
  have hcv := fun (W : World) (s : ByteArray) => Lib.run_convert_string_bytes (P := Tryd.prog) W 9 26 5 s Tryd.underlying9 Tryd.underlying26 Tryd.underlying5
  obtain ⟨p, c, rfl⟩ := hv.slice
  obtain ⟨N, hN⟩ : ∃ N, fs.length = N := ⟨_, rfl⟩
  have HJ := Lib.hid (show (Lib.join (F :: (fs.map Hp.fld ++ [[], []])) [13, 10]).length ≤ 140737488355328 by rw [Hp.join_head]; exact Nat.le_trans (hbytes_len F fs hF hl hs) (by decide))
  have hlw : fs.length ≤ 100000 := by omega
  rw [hN] at hv hl ⊢
  obtain ⟨fb, hfb⟩ : ∃ z : ByteArray, (⟨F.toArray⟩ : ByteArray) = z := ⟨_, rfl⟩
  have HFB := Lib.hid (show Hp.sx F = .string fb by unfold Hp.sx; rw [hfb])
  obtain ⟨H, hH⟩ : ∃ H, w.heap.size = H := ⟨_, rfl⟩
  obtain ⟨W1, hW1⟩ : ∃ Z, w.alloc (.cells #[.string fb, .slice p N c] 45) = Z := ⟨_, rfl⟩
  have HB1 := Lib.hid (show Below H w W1 by rw [← hW1, ← hH]; exact (Below.refl _ _).alloc (Nat.le_refl _) _)
  have HZ1 := Lib.hid (show W1.heap.size = H + 1 by rw [← hW1, ← hH]; simp)
  have HG1 := Lib.hid (show W1.heap[H]? = some (.cells #[.string fb, .slice p N c] 45 (0, 0)) by rw [← hW1, ← hH]; exact World.alloc_heap_new _ _)
  have HV1 := Lib.hid (hv.below (by rw [hH]; exact HB1.out))
  have KC := Lib.hid (hd_Check F (.slice p N c) fs W1 HV1.out hok hF hlw hs)
  rw [HFB.out] at KC ⊢
  have HW1 := Lib.hid hW1
  have HHH := Lib.hid hH
  have HNN := Lib.hid hN
  have HSZ := Lib.hid hs
  have a0 : W1.cell? ⟨H, 0, none⟩ = some (.string fb) := by simp [World.cell?, HG1.out]
  have a1 : W1.cell? ⟨H, 1, none⟩ = some (.slice p N c) := by simp [World.cell?, HG1.out]
  clear hv hok hF hs hN hfb hH hW1 hlw
  go_enter Tryd.func42, Tryd.ntmps42
  go_wp2_with fail
  rw [HHH.out, HW1.out]
  refine KC.out.mono ?_
  rintro e w2 ⟨rfl, hb2⟩
  have HC2 := Lib.hid hb2
  have hg2 := (hb2.block H (by rw [HZ1.out]; omega)).trans HG1.out
  have b0 : w2.cell? ⟨H, 0, none⟩ = some (.string fb) := by simp [World.cell?, hg2]
  have b1 : w2.cell? ⟨H, 1, none⟩ = some (.slice p N c) := by simp [World.cell?, hg2]
  obtain ⟨W3, hW3⟩ : ∃ Z, w2.alloc (.cells #[.string fb] 9) = Z := ⟨_, rfl⟩
  have hO3 : W3.ownsRow W1.heap.size 9 1 (.slice (some ⟨w2.heap.size, 0, none⟩) 1 1) 1 [.string fb] := by
    rw [← hW3]
    exact World.ownsRow_lit w2 #[.string fb] 1 hb2.size (by unfold maxLen; omega) rfl
  have HB3 := Lib.hid (show Below W1.heap.size W1 W3 by rw [← hW3]; exact hb2.alloc hb2.size _)
  have hg3 := (HB3.out.block H (by rw [HZ1.out]; omega)).trans HG1.out
  have e1 : W3.cell? ⟨H, 1, none⟩ = some (.slice p N c) := by simp [World.cell?, hg3]
  have HO3 := Lib.hid hO3
  have HW3 := Lib.hid hW3
  clear hb2 hg2 a0 a1 hO3 hg3 hW3 b1
  go_wp2_with (rw [HW3.out])
  clear b0 e1
  go_loopw [5, 19] (fun v5 i wr => ∃ k : Nat, k ≤ N ∧ i = .int .i64 k ∧ wr.ownsRow W1.heap.size 9 1 v5 (k + 1) ((F :: (fs.take k).map Hp.fld).map Hp.sx) ∧ Below W1.heap.size W1 wr) (fun _ i _ => N - (intOf i).toNat)
  case atStart => exact ⟨0, Nat.zero_le _, rfl, by simpa [HFB.out] using HO3.out, HB3.out⟩
  case round =>
    obtain ⟨k, hk, rfl, hown, hbl⟩ := hrel
    have HO := Lib.hid hown
    have HBL := Lib.hid hbl
    clear hown hbl
    by_cases hlt : k < N
    · obtain ⟨g1, o1, rfl, hc1⟩ := (HV1.out.below HBL.out).cells (k := k) (by rw [HNN.out]; exact hlt)
      obtain ⟨hx, hy⟩ := hc1 k (by rw [HNN.out]; exact hlt)
      have HTK := Lib.hid (show fs.take (k + 1) = fs.take k ++ [fs.getD k ([], [])] by
        rw [List.take_succ_eq_append_getElem (by rw [HNN.out]; exact hlt), List.getD_eq_getElem?_getD, List.getElem?_eq_getElem (by rw [HNN.out]; exact hlt)]; rfl)
      obtain ⟨⟨n0, v0⟩, hf⟩ : ∃ x, fs.getD k ([], []) = x := ⟨_, rfl⟩
      have hszf := HSZ.out (n0, v0) (by rw [← hf, List.getD_eq_getElem?_getD, List.getElem?_eq_getElem (by rw [HNN.out]; exact hlt)]; exact List.getElem_mem _)
      rw [hf] at hx hy HTK
      unfold Hp.sx at hx hy
      simp only at hx hy hszf
      have hq : ((⟨n0.toArray⟩ : ByteArray) ++ ⟨#[58, 32]⟩ ++ ⟨v0.toArray⟩) = ⟨(Hp.fld (n0, v0)).toArray⟩ := by
        apply ByteArray.ext; apply Array.ext'; simp [Hp.fld]
      have hns := (show (⟨n0.toArray⟩ : ByteArray).size = n0.length by simp [ByteArray.size])
      have hvs := (show (⟨v0.toArray⟩ : ByteArray).size = v0.length by simp [ByteArray.size])
      obtain ⟨nb, hnb⟩ : ∃ z : ByteArray, (⟨n0.toArray⟩ : ByteArray) = z := ⟨_, rfl⟩
      obtain ⟨vb, hvb⟩ : ∃ z : ByteArray, (⟨v0.toArray⟩ : ByteArray) = z := ⟨_, rfl⟩
      rw [hnb] at hx hq hns
      rw [hvb] at hy hq hvs
      have hnl : nb.size ≤ 100000 := by omega
      have hvl : vb.size ≤ 100000 := by omega
      obtain ⟨qb, hqb⟩ : ∃ z : ByteArray, nb ++ ⟨#[58, 32]⟩ ++ vb = z := ⟨_, rfl⟩
      have HQS := Lib.hid (show Hp.sx (Hp.fld (n0, v0)) = .string qb by unfold Hp.sx; rw [← hq, hqb])
      have HSW := Lib.hid HBL.out.size
      clear hf hnb hvb hq hc1 hns hvs hszf
      go_wp2_with (at_builtin; (try rw [hqb]); refine wpList_append_own _ rfl _ _ 54 rfl W1.heap.size 9 i0 (.string ByteArray.empty) 1 16 Tryd.underlying54 hi hz0 hz1 hz2 rfl (by decide) _ _ _ rfl ((HO.out.alloc _).alloc _) ⟨wr.heap.size + 1, 0, none⟩ 1 1 [.string qb] rfl rfl ?c1 ?c2 ?c3 ?c4 ?c5 ?_)
      case c1 =>
        intro j u hj
        match j, hj with
        | 0, hj => simp at hj; subst hj; simp [Addr.add]
      case c2 => intro u hu; simp at hu; subst hu; rfl
      case c3 => unfold maxLen; omega
      case c4 => omega
      case c5 => have := HSW.out; simp; omega
      intro v' w5 hown' hgrow _
      have HB5 := Lib.hid (show Below W1.heap.size W1 w5 from Below.grown ((HBL.out.alloc HSW.out _).alloc (by simp; have := HSW.out; omega) _) hgrow (by simp; have := HSW.out; omega) (own_geH HO.out))
      have HO5 := Lib.hid (show w5.ownsRow W1.heap.size 9 1 v' (k + 1 + 1) ((F :: (fs.take (k + 1)).map Hp.fld).map Hp.sx) by
        have e : (F :: (fs.take (k + 1)).map Hp.fld).map Hp.sx = (F :: (fs.take k).map Hp.fld).map Hp.sx ++ [.string qb] := by
          rw [HTK.out, ← HQS.out]; simp
        rw [e]
        simpa using hown')
      clear hgrow hown'
      go_wp2
      go_roundw
      case rel => exact ⟨k + 1, by omega, by go_num, HO5.out, HB5.out⟩
      case measure => simp [intOf]; omega
    · have HSW := Lib.hid HBL.out.size
      have HTF := Lib.hid (show fs.take k = fs by rw [List.take_of_length_le (by rw [HNN.out]; omega)])
      go_wp2_with (at_builtin; refine wpList_append_own _ rfl _ _ 54 rfl W1.heap.size 9 i0 (.string ByteArray.empty) 1 16 Tryd.underlying54 hi hz0 hz1 hz2 rfl (by decide) _ _ _ rfl (HO.out.alloc _) ⟨wr.heap.size, 0, none⟩ 2 2 [.string ⟨#[]⟩, .string ⟨#[]⟩] rfl rfl ?d1 ?d2 ?d3 ?d4 ?d5 ?_)
      case d1 =>
        intro j u hj
        match j, hj with
        | 0, hj => simp at hj; subst hj; simp [Addr.add]
        | 1, hj => simp at hj; subst hj; simp [Addr.add]
      case d2 => intro u hu; simp at hu; subst hu; rfl
      case d3 => unfold maxLen; omega
      case d4 => omega
      case d5 => have := HSW.out; simp; omega
      intro v' w5 hown' hgrow _
      have HB5 := Lib.hid (show Below W1.heap.size W1 w5 from Below.grown (HBL.out.alloc HSW.out _) hgrow (by simp; have := HSW.out; omega) (own_geH HO.out))
      have HO5 := Lib.hid (show w5.ownsRow W1.heap.size 9 1 v' (k + 1 + 2) ((F :: (fs.map Hp.fld ++ [[], []])).map Hp.sx) by
        have e : (F :: (fs.map Hp.fld ++ [[], []])).map Hp.sx = (F :: (fs.take k).map Hp.fld).map Hp.sx ++ [.string ⟨#[]⟩, .string ⟨#[]⟩] := by
          rw [HTF.out]; simp [Hp.sx]
        rw [e]
        simpa using hown')
      clear hgrow hown'
      have KJ := Lib.hid (join_own (F :: (fs.map Hp.fld ++ [[], []])) HO5.out (by simp) HJ.out (by simp; have := HNN.out; omega))
      rw [Hp.join_head] at KJ
      obtain ⟨jb, hjb⟩ : ∃ z : ByteArray, (⟨(Hp.hbytes F fs).toArray⟩ : ByteArray) = z := ⟨_, rfl⟩
      have HJD := Lib.hid (show jb.data.toList = Hp.hbytes F fs by rw [← hjb])
      rw [hjb] at KJ
      clear hjb
      go_wp2_with fail
      refine KJ.out.mono ?_
      rintro e w6 ⟨rfl, hb6⟩
      have HB6 := Lib.hid (HB1.out.trans ((HB5.out.trans (hb6.mono HB5.out.size)).mono (by rw [HZ1.out]; omega)))
      clear hb6
      go_wp2_with fail
      go_ret2
      have hfw := FB.world w6 jb w.heap.size HB6.out.size
      rw [HJD.out] at hfw
      have hsz := HB6.out.size
      rw [HHH.out] at hsz hfw ⊢
      exact ⟨_, rfl, hfw, HB6.out.trans (below_bytesWorld _ _ _ _ hsz)⟩
end Go.Proofs.YthfdnlcalefjeaaDoor

/- answer: told; put. -/
namespace Go.Proofs.YthfdnlcalefjeaaDoor
set_option linter.unusedVariables false
set_option linter.unusedSimpArgs false
open Go.RowKit Go.Shelf
set_option maxHeartbeats 8000000
set_option maxRecDepth 100000
/-- an answer under way: its first line and its fields -/
def AnAt (w : World) (A : Nat) (F : ByteArray) (v : Value) : Prop := w.heap[A]? = some (.cells #[.string F, v] 69 (0, 0))
theorem ans_told (A : Nat) (F : List UInt8) (v : Value) (fs : List Hp.Hd) (w : World) (hA : AnAt w A ⟨F.toArray⟩ v) (hv : HS w v fs) (hok : Hp.HOk F fs) (hF : F.length ≤ 100000) (hl : fs.length ≤ 1000) (hs : ∀ f ∈ fs, f.1.length ≤ 100000 ∧ f.2.length ≤ 100000) :
    Calls Tryd.prog 30 #[.pointer (some ⟨A, 0, none⟩)] w fun e w' => ∃ r, e = .returned r ∧ FB w' w.heap.size r (Hp.hbytes F fs) ∧ Below w.heap.size w w' := by
  have K := Lib.hid (fun W (h : HS W v fs) => hd_Encode F v fs W h hok hF hl hs)
  unfold AnAt at hA
  unfold Hp.sx at K
  obtain ⟨fb, hfb⟩ : ∃ z : ByteArray, (⟨F.toArray⟩ : ByteArray) = z := ⟨_, rfl⟩
  rw [hfb] at hA K
  have a0 : w.cell? ⟨A, 0, none⟩ = some (.string fb) := by simp [World.cell?, hA]
  have a1 : w.cell? ⟨A, 1, none⟩ = some v := by simp [World.cell?, hA]
  have HV := Lib.hid hv
  clear hfb hv hok hF hl hs
  go_enter Tryd.func30, Tryd.ntmps30
  go_wp2_with fail
  refine (K.out w HV.out).mono ?_
  rintro e w2 ⟨r, rfl, hfb2, hb2⟩
  have HF := Lib.hid hfb2
  have HB := Lib.hid hb2
  clear hfb2 hb2 a0 a1
  go_wp2
  go_ret
  exact ⟨r, rfl, HF.out, HB.out⟩
/-- headers' cells -/
def hds (l : List Hp.Hd) : List Value := l.flatMap fun p => [Hp.sx p.1, Hp.sx p.2]
theorem hds_snoc (l : List Hp.Hd) (p : Hp.Hd) : hds (l ++ [p]) = hds l ++ [Hp.sx p.1, Hp.sx p.2] := by unfold hds; rw [List.flatMap_append]; simp
theorem hds_get : ∀ (L : List Hp.Hd) (j : Nat), j < L.length → (hds L)[j * 2]? = some (Hp.sx (L.getD j ([], [])).1) ∧ (hds L)[j * 2 + 1]? = some (Hp.sx (L.getD j ([], [])).2)
  | p :: L, 0, _ => ⟨rfl, rfl⟩
  | p :: L, j + 1, h => by
    have := hds_get L j (by simpa using h)
    have e : hds (p :: L) = Hp.sx p.1 :: Hp.sx p.2 :: hds L := rfl
    rw [e, show (j + 1) * 2 = j * 2 + 1 + 1 by omega]
    simpa using this
theorem HS.own {w : World} {B : Nat} {v : Value} {fs : List Hp.Hd} (h : w.ownsRow B 74 2 v fs.length (hds fs)) : HS w v fs := by
  rcases h.2 with ⟨rfl, h0⟩ | ⟨g, cap, cur, rfl, hBg, hg, hnc, _, hcs, htk⟩
  · exact .inl ⟨rfl, List.length_eq_zero_iff.1 h0⟩
  · refine .inr ⟨g, 0, cap, rfl, fun j hj => ?_⟩
    have hp := hds_get fs j hj
    rw [← htk] at hp
    rw [List.getElem?_take_of_lt (by omega), List.getElem?_take_of_lt (by omega)] at hp
    rw [Nat.zero_add]
    refine ⟨?_, ?_⟩
    · rw [← hp.1]; simp [World.cell?, hg]
    · rw [← hp.2]; simp [World.cell?, hg]
/-- below B all stands but for one block -/
structure FrA (A B : Nat) (w w' : World) : Prop where
  os : w'.os = w.os
  tape : w'.tape = w.tape
  output : w'.output = w.output
  size : w.heap.size ≤ w'.heap.size
  block : ∀ k, k < B → k ≠ A → w'.heap[k]? = w.heap[k]?
theorem FrA.refl (A B : Nat) (w : World) : FrA A B w w := ⟨rfl, rfl, rfl, Nat.le_refl _, fun _ _ _ => rfl⟩
theorem FrA.trans {A B : Nat} {w1 w2 w3 : World} (h : FrA A B w1 w2) (k : FrA A B w2 w3) : FrA A B w1 w3 :=
  ⟨k.os.trans h.os, k.tape.trans h.tape, k.output.trans h.output, Nat.le_trans h.size k.size, fun i hi hb => (k.block i hi hb).trans (h.block i hi hb)⟩
/-- what the slots of put's region hold -/
def puF (A G o len : Nat) (nb vb : ByteArray) (V0 : Value) (B n : Nat) (xs : List Value) : Nat → World → Value → Prop
  | 0, _, v => v = .pointer (some ⟨A, 0, none⟩)
  | 1, _, v => v = .pointer (some ⟨A, 0, none⟩)
  | 2, _, v => v = .pointer (some ⟨A, 0, none⟩)
  | 3, _, v => v = .pointer (some ⟨A, 0, none⟩)
  | 4, _, v => v = .pointer (some ⟨A, 1, none⟩)
  | 5, _, v => v = V0
  | 6, _, v => v = .slice (some ⟨G, o, none⟩) len len
  | 7, _, v => v = .pointer (some ⟨G, o, none⟩)
  | 8, _, v => v = .string nb
  | 9, _, v => v = .slice (some ⟨G, o, none⟩) len len
  | 10, _, v => v = .pointer (some ⟨G, o + 1, none⟩)
  | 11, _, v => v = .string vb
  | 12, _, v => v = .agg #[.string nb, .string vb]
  | 13, w, v => ∃ g, v = .slice (some ⟨g, 0, none⟩) 1 1 ∧ w.heap[g]? = some (.cells #[.string nb, .string vb] 74 (0, 0)) ∧ V0.ownBlock ≠ some g
  | 14, w, v => w.ownsRow B 74 2 v (n + 1) (xs ++ [.string nb, .string vb])
  | 15, _, v => v = .pointer (some ⟨A, 0, none⟩)
  | 16, _, v => v = .pointer (some ⟨A, 0, none⟩)
  | 17, _, v => v = .pointer (some ⟨A, 1, none⟩)
  | _, _, _ => False
/-- the world, as far as the region has come -/
structure PuT (w0 : World) (A G o B n : Nat) (fb nb vb : ByteArray) (V0 : Value) (xs : List Value) (f : Nat → Bool) (w : World) : Prop where
  bel : Below B w0 w
  an : AnAt w A fb V0
  gs : ∀ (k : Nat) (cs : Array Value), w0.heap[k]? = some (.cells cs 9 (0, 0)) → w.heap[k]? = some (.cells cs 9 (0, 0))
  c0 : w.cell? ⟨G, o, none⟩ = some (.string nb)
  c1 : w.cell? ⟨G, o + 1, none⟩ = some (.string vb)
  own : f 14 = false → w.ownsRow B 74 2 V0 n xs
  n5 : f 5 = false → f 14 = false
  n13 : f 13 = false → f 14 = false
theorem PuT.step {w0 w : World} {A G o B n : Nat} {fb nb vb : ByteArray} {V0 : Value} {xs : List Value} {f : Nat → Bool} {i : Nat} (h : PuT w0 A G o B n fb nb vb V0 xs f w) (h1 : i ≠ 14) : PuT w0 A G o B n fb nb vb V0 xs (fun j => if j = i then true else f j) w := by
  refine ⟨h.bel, h.an, h.gs, h.c0, h.c1, fun h3 => h.own (by simpa [Ne.symm h1] using h3), fun h3 => ?_, fun h3 => ?_⟩
  · have : f 5 = false := by by_cases e : 5 = i <;> simp_all
    simpa [Ne.symm h1] using h.n5 this
  · have : f 13 = false := by by_cases e : 13 = i <;> simp_all
    simpa [Ne.symm h1] using h.n13 this
theorem heap_alloc_old' {w : World} {k : Nat} {x : Obj} (o : Obj) (h : w.heap[k]? = some x) : (w.alloc o).heap[k]? = some x := by
  rw [Below.heap_alloc _ _ _ (Array.getElem?_eq_some_iff.1 h).1]; exact h
theorem PuT.alloc {w0 w : World} {A G o B n : Nat} {fb nb vb : ByteArray} {V0 : Value} {xs : List Value} {f : Nat → Bool} (h : PuT w0 A G o B n fb nb vb V0 xs f w) (hB : B ≤ w.heap.size) (ob : Obj) : PuT w0 A G o B n fb nb vb V0 xs f (w.alloc ob) :=
  ⟨h.bel.alloc hB _, heap_alloc_old' _ h.an, fun k cs hk => heap_alloc_old' _ (h.gs k cs hk), (((Below.refl w.heap.size w).alloc (Nat.le_refl _) _).cell (p := ⟨G, o, none⟩) (lt_of_cell h.c0)).trans h.c0,
    (((Below.refl w.heap.size w).alloc (Nat.le_refl _) _).cell (p := ⟨G, o + 1, none⟩) (lt_of_cell h.c1)).trans h.c1, fun h3 => (h.own h3).alloc _, h.n5, h.n13⟩
theorem puF_alloc {A G o len : Nat} {nb vb : ByteArray} {V0 : Value} {B n : Nat} {xs : List Value} {w : World} (j : Nat) (ob : Obj) (v : Value) (h : puF A G o len nb vb V0 B n xs j w v) : puF A G o len nb vb V0 B n xs j (w.alloc ob) v := by
  match j, h with
  | 0, h | 1, h | 2, h | 3, h | 4, h | 5, h | 6, h | 7, h | 8, h | 9, h | 10, h | 11, h | 12, h | 15, h | 16, h | 17, h => exact h
  | 13, ⟨g, h1, h2, h3⟩ => exact ⟨g, h1, heap_alloc_old' _ h2, h3⟩
  | 14, h => exact World.ownsRow.alloc h _
  | n + 18, h => exact h.elim
theorem own_below {w w' : World} {base size n : Nat} {e : TypeId} {v : Value} {xs : List Value} (h : w.ownsRow base e size v n xs) (hb : Below w.heap.size w w') : w'.ownsRow base e size v n xs := by
  refine ⟨h.1, h.2.imp id ?_⟩
  rintro ⟨g, cap, cur, e1, e2, e3, e4⟩
  exact ⟨g, cap, cur, e1, e2, (hb.block _ (Array.getElem?_eq_some_iff.1 e3).1).trans e3, e4⟩
/-- a row of headers is no block of texts -/
theorem own_ne {w : World} {B n : Nat} {v : Value} {xs : List Value} (h : w.ownsRow B 74 2 v n xs) {k : Nat} {cs : Array Value} {t : TypeId} {fr : Nat × Nat} (hk : w.heap[k]? = some (.cells cs t fr)) (ht : t ≠ 74) : some k ≠ v.ownBlock := by
  rcases h.2 with ⟨rfl, h0⟩ | ⟨g, cap, cur, rfl, hBg, hg, hnc, _, hcs, htk⟩
  · intro e; cases e
  · intro e
    obtain rfl : k = g := by simpa [Value.ownBlock] using e
    rw [hk] at hg
    cases hg
    exact ht rfl
theorem ans_put (A G B n : Nat) (fb : ByteArray) (V : Value) (fs ps : List Hp.Hd) (w : World) (hA : AnAt w A fb V) (hAB : A < B) (hB : B ≤ w.heap.size) (hown : w.ownsRow B 74 2 V fs.length (hds fs))
    (hG : w.heap[G]? = some (.cells (hds ps).toArray 9 (0, 0))) (hn : n = ps.length * 2) (hl : fs.length + ps.length ≤ 1000) :
    Calls Tryd.prog 28 #[.pointer (some ⟨A, 0, none⟩), .slice (some ⟨G, 0, none⟩) n n] w fun e w' => e = .returned (.tuple #[]) ∧ ∃ V', AnAt w' A fb V' ∧ w'.ownsRow B 74 2 V' (fs ++ ps).length (hds (fs ++ ps)) ∧ FrA A B w w' := by
  obtain ⟨i0, hi, hz0, hz1, hz2⟩ := info_parts (show (Tryd.prog.info? 74).map (fun i => (i.zero, i.size, i.bytes)) = some (some (.agg #[.string ByteArray.empty, .string ByteArray.empty]), 2, 32) by kernel_rfl)
  subst hn
  have HG := Lib.hid hG
  have HA := Lib.hid hA
  have HO := Lib.hid hown
  have HAB := Lib.hid hAB
  have HBS := Lib.hid hB
  clear hG hA hown hAB hB
  obtain ⟨M, hM⟩ : ∃ M, ps.length = M := ⟨_, rfl⟩
  have HM := Lib.hid hM
  rw [hM] at hl ⊢
  clear hM
  go_enter Tryd.func28, Tryd.ntmps28
  go_wp2_with fail
  go_loopw [1] (fun v1 wr => ∃ (r : Nat) (V' : Value), r ≤ M ∧ ((r < M ∧ v1 = .slice (some ⟨G, r * 2, none⟩) ((M - r) * 2) ((M - r) * 2)) ∨ (r = M ∧ ∃ p c, v1 = .slice p 0 c)) ∧ AnAt wr A fb V' ∧ wr.ownsRow B 74 2 V' (fs ++ ps.take r).length (hds (fs ++ ps.take r)) ∧
      wr.heap[G]? = some (.cells (hds ps).toArray 9 (0, 0)) ∧ FrA A B w wr) (fun v1 _ => match v1 with | .slice _ n _ => n | _ => 0)
  case atStart =>
    refine ⟨0, V, Nat.zero_le _, ?_, HA.out, by simpa using HO.out, HG.out, FrA.refl _ _ _⟩
    by_cases h0 : 0 < M
    · exact .inl ⟨h0, by simp⟩
    · exact .inr ⟨by omega, _, _, by rw [show M = 0 by omega]⟩
  case round =>
    obtain ⟨r, V', hr, hv1, hA, hown, hG, hfr⟩ := hrel
    rcases hv1 with ⟨hlt, rfl⟩ | ⟨rfl, p, c, rfl⟩
    · have HTK := Lib.hid (show ps.take (r + 1) = ps.take r ++ [ps.getD r ([], [])] by
        rw [List.take_succ_eq_append_getElem (by rw [HM.out]; exact hlt), List.getD_eq_getElem?_getD, List.getElem?_eq_getElem (by rw [HM.out]; exact hlt)]; rfl)
      obtain ⟨hx, hy⟩ := hds_get ps r (by rw [HM.out]; exact hlt)
      obtain ⟨⟨n0, v0⟩, hf⟩ : ∃ x, ps.getD r ([], []) = x := ⟨_, rfl⟩
      rw [hf] at hx hy HTK
      unfold Hp.sx at hx hy
      simp only at hx hy
      obtain ⟨nb, hnb⟩ : ∃ z : ByteArray, (⟨n0.toArray⟩ : ByteArray) = z := ⟨_, rfl⟩
      obtain ⟨vb, hvb⟩ : ∃ z : ByteArray, (⟨v0.toArray⟩ : ByteArray) = z := ⟨_, rfl⟩
      rw [hnb] at hx
      rw [hvb] at hy
      have HSX := Lib.hid (show Hp.sx n0 = .string nb ∧ Hp.sx v0 = .string vb by unfold Hp.sx; rw [hnb, hvb]; exact ⟨rfl, rfl⟩)
      have HC0 := Lib.hid (show wr.cell? ⟨G, r * 2, none⟩ = some (.string nb) by simp only [World.cell?, hG, Option.isSome_none, Bool.false_eq_true, if_false, List.getElem?_toArray, hx])
      have HC1 := Lib.hid (show wr.cell? ⟨G, r * 2 + 1, none⟩ = some (.string vb) by simp only [World.cell?, hG, Option.isSome_none, Bool.false_eq_true, if_false, List.getElem?_toArray, hy])
      have HA1 := Lib.hid hA
      have HO1 := Lib.hid hown
      have HG1 := Lib.hid hG
      have HF1 := Lib.hid hfr
      have HBR := Lib.hid (show B ≤ wr.heap.size from Nat.le_trans HBS.out hfr.size)
      have HBR0 := Lib.hid (show Below B wr wr.drew from (Below.refl _ _).drew)
      have HLN := Lib.hid (show (fs ++ ps.take r).length ≤ 1000 by rw [List.length_append, List.length_take, HM.out]; omega)
      obtain ⟨len, hlen⟩ : ∃ z, (M - r) * 2 = z := ⟨_, rfl⟩
      have hlen2 : 2 ≤ len := by omega
      have HLE := Lib.hid hlen
      obtain ⟨o, ho⟩ : ∃ z, r * 2 = z := ⟨_, rfl⟩
      rw [ho] at HC0 HC1
      have HOO := Lib.hid ho
      obtain ⟨N1, hN1⟩ : ∃ z, (fs ++ ps.take r).length = z := ⟨_, rfl⟩
      rw [hN1] at HO1 HLN
      rw [hlen, ho]
      clear hx hy hf hnb hvb hA hown hG hfr hlen ho
      go_wp2_with fail
      refine region_last2 18 (fun i => 9 + min i 17) (puF A G o len nb vb V' B N1 (hds (fs ++ ps.take r))) (PuT wr A G o B N1 fb nb vb V' (hds (fs ++ ps.take r))) (by kernel_rfl) (by kernel_rfl) rfl (by kernel_rfl) (fun i => by show 9 + min i 17 < _; simp; omega) (fun i j hi hj h => by have h : 9 + min i 17 = 9 + min j 17 := h; omega) ?start ?dst ?step ?last
      case dst =>
        intro i o hi ho
        match i, hi, ho with
        | 0, _, ho => cases ho; rfl
        | 1, _, ho => cases ho; rfl
        | 2, _, ho => cases ho; rfl
        | 3, _, ho => cases ho; rfl
        | 4, _, ho => cases ho; rfl
        | 5, _, ho => cases ho; rfl
        | 6, _, ho => cases ho; rfl
        | 7, _, ho => cases ho; rfl
        | 8, _, ho => cases ho; rfl
        | 9, _, ho => cases ho; rfl
        | 10, _, ho => cases ho; rfl
        | 11, _, ho => cases ho; rfl
        | 12, _, ho => cases ho; rfl
        | 13, _, ho => cases ho; rfl
        | 14, _, ho => cases ho; rfl
        | 15, _, ho => cases ho; rfl
        | 16, _, ho => cases ho; rfl
        | 17, _, ho => cases ho; rfl
        | n + 18, hi, _ => exact absurd hi (by omega)
      case step =>
        intro f a' W i o hib ho hfi hpre hT hrest
        match i, hib, ho with
        | 0, _, ho =>
          cases ho
          have q0 : a'.tmps.getD 0 undef = .pointer (some ⟨A, 0, none⟩) := (hrest 0 (by intro i hi; show 9 + min i 17 ≠ _; omega))
          have e0 := rg_ev q0
          exact rg_same2 (.pointer (some ⟨A, 0, none⟩)) (by unfold Oper.wp execOp; go_simp; all_goals ((try simp only [e0]); (try go_simp); (try rw [if_pos (by omega)]); first | done | rfl | exact ⟨rfl, rfl⟩ | trivial)) rfl (hT.step (by decide))
        | 1, _, ho =>
          cases ho
          have q0 : a'.tmps.getD 0 undef = .pointer (some ⟨A, 0, none⟩) := (hrest 0 (by intro i hi; show 9 + min i 17 ≠ _; omega))
          have e0 := rg_ev q0
          exact rg_same2 (.pointer (some ⟨A, 0, none⟩)) (by unfold Oper.wp execOp; go_simp; all_goals ((try simp only [e0]); (try go_simp); (try rw [if_pos (by omega)]); first | done | rfl | exact ⟨rfl, rfl⟩ | trivial)) rfl (hT.step (by decide))
        | 2, _, ho =>
          cases ho
          have f10 := (hpre { on := 1, ground := .data } (by simp) rfl).1
          have q10 : a'.tmps.getD 10 undef = .pointer (some ⟨A, 0, none⟩) := (hpre { on := 1, ground := .data } (by simp) rfl).2
          have e10 := rg_ev q10
          exact rg_same2 (.pointer (some ⟨A, 0, none⟩)) (by unfold Oper.wp execOp; go_simp; all_goals ((try simp only [e10]); (try go_simp); (try rw [if_pos (by omega)]); first | done | rfl | exact ⟨rfl, rfl⟩ | trivial)) rfl (hT.step (by decide))
        | 3, _, ho =>
          cases ho
          have f11 := (hpre { on := 2, ground := .data } (by simp) rfl).1
          have q11 : a'.tmps.getD 11 undef = .pointer (some ⟨A, 0, none⟩) := (hpre { on := 2, ground := .data } (by simp) rfl).2
          have e11 := rg_ev q11
          exact rg_same2 (.pointer (some ⟨A, 0, none⟩)) (by unfold Oper.wp execOp; go_simp; all_goals ((try simp only [e11]); (try go_simp); (try rw [if_pos (by omega)]); first | done | rfl | exact ⟨rfl, rfl⟩ | trivial)) rfl (hT.step (by decide))
        | 4, _, ho =>
          cases ho
          have f12 := (hpre { on := 3, ground := .data } (by simp) rfl).1
          have q12 : a'.tmps.getD 12 undef = .pointer (some ⟨A, 0, none⟩) := (hpre { on := 3, ground := .data } (by simp) rfl).2
          have e12 := rg_ev q12
          exact rg_same2 (.pointer (some ⟨A, 1, none⟩)) (by unfold Oper.wp execOp; go_simp; all_goals ((try simp only [e12]); (try go_simp); (try rw [if_pos (by omega)]); first | done | rfl | exact ⟨rfl, rfl⟩ | trivial)) rfl (hT.step (by decide))
        | 5, _, ho =>
          cases ho
          have f13 := (hpre { on := 4, ground := .data } (by simp) rfl).1
          have q13 : a'.tmps.getD 13 undef = .pointer (some ⟨A, 1, none⟩) := (hpre { on := 4, ground := .data } (by simp) rfl).2
          have c1 : W.cell? ⟨A, 1, none⟩ = some V' := by simp [World.cell?, show W.heap[A]? = _ from hT.an]
          have e13 := rg_ev q13
          exact rg_same2 (V') (by unfold Oper.wp execOp; go_simp; all_goals ((try simp only [e13]); (try go_simp); (try rw [if_pos (by omega)]); first | done | rfl | exact ⟨rfl, rfl⟩ | trivial)) rfl (hT.step (by decide))
        | 6, _, ho =>
          cases ho
          have q1 : a'.tmps.getD 1 undef = .slice (some ⟨G, o, none⟩) len len := (hrest 1 (by intro i hi; show 9 + min i 17 ≠ _; omega))
          have e1 := rg_ev q1
          exact rg_same2 (.slice (some ⟨G, o, none⟩) len len) (by unfold Oper.wp execOp; go_simp; all_goals ((try simp only [e1]); (try go_simp); (try rw [if_pos (by omega)]); first | done | rfl | exact ⟨rfl, rfl⟩ | trivial)) rfl (hT.step (by decide))
        | 7, _, ho =>
          cases ho
          have f15 := (hpre { on := 6, ground := .data } (by simp) rfl).1
          have q15 : a'.tmps.getD 15 undef = .slice (some ⟨G, o, none⟩) len len := (hpre { on := 6, ground := .data } (by simp) rfl).2
          have e15 := rg_ev q15
          exact rg_same2 (.pointer (some ⟨G, o, none⟩)) (by unfold Oper.wp execOp; go_simp; all_goals ((try simp only [e15]); (try go_simp); (try rw [if_pos (by omega)]); first | done | rfl | exact ⟨rfl, rfl⟩ | trivial)) rfl (hT.step (by decide))
        | 8, _, ho =>
          cases ho
          have f16 := (hpre { on := 7, ground := .data } (by simp) rfl).1
          have q16 : a'.tmps.getD 16 undef = .pointer (some ⟨G, o, none⟩) := (hpre { on := 7, ground := .data } (by simp) rfl).2
          have c0 := hT.c0
          have e16 := rg_ev q16
          exact rg_same2 (.string nb) (by unfold Oper.wp execOp; go_simp; all_goals ((try simp only [e16]); (try go_simp); (try rw [if_pos (by omega)]); first | done | rfl | exact ⟨rfl, rfl⟩ | trivial)) rfl (hT.step (by decide))
        | 9, _, ho =>
          cases ho
          have q1 : a'.tmps.getD 1 undef = .slice (some ⟨G, o, none⟩) len len := (hrest 1 (by intro i hi; show 9 + min i 17 ≠ _; omega))
          have e1 := rg_ev q1
          exact rg_same2 (.slice (some ⟨G, o, none⟩) len len) (by unfold Oper.wp execOp; go_simp; all_goals ((try simp only [e1]); (try go_simp); (try rw [if_pos (by omega)]); first | done | rfl | exact ⟨rfl, rfl⟩ | trivial)) rfl (hT.step (by decide))
        | 10, _, ho =>
          cases ho
          have f18 := (hpre { on := 9, ground := .data } (by simp) rfl).1
          have q18 : a'.tmps.getD 18 undef = .slice (some ⟨G, o, none⟩) len len := (hpre { on := 9, ground := .data } (by simp) rfl).2
          have e18 := rg_ev q18
          exact rg_same2 (.pointer (some ⟨G, o + 1, none⟩)) (by unfold Oper.wp execOp; go_simp; all_goals ((try simp only [e18]); (try go_simp); (try rw [if_pos (by omega)]); first | done | rfl | exact ⟨rfl, rfl⟩ | trivial)) rfl (hT.step (by decide))
        | 11, _, ho =>
          cases ho
          have f19 := (hpre { on := 10, ground := .data } (by simp) rfl).1
          have q19 : a'.tmps.getD 19 undef = .pointer (some ⟨G, o + 1, none⟩) := (hpre { on := 10, ground := .data } (by simp) rfl).2
          have c0 := hT.c1
          have e19 := rg_ev q19
          exact rg_same2 (.string vb) (by unfold Oper.wp execOp; go_simp; all_goals ((try simp only [e19]); (try go_simp); (try rw [if_pos (by omega)]); first | done | rfl | exact ⟨rfl, rfl⟩ | trivial)) rfl (hT.step (by decide))
        | 12, _, ho =>
          cases ho
          have f17 := (hpre { on := 8, ground := .data } (by simp) rfl).1
          have q17 : a'.tmps.getD 17 undef = .string nb := (hpre { on := 8, ground := .data } (by simp) rfl).2
          have f20 := (hpre { on := 11, ground := .data } (by simp) rfl).1
          have q20 : a'.tmps.getD 20 undef = .string vb := (hpre { on := 11, ground := .data } (by simp) rfl).2
          have e17 := rg_ev q17
          have e20 := rg_ev q20
          exact rg_same2 (.agg #[.string nb, .string vb]) (by unfold Oper.wp execOp; go_simp; all_goals ((try simp only [e17, e20]); (try go_simp); (try rw [if_pos (by omega)]); first | done | rfl | exact ⟨rfl, rfl⟩ | trivial)) rfl (hT.step (by decide))
        | 13, _, ho =>
          cases ho
          have f21 := (hpre { on := 12, ground := .data } (by simp) rfl).1
          have q21 : a'.tmps.getD 21 undef = .agg #[.string nb, .string vb] := (hpre { on := 12, ground := .data } (by simp) rfl).2
          have e21 := rg_ev q21
          have hO := hT.own (hT.n13 hfi)
          have hBW : B ≤ W.heap.size := Nat.le_trans HBR.out hT.bel.size
          unfold Oper.wp execOp
          go_simp
          refine ⟨_, rfl, ⟨W.heap.size, rfl, World.alloc_heap_new _ _, fun h => Nat.lt_irrefl _ (hO.lt _ h).2⟩, ?_, fun j u _ h => puF_alloc j _ u h⟩
          rw [show (fun j => decide (j = 13) || f j) = (fun j => if j = 13 then true else f j) by funext j; by_cases h : j = 13 <;> simp [h]]
          exact (hT.step (i := 13) (by decide)).alloc hBW _
        | 14, _, ho =>
          cases ho
          have f14 := (hpre { on := 5, ground := .data } (by simp) rfl).1
          have q14 : a'.tmps.getD 14 undef = V' := (hpre { on := 5, ground := .data } (by simp) rfl).2
          have f22 := (hpre { on := 13, ground := .data } (by simp) rfl).1
          have h22 := (hpre { on := 13, ground := .data } (by simp) rfl).2
          obtain ⟨g, hg1, hg2, hg3⟩ := h22
          have q23a : a'.eval (.tmp 14) = V' := q14
          have q23b : a'.eval (.tmp 22) = .slice (some ⟨g, 0, none⟩) 1 1 := hg1
          have hO := hT.own hfi
          have hBW : B ≤ W.heap.size := Nat.le_trans HBR.out hT.bel.size
          refine wp_append_own _ _ _ 43 rfl B 74 i0 (.agg #[.string ByteArray.empty, .string ByteArray.empty]) 2 32 Tryd.underlying43 hi hz0 hz1 hz2 rfl (by decide) V' N1 (hds (fs ++ ps.take r)) q23a hO ⟨g, 0, none⟩ 1 1 [.string nb, .string vb] q23b rfl ?_ ?_ ?_ ?_ ?_ ?_
          · intro j u hj
            match j, hj with
            | 0, hj => simp at hj; subst hj; simp [Addr.add, World.cell?, hg2]
            | 1, hj => simp at hj; subst hj; simp [Addr.add, World.cell?, hg2]
          · intro u hu; simp at hu; rcases hu with rfl | rfl <;> rfl
          · have := HLN.out; unfold maxLen; omega
          · have := HLN.out; omega
          · exact hBW
          · intro v' w' hown' hgrow _
            have hAn := hT.an
            unfold AnAt at hAn
            have keep : ∀ (k : Nat) (cs : Array Value) (t : TypeId) (fr : Nat × Nat), t ≠ 74 → W.heap[k]? = some (.cells cs t fr) → w'.heap[k]? = some (.cells cs t fr) := fun k cs t fr ht hk => (hgrow.block k (Array.getElem?_eq_some_iff.1 hk).1 (own_ne hO hk ht)).trans hk
            refine ⟨v', rfl, hown', ⟨Below.grown hT.bel hgrow hBW (own_geH hO), keep _ _ _ _ (by decide) hAn, fun k cs hk => keep _ _ _ _ (by decide) (hT.gs k cs hk), ?_, ?_, fun h => by simp at h, fun h => by simp [f14] at h, fun h => by simp [f22] at h⟩, fun j u hj hF => ?_⟩
            · exact (World.cell?_of_block (a := ⟨G, o, none⟩) ((keep _ _ _ _ (by decide) (hT.gs G _ HG1.out)).trans HG1.out.symm)).trans HC0.out
            · exact (World.cell?_of_block (a := ⟨G, o + 1, none⟩) ((keep _ _ _ _ (by decide) (hT.gs G _ HG1.out)).trans HG1.out.symm)).trans HC1.out
            · match j, hF with
              | 0, h | 1, h | 2, h | 3, h | 4, h | 5, h | 6, h | 7, h | 8, h | 9, h | 10, h | 11, h | 12, h | 15, h | 16, h | 17, h => exact h
              | 13, ⟨g', h1, h2, h3⟩ => exact ⟨g', h1, (hgrow.block g' (Array.getElem?_eq_some_iff.1 h2).1 (Ne.symm h3)).trans h2, h3⟩
              | 14, h => rw [hfi] at hj; cases hj
              | n + 18, h => exact h.elim
        | 15, _, ho =>
          cases ho
          have f9 := (hpre { on := 0, ground := .data } (by simp) rfl).1
          have q9 : a'.tmps.getD 9 undef = .pointer (some ⟨A, 0, none⟩) := (hpre { on := 0, ground := .data } (by simp) rfl).2
          have e9 := rg_ev q9
          exact rg_same2 (.pointer (some ⟨A, 0, none⟩)) (by unfold Oper.wp execOp; go_simp; all_goals ((try simp only [e9]); (try go_simp); (try rw [if_pos (by omega)]); first | done | rfl | exact ⟨rfl, rfl⟩ | trivial)) rfl (hT.step (by decide))
        | 16, _, ho =>
          cases ho
          have f24 := (hpre { on := 15, ground := .data } (by simp) rfl).1
          have q24 : a'.tmps.getD 24 undef = .pointer (some ⟨A, 0, none⟩) := (hpre { on := 15, ground := .data } (by simp) rfl).2
          have e24 := rg_ev q24
          exact rg_same2 (.pointer (some ⟨A, 0, none⟩)) (by unfold Oper.wp execOp; go_simp; all_goals ((try simp only [e24]); (try go_simp); (try rw [if_pos (by omega)]); first | done | rfl | exact ⟨rfl, rfl⟩ | trivial)) rfl (hT.step (by decide))
        | 17, _, ho =>
          cases ho
          have f25 := (hpre { on := 16, ground := .data } (by simp) rfl).1
          have q25 : a'.tmps.getD 25 undef = .pointer (some ⟨A, 0, none⟩) := (hpre { on := 16, ground := .data } (by simp) rfl).2
          have e25 := rg_ev q25
          exact rg_same2 (.pointer (some ⟨A, 1, none⟩)) (by unfold Oper.wp execOp; go_simp; all_goals ((try simp only [e25]); (try go_simp); (try rw [if_pos (by omega)]); first | done | rfl | exact ⟨rfl, rfl⟩ | trivial)) rfl (hT.step (by decide))
        | n + 18, hib, _ => exact absurd hib (by omega)
      case last =>
        intro f vs W oL ho hall hT hvs
        have hopL : oL.op = Op.store 43 (.tmp 26) (.tmp 23) := by cases ho; rfl
        have hdsL : oL.dst = none := by cases ho; rfl
        clear ho hall
        have v0 : vs 0 = .pointer (some ⟨A, 0, none⟩) := hvs 0 (by decide)
        have v1 : vs 1 = .pointer (some ⟨A, 0, none⟩) := hvs 1 (by decide)
        have v2 : vs 2 = .pointer (some ⟨A, 0, none⟩) := hvs 2 (by decide)
        have v3 : vs 3 = .pointer (some ⟨A, 0, none⟩) := hvs 3 (by decide)
        have v4 : vs 4 = .pointer (some ⟨A, 1, none⟩) := hvs 4 (by decide)
        have v5 : vs 5 = V' := hvs 5 (by decide)
        have v6 : vs 6 = .slice (some ⟨G, o, none⟩) len len := hvs 6 (by decide)
        have v7 : vs 7 = .pointer (some ⟨G, o, none⟩) := hvs 7 (by decide)
        have v8 : vs 8 = .string nb := hvs 8 (by decide)
        have v9 : vs 9 = .slice (some ⟨G, o, none⟩) len len := hvs 9 (by decide)
        have v10 : vs 10 = .pointer (some ⟨G, o + 1, none⟩) := hvs 10 (by decide)
        have v11 : vs 11 = .string vb := hvs 11 (by decide)
        have v12 : vs 12 = .agg #[.string nb, .string vb] := hvs 12 (by decide)
        obtain ⟨y13, v13, w13⟩ : ∃ z, vs 13 = z ∧ puF A G o len nb vb V' B N1 (hds (fs ++ ps.take r)) 13 W z := ⟨_, rfl, hvs 13 (by decide)⟩
        obtain ⟨y14, v14, w14⟩ : ∃ z, vs 14 = z ∧ puF A G o len nb vb V' B N1 (hds (fs ++ ps.take r)) 14 W z := ⟨_, rfl, hvs 14 (by decide)⟩
        have v15 : vs 15 = .pointer (some ⟨A, 0, none⟩) := hvs 15 (by decide)
        have v16 : vs 16 = .pointer (some ⟨A, 0, none⟩) := hvs 16 (by decide)
        have v17 : vs 17 = .pointer (some ⟨A, 1, none⟩) := hvs 17 (by decide)
        simp only [fillN, List.size_toArray, List.length_cons, List.length_nil, Nat.reduceAdd, show List.range 18 = [0, 1, 2, 3, 4, 5, 6, 7, 8, 9, 10, 11, 12, 13, 14, 15, 16, 17] from rfl, List.foldl_cons, List.foldl_nil, show 9 + min 0 17 = 9 from rfl, show 9 + min 1 17 = 10 from rfl, show 9 + min 2 17 = 11 from rfl, show 9 + min 3 17 = 12 from rfl, show 9 + min 4 17 = 13 from rfl, show 9 + min 5 17 = 14 from rfl, show 9 + min 6 17 = 15 from rfl, show 9 + min 7 17 = 16 from rfl, show 9 + min 8 17 = 17 from rfl, show 9 + min 9 17 = 18 from rfl, show 9 + min 10 17 = 19 from rfl, show 9 + min 11 17 = 20 from rfl, show 9 + min 12 17 = 21 from rfl, show 9 + min 13 17 = 22 from rfl, show 9 + min 14 17 = 23 from rfl, show 9 + min 15 17 = 24 from rfl, show 9 + min 16 17 = 25 from rfl, show 9 + min 17 17 = 26 from rfl, v0, v1, v2, v3, v4, v5, v6, v7, v8, v9, v10, v11, v12, v13, v14, v15, v16, v17]
        clear v0 v1 v2 v3 v4 v5 v6 v7 v8 v9 v10 v11 v12 v13 v14 v15 v16 v17 hvs
        obtain ⟨g14, c14, rfl⟩ := Go.Joins.ownsRow_form (show W.ownsRow B 74 2 y14 (N1 + 1) (hds (fs ++ ps.take r) ++ [.string nb, .string vb]) from w14) (by omega)
        have hAn := hT.an
        unfold AnAt at hAn
        have hcA : W.cell? ⟨A, 1, none⟩ = some V' := by simp [World.cell?, hAn]
        have hzA : W.frozen? ⟨A, 1, none⟩ = false := frozen_of_row _ _ _ _ _ hAn
        have HAn := Lib.hid (show AnAt (W.setCell ⟨A, 1, none⟩ (.slice (some ⟨g14, 0, none⟩) (N1 + 1) c14)) A fb (.slice (some ⟨g14, 0, none⟩) (N1 + 1) c14) from heap_setCell_same _ _ 1 _ _ _ hAn)
        have HOw := Lib.hid (show (W.setCell ⟨A, 1, none⟩ (.slice (some ⟨g14, 0, none⟩) (N1 + 1) c14)).ownsRow B 74 2 (.slice (some ⟨g14, 0, none⟩) (N1 + 1) c14) (fs ++ ps.take (r + 1)).length (hds (fs ++ ps.take (r + 1))) by
          rw [HTK.out, ← List.append_assoc, List.length_append, hN1, hds_snoc]
          simp only [HSX.out.1, HSX.out.2]
          exact ownsRow_setCell_below (a := ⟨A, 1, none⟩) w14 HAB.out _)
        have HGs := Lib.hid (show (W.setCell ⟨A, 1, none⟩ (.slice (some ⟨g14, 0, none⟩) (N1 + 1) c14)).heap[G]? = some (.cells (hds ps).toArray 9 (0, 0)) by
          rw [Below.heap_setCell _ _ _ _ (fun e => by
            have e2 : G = A := e
            have h1 := hT.gs G _ HG1.out
            rw [e2, hAn] at h1
            injection Option.some.inj h1 with h4 h5 h6
            exact absurd h5 (by decide))]
          exact hT.gs G _ HG1.out)
        have HFr := Lib.hid (show FrA A B w (W.setCell ⟨A, 1, none⟩ (.slice (some ⟨g14, 0, none⟩) (N1 + 1) c14)) from HF1.out.trans ⟨hT.bel.os, hT.bel.tape, hT.bel.output, by simpa using hT.bel.size, fun k hk hne => (Below.heap_setCell _ _ _ _ hne).trans (hT.bel.block k hk)⟩)
        clear hT hAn
        unfold Oper.wp execOp
        simp only [hopL]
        go_simp
        obtain ⟨W9, hW9⟩ : ∃ Z, W.setCell ⟨A, 1, none⟩ (.slice (some ⟨g14, 0, none⟩) (N1 + 1) c14) = Z := ⟨_, rfl⟩
        rw [hW9] at HAn HOw HGs HFr ⊢
        clear hW9 hcA hzA w13 w14 hopL hdsL
        go_wp2_with fail
        go_roundw
        case rel =>
          refine ⟨r + 1, _, hlt, ?_, HAn.out, HOw.out, HGs.out, HFr.out⟩
          have h1 := HLE.out
          have h2 := HOO.out
          by_cases hd : r + 1 < M
          · exact .inl ⟨hd, by rw [if_neg (by omega), show o + 2 = (r + 1) * 2 by omega, show len - 2 = (M - (r + 1)) * 2 by omega]⟩
          · exact .inr ⟨by omega, _, 0, by rw [show len - 2 = 0 by omega]⟩
        case measure =>
          show len - 2 < len
          omega
      case start =>
        exact ⟨HBR0.out, HA1.out, fun k cs h => h, HC0.out, HC1.out, fun _ => own_below HO1.out (Below.refl _ _).drew, fun _ => rfl, fun _ => rfl⟩
    · have HAe := Lib.hid hA
      have HOe := Lib.hid hown
      have HFe := Lib.hid hfr
      have HTF := Lib.hid (show ps.take r = ps by rw [List.take_of_length_le (by rw [HM.out]; omega)])
      clear hA hown hfr hG
      go_wp2_with fail
      simp [bodyPost, results, Tryd.results28, go_sem]
      have h1 := HOe.out
      rw [HTF.out] at h1
      exact ⟨V', HAe.out, by simpa using h1, HFe.out⟩
end Go.Proofs.YthfdnlcalefjeaaDoor

/- The sums, products and their like of layer 1 (decimal), the program's and the reference's, compute the plain functions of the text Dp. Each number is one of 64 bits. -/
namespace Go.Proofs.YthfdnlcalefjeaaDoor
set_option linter.unusedVariables false
set_option linter.unusedSimpArgs false
open Go.RowKit

theorem mul_test {a b : Int} (ha : Dp.U a) (hb : Dp.U b) (h0 : a ≠ 0) : (IntKind.u64.wrap ((IntKind.u64.wrap (a * b)).tdiv a) != b) = !decide (a * b < 18446744073709551616) := by
  have h := Dp.mul_div ha hb h0
  have hp : 0 ≤ a * b := Int.mul_nonneg ha.1 hb.1
  unfold Dp.U at ha hb
  have hm : 0 ≤ (a * b) % 18446744073709551616 ∧ (a * b) % 18446744073709551616 < 18446744073709551616 := by omega
  have e1 : IntKind.u64.wrap ((IntKind.u64.wrap (a * b)).tdiv a) = ((a * b) % 18446744073709551616) / a := by
    rw [IntKind.wrap_u64, IntKind.wrap_u64, Int.tdiv_eq_ediv_of_nonneg hm.1]
    have h1 : 0 ≤ ((a * b) % 18446744073709551616) / a := Int.ediv_nonneg hm.1 ha.1
    have h2 : ((a * b) % 18446744073709551616) / a ≤ (a * b) % 18446744073709551616 := Int.ediv_le_self _ hm.1
    omega
  rw [e1]
  by_cases hc : a * b < 18446744073709551616
  · rw [decide_eq_true hc]
    have := h.2 hc
    simp [this]
  · rw [decide_eq_false hc]
    have : ¬ _ := fun x => hc (h.1 x)
    simpa using this
theorem most_div {a : Int} (ha : Dp.U a) (h0 : a ≠ 0) : IntKind.u64.wrap (Int.tdiv 18446744073709551615 a) = 18446744073709551615 / a := by
  unfold Dp.U at ha
  rw [IntKind.wrap_u64, Int.tdiv_eq_ediv_of_nonneg (by omega)]
  have h1 : 0 ≤ (18446744073709551615 : Int) / a := Int.ediv_nonneg (by omega) ha.1
  have h2 : (18446744073709551615 : Int) / a ≤ 18446744073709551615 := Int.ediv_le_self _ (by omega)
  omega
end Go.Proofs.YthfdnlcalefjeaaDoor

/- The closures by which layer 1 (decimal) reads digits compute the plain functions of the texts Dp and Dq. Bytes are from 0 to 255, the base is ten or sixteen, texts have at most 1000000 bytes. -/
namespace Go.Proofs.YthfdnlcalefjeaaDoor
set_option linter.unusedVariables false
set_option linter.unusedSimpArgs false
open Go.RowKit
set_option maxHeartbeats 400000
theorem strings_indexByte (s : ByteArray) (c : Int) (w : World) :
    Calls Tryd.prog 97 #[.string s, .int .u8 c] w fun e w' => e = .returned (.int .i64 (Lib.indexByte s.data.toList c.toNat.toUInt8)) ∧ w = w' :=
  (Tryd.strings_IndexByte s c w).mono fun _ _ h => ⟨h.1, h.2.symm⟩
theorem val_ten {c : Int} (h0 : 0 ≤ c) (h1 : c < 256) : Lib.indexByte (Dp.known 10) c.toNat.toUInt8 = Dp.valV 10 c := by
  obtain ⟨n, rfl⟩ := Int.eq_ofNat_of_zero_le h0
  exact Dp.index_ten ⟨n, by omega⟩
theorem val_hex_low {c : Int} (h0 : 0 ≤ c) (h1 : c < 256) (h : ¬ (65 ≤ c ∧ c ≤ 70)) : Lib.indexByte (Dp.known 16) c.toNat.toUInt8 = Dp.valV 16 c := by
  obtain ⟨n, rfl⟩ := Int.eq_ofNat_of_zero_le h0
  have := Dp.index_hex ⟨n, by omega⟩
  simp only [show ¬ (65 ≤ n ∧ n ≤ 70) by omega, if_false] at this
  exact this
theorem val_hex_up {c : Int} (h : 65 ≤ c ∧ c ≤ 70) : Lib.indexByte (Dp.known 16) (c + 32).toNat.toUInt8 = Dp.valV 16 c := by
  obtain ⟨n, rfl⟩ := Int.eq_ofNat_of_zero_le (show 0 ≤ c by omega)
  have := Dp.index_hex ⟨n, by omega⟩
  simp only [show (65 ≤ n ∧ n ≤ 70) by omega, and_self, if_true] at this
  exact this
end Go.Proofs.YthfdnlcalefjeaaDoor

/- One digit more, and a row of digits, as layer 1 (decimal) reads them, compute the plain functions of the texts Dp and Dq. Bases are ten or sixteen; at most 1000000 digits. -/
namespace Go.Proofs.YthfdnlcalefjeaaDoor
set_option linter.unusedVariables false
set_option linter.unusedSimpArgs false
open Go.RowKit
set_option maxHeartbeats 400000
/-- one digit more -/
def stepN (b n c : Int) : Int := if Dp.mulE n b = 0 then Dp.addN (Dp.mulN n b) (Dp.digV c) else 0
def stepE (b n c : Int) : Int := if Dp.mulE n b = 0 then Dp.addE (Dp.mulN n b) (Dp.digV c) else Dp.mulE n b
theorem stepN_rd {b n : Int} {c : UInt8} {l : List UInt8} : stepE b n c.toNat = 0 → Dp.rd b (c :: l) n = Dp.rd b l (stepN b n c.toNat) := by
  unfold stepE stepN
  intro h
  by_cases h1 : Dp.mulE n b = 0
  · rw [if_pos h1] at h ⊢
    simp [Dp.rd, h1, h]
  · rw [if_neg h1] at h; exact absurd h h1
theorem stepE_rd {b n : Int} {c : UInt8} {l : List UInt8} : stepE b n c.toNat ≠ 0 → Dp.rd b (c :: l) n = (0, 111) ∧ stepE b n c.toNat = 111 := by
  unfold stepE
  intro h
  by_cases h1 : Dp.mulE n b = 0
  · rw [if_pos h1] at h ⊢
    refine ⟨by simp [Dp.rd, h1, h], ?_⟩
    unfold Dp.addE at h ⊢
    split at h
    · exact absurd rfl h
    · rw [if_neg (by assumption)]
  · rw [if_neg h1] at h ⊢
    refine ⟨by simp [Dp.rd, h1], ?_⟩
    unfold Dp.mulE at h1 ⊢
    split at h1
    · exact absurd rfl h1
    · rw [if_neg (by assumption)]
theorem stepN_U {b n c : Int} (hb : b = 10 ∨ b = 16) (hn : Dp.U n) : Dp.U (stepN b n c) := by
  unfold stepN
  split
  · exact Dp.addN_U (Dp.mulN_U hn (by unfold Dp.U; omega)) (Dp.digit_U c)
  · unfold Dp.U; omega
end Go.Proofs.YthfdnlcalefjeaaDoor

/- A text of digits, read to the base of ten or sixteen as layer 1 (decimal) does, is the number that the text Dq defines. Texts have at most 1000000 bytes. -/
namespace Go.Proofs.YthfdnlcalefjeaaDoor
set_option linter.unusedVariables false
set_option linter.unusedSimpArgs false
open Go.RowKit
set_option maxHeartbeats 1000000
set_option maxRecDepth 100000 in
theorem num_bad {b : Int} {l : List UInt8} (h : (!l.isEmpty && Dp.allD b l) = false) : Dp.numN b l = 0 ∧ Dp.numE b l = 110 := by
  have : l = [] ∨ Dp.allD b l = false := by
    rw [Bool.and_eq_false_iff] at h
    rcases h with h | h
    · exact .inl (by simpa using h)
    · exact .inr h
  exact ⟨if_pos this, if_pos this⟩
theorem num_good {b : Int} {l : List UInt8} (h : (!l.isEmpty && Dp.allD b l) = true) : Dp.numN b l = (Dp.rd b l 0).1 ∧ Dp.numE b l = (Dp.rd b l 0).2 ∧ Dp.allD b l = true := by
  rw [Bool.and_eq_true] at h
  have : ¬ (l = [] ∨ Dp.allD b l = false) := by
    rintro (h' | h')
    · subst h'; simp at h
    · rw [h'] at h; simp at h
  exact ⟨if_neg this, if_neg this, h.2⟩
end Go.Proofs.YthfdnlcalefjeaaDoor

/- What layer 1 (decimal) and its reference tell of a text's number is what the text Dq defines. Texts have at most 1000000 bytes. -/
namespace Go.Proofs.YthfdnlcalefjeaaDoor
set_option linter.unusedVariables false
set_option linter.unusedSimpArgs false
open Go.RowKit
set_option maxHeartbeats 1000000
theorem bases_0 (w : World) : (Instr.index 88 (.agg #[.int .i64 10, .int .i64 16]) (.int .i64 0)).run Tryd.prog w = .ok (.int .i64 10) w := by kernel_rfl
theorem bases_1 (w : World) : (Instr.index 88 (.agg #[.int .i64 10, .int .i64 16]) (.int .i64 1)).run Tryd.prog w = .ok (.int .i64 16) w := by kernel_rfl
theorem dec_bases (w : World) :
    Calls Tryd.prog 41 #[] w fun e w' => e = .returned (.agg #[.int .i64 10, .int .i64 16]) ∧ Below w.heap.size w w' := by
  go_enter Tryd.func41, Tryd.ntmps41
  go_wp2
  refine bodyPost_ret (v := .agg #[.int .i64 10, .int .i64 16]) (by simp [results, Tryd.results41, go_sem]) rfl ⟨rfl, (Below.refl _ _).alloc (Nat.le_refl _) _⟩
theorem par_yes {l : List UInt8} (h : 1 < l.length) (h0 : l.getD 0 0 = 48) : Dp.parN l = 0 ∧ Dp.parE l = 110 := by
  have : 1 < l.length ∧ l.head? = some 48 := ⟨h, by cases l with
    | nil => simp at h
    | cons a l => simpa using h0⟩
  exact ⟨if_pos this, if_pos this⟩
theorem par_no {l : List UInt8} (h : 1 < l.length → l.getD 0 0 ≠ 48) : Dp.parN l = Dp.numN 10 l ∧ Dp.parE l = Dp.numE 10 l := by
  have : ¬ (1 < l.length ∧ l.head? = some 48) := by
    rintro ⟨h1, h2⟩
    refine h h1 ?_
    cases l with
    | nil => simp at h1
    | cons a l => simpa using h2
  exact ⟨if_neg this, if_neg this⟩
theorem head_is {s : ByteArray} (h : 0 < s.size) (h0 : (((s[0]'h).toNat : Int) == 48) = true) : s.data.toList.getD 0 0 = 48 := by
  have e : s.data.toList.getD 0 0 = s[0]'h := by
    rw [List.getD_eq_getElem?_getD, List.getElem?_eq_getElem (by simpa using h)]; rfl
  rw [e]
  have := beq_iff_eq.1 h0
  exact UInt8.toNat_inj.1 (by simpa using (by omega : (s[0]'h).toNat = 48))
theorem head_isnt {s : ByteArray} (h : 0 < s.size) (h0 : (((s[0]'h).toNat : Int) == 48) = false) : s.data.toList.getD 0 0 ≠ 48 := by
  have e : s.data.toList.getD 0 0 = s[0]'h := by
    rw [List.getD_eq_getElem?_getD, List.getElem?_eq_getElem (by simpa using h)]; rfl
  rw [e]
  intro hc
  rw [hc] at h0
  simp at h0
theorem num_is {b : Int} {l : List UInt8} (h0 : l ≠ []) (ha : Dp.allD b l = true) : Dp.numN b l = (Dp.rd b l 0).1 ∧ Dp.numE b l = (Dp.rd b l 0).2 := by
  have : ¬ (l = [] ∨ Dp.allD b l = false) := by
    rintro (h' | h')
    · exact h0 h'
    · rw [h'] at ha; exact absurd ha (by decide)
  exact ⟨if_neg this, if_neg this⟩
theorem num_111 {b : Int} {l : List UInt8} (h0 : l ≠ []) (ha : Dp.allD b l = true) (h : Dp.rd b l 0 = (0, 111)) :
    Ending.returned (.tuple #[.int .u64 0, .int .i64 111]) = Ending.returned (.tuple #[.int .u64 (Dp.numN b l), .int .i64 (Dp.numE b l)]) := by
  obtain ⟨h1, h2⟩ := num_is h0 ha
  rw [h1, h2, h]
theorem num_err {b : Int} {l : List UInt8} : Dp.numE b l = 110 → Dp.numN b l = 0 := by
  intro h
  by_cases hc : l = [] ∨ Dp.allD b l = false
  · exact if_pos hc
  · unfold Dp.numE at h
    rw [if_neg hc] at h
    rcases Dp.rd_err b l 0 with h' | h'
    · rw [h'] at h; exact absurd h (by decide)
    · rw [h'.2] at h; exact absurd h (by decide)
end Go.Proofs.YthfdnlcalefjeaaDoor

/- A number's digits to the base of sixteen, as the library writes them, are those of the text Dh. Numbers have 64 bits; the library's table for trailing noughts reads as it is laid. -/
namespace Go.Proofs.YthfdnlcalefjeaaDoor
set_option linter.unusedVariables false
set_option linter.unusedSimpArgs false
open Go.RowKit
set_option maxHeartbeats 1000000
theorem tz16_key : IntKind.u64.wrap (bits BinOp.and IntKind.u64 16 (IntKind.u64.wrap (-16)) * 285870213051353865) / 288230376151711744 = 15 := by decide +kernel
theorem tz16 (w : World) (hc : w.cell? ⟨2, 15, none⟩ = some (.int .u8 4)) :
    Calls Tryd.prog 68 #[.int .u64 16] w fun e w' => e = .returned (.int .i64 4) ∧ w = w' := by
  go_enter Tryd.func68, Tryd.ntmps68
  go_wp2_with (first | simp only [tz16_key] | go_in)
  go_ret
  exact ⟨rfl, rfl⟩
theorem pow16_key : (bits BinOp.and IntKind.i64 16 15 == 0) = true := by decide +kernel
theorem pow16 (w : World)  :
    Calls Tryd.prog 67 #[.int .i64 16] w fun e w' => e = .returned (.bool true) ∧ w = w' := by
  go_enter Tryd.func67, Tryd.ntmps67
  go_wp2
  go_ret
  exact ⟨ret_bool pow16_key, rfl⟩
theorem hex_u64 {v len : Nat} (h : v * 16 ^ len < 16 ^ 16) : v < 18446744073709551616 := by
  have : v ≤ v * 16 ^ len := Nat.le_mul_of_pos_right _ (Nat.pow_pos (by omega))
  have : (16 : Nat) ^ 16 = 18446744073709551616 := by decide
  omega
theorem len65 : Tryd.prog.arrayLen 120 = 65 := by kernel_rfl
theorem slice65 (W : World) (b k : Nat) (hk : k < 65) : (Instr.sliceAt 120 (.pointer (some ⟨b, 0, none⟩)) (some (.int .i64 (k : Int))) none none).run Tryd.prog W = .ok (.slice (some ⟨b, k, none⟩) (65 - k) (65 - k)) W := by
  rw [run_sliceAt_array_l W 120 ⟨b, 0, none⟩ (by simp [Program.arrayLen, Program.elem, Tryd.underlying120]) .i64 (k : Int) (by omega) (by rw [len65]; omega)]
  rw [len65]
  have h1 : ¬ (65 = k) := by omega
  have h2 : Tryd.prog.elem 120 = 5 := by kernel_rfl
  simp [go_sem, h1, h2]
theorem and15 (v r : Nat) (h : v < 18446744073709551616) (hr : v % 16 = r) : bits BinOp.and IntKind.u64 (v : Int) 15 = (r : Int) := by
  rw [show (15 : Int) = ((15 : Nat) : Int) from rfl, bits_and_u64_nat v 15 h (by omega), ← hr]
  congr 1
  exact Nat.and_two_pow_sub_one_eq_mod v 4
theorem dig36 (r : Nat) (h : r < 16) : (({ data := #[48, 49, 50, 51, 52, 53, 54, 55, 56, 57, 97, 98, 99, 100, 101, 102, 103, 104, 105, 106, 107, 108, 109, 110, 111, 112, 113, 114, 115, 116, 117, 118, 119, 120, 121, 122] } : ByteArray)[r]'(by show r < 36; omega)).toNat = ((Dp.dg r).toNat : Int) := by
  have : r = 0 ∨ r = 1 ∨ r = 2 ∨ r = 3 ∨ r = 4 ∨ r = 5 ∨ r = 6 ∨ r = 7 ∨ r = 8 ∨ r = 9 ∨ r = 10 ∨ r = 11 ∨ r = 12 ∨ r = 13 ∨ r = 14 ∨ r = 15 := by omega
  rcases this with rfl | rfl | rfl | rfl | rfl | rfl | rfl | rfl | rfl | rfl | rfl | rfl | rfl | rfl | rfl | rfl <;> rfl
theorem conv65 (w : World) (C : Array Value) (u v k cap : Nat) (l : List UInt8) (h16 : v < 16) (hd : Dp.digs 16 u = [Dp.dg v] ++ l) (hk : k + l.length + 1 = 65) (hC : k < C.size) (hl : ∀ j, j < l.length → C[k + 1 + j]? = some (.int .u8 ((l.getD j 0).toNat : Int))) :
    (convert 26 9 (.slice (some ⟨w.heap.size, k, none⟩) (65 - k) cap)).run Tryd.prog (w.alloc (.cells (C.setIfInBounds k (Value.int .u8 (({ data := #[48, 49, 50, 51, 52, 53, 54, 55, 56, 57, 97, 98, 99, 100, 101, 102, 103, 104, 105, 106, 107, 108, 109, 110, 111, 112, 113, 114, 115, 116, 117, 118, 119, 120, 121, 122] } : ByteArray)[v]'(by show v < 36; omega)).toNat)) 120)) =
      .ok (.string ⟨(Dp.digs 16 u).toArray⟩) (w.alloc (.cells (C.setIfInBounds k (Value.int .u8 (({ data := #[48, 49, 50, 51, 52, 53, 54, 55, 56, 57, 97, 98, 99, 100, 101, 102, 103, 104, 105, 106, 107, 108, 109, 110, 111, 112, 113, 114, 115, 116, 117, 118, 119, 120, 121, 122] } : ByteArray)[v]'(by show v < 36; omega)).toNat)) 120)) := by
  have h := run_convert_bytes_back (P := Tryd.prog) (w.alloc (.cells (C.setIfInBounds k (Value.int .u8 (({ data := #[48, 49, 50, 51, 52, 53, 54, 55, 56, 57, 97, 98, 99, 100, 101, 102, 103, 104, 105, 106, 107, 108, 109, 110, 111, 112, 113, 114, 115, 116, 117, 118, 119, 120, 121, 122] } : ByteArray)[v]'(by show v < 36; omega)).toNat)) 120)) 26 9 5 ⟨w.heap.size, k, none⟩ cap (Dp.dg v :: l) Tryd.underlying26 Tryd.underlying5 Tryd.underlying9 (fun j hj => by
    rw [Lib.add_plain, World.cell?_alloc_new]
    cases j with
    | zero => exact (Array.getElem?_setIfInBounds_self_of_lt (xs := C) (i := k) hC).trans (congrArg (fun z => some (Value.int .u8 z)) (dig36 v h16))
    | succ j =>
      have hj' : j < l.length := by simpa using hj
      rw [Array.getElem?_setIfInBounds_ne (by omega), show k + (j + 1) = k + 1 + j by omega, hl j hj']
      simp [List.getD_eq_getElem?_getD, List.getElem?_eq_getElem hj'])
  rw [hd]
  rw [show 65 - k = (Dp.dg v :: l).length by simp; omega]
  exact h
set_option maxRecDepth 100000 in
theorem hex_any (u : Nat) (w : World) (hu : u < 18446744073709551616) (hc : w.cell? ⟨2, 15, none⟩ = some (.int .u8 4)) :
    Calls Tryd.prog 53 #[.slice none 0 0, .int .u64 (u : Int), .int .i64 16, .bool false, .bool false] w fun e w' => e = .returned (.tuple #[.slice none 0 0, .string ⟨(Dp.digs 16 u).toArray⟩]) ∧ Below w.heap.size w w' := by
  have K1 := Lib.hid pow16
  have HC := Lib.hid hc
  clear hc
  go_enter Tryd.func53, Tryd.ntmps53
  go_wp2_with fail
  refine (K1.out _).mono ?_
  rintro e w' ⟨rfl, rfl⟩
  go_wp2_with fail
  refine (tz16 _ ?_).mono ?_
  · exact cell_below ((Below.refl _ _).alloc (Nat.le_refl _) _) HC.out
  rintro e w' ⟨rfl, rfl⟩
  go_wp2_with fail
  clear K1 HC
  have H0 := Lib.hid (show u * 16 ^ ([] : List UInt8).length < 16 ^ 16 by simpa using hu)
  have Hu := Lib.hid hu
  clear hu
  go_loopw [1, 13] (fun n i wr => ∃ (v : Nat) (C : Array Value) (l : List UInt8) (k : Nat), n = .int .u64 (v : Int) ∧ i = .int .i64 (k : Int) ∧ (k + l.length = 65 ∧ l.length ≤ 16) ∧ v * 16 ^ l.length < 16 ^ 16 ∧ Dp.digs 16 u = Dp.digs 16 v ++ l ∧ wr = w.alloc (.cells C 120) ∧ C.size = 65 ∧
      (∀ j, j < l.length → C[k + j]? = some (.int .u8 ((l.getD j 0).toNat : Int)))) (fun n _ _ => (intOf n).toNat)
  case atStart => exact ⟨u, _, [], 65, rfl, rfl, ⟨rfl, by simp⟩, H0.out, by simp, rfl, by kernel_rfl, fun j hj => by simp at hj⟩
  case round =>
    obtain ⟨v, C, l, k, rfl, rfl, ⟨hk, hk2⟩, hb, hd, rfl, hC, hl⟩ := hrel
    by_cases h16 : v < 16
    · have hk1 : 1 ≤ k := by omega
      obtain ⟨k, rfl⟩ : ∃ k', k = k' + 1 := ⟨k - 1, by omega⟩
      have hcell : ∃ x, C[k]? = some x := ⟨C[k]'(by omega), by simp⟩
      obtain ⟨x, hx⟩ := hcell
      have hk65 : k < 65 := by omega
      have H1 := Lib.hid hk
      have H3 := Lib.hid hd
      have H4 := Lib.hid hC
      have H5 := Lib.hid hl
      have hsl := fun W => slice65 W w.heap.size k (by omega)
      have hcv := conv65 w C u v k (65 - k) l (h16 := h16) (by rw [hd, Dp.digs_lt h16]) (by simp; omega) (by omega) (fun j hj => hl j hj)
      clear hk hb hd hC hl
      go_wp2
      go_ret2
      exact ⟨rfl, (Below.refl _ _).alloc (Nat.le_refl _) _⟩
    · have hlen := Dp.hex_room hb (by omega)
      obtain ⟨k, rfl⟩ : ∃ k', k = k' + 1 := ⟨k - 1, by omega⟩
      have H1 := Lib.hid hk
      have H2 := Lib.hid hb
      have H3 := Lib.hid hd
      have H4 := Lib.hid hC
      have H5 := Lib.hid hl
      have hcell : ∃ x, C[k]? = some x := ⟨C[k]'(by omega), by simp⟩
      obtain ⟨x, hx⟩ := hcell
      have hk65 : k < 65 := by omega
      obtain ⟨r, hr⟩ : ∃ r, v % 16 = r := ⟨_, rfl⟩
      have hr16 : r < 16 := by omega
      have hv64 := hex_u64 hb
      have hand := and15 v r hv64 hr
      have H6 := Lib.hid hr
      clear hk hb hd hC hl hr hv64
      go_wp2
      go_roundw
      case rel =>
        refine ⟨v / 16, _, Dp.dg r :: l, k, by congr 1, rfl, ⟨by have := H1.out; simp; omega, by simp; omega⟩, Dp.hex_less H2.out, ?_, rfl, by rw [Array.size_setIfInBounds]; exact H4.out, ?_⟩
        · rw [H3.out, Dp.digs_ge (by omega) (by omega), H6.out, List.append_assoc]; rfl
        · intro j hj
          cases j with
          | zero => exact (Array.getElem?_setIfInBounds_self_of_lt (xs := C) (i := k) (by have := H4.out; omega)).trans (congrArg (fun z => some (Value.int .u8 z)) (dig36 r hr16))
          | succ j => rw [Array.getElem?_setIfInBounds_ne (by omega), show k + (j + 1) = k + 1 + j by omega]; exact H5.out j (by simpa using hj)
      case measure => simp [intOf]; omega
end Go.Proofs.YthfdnlcalefjeaaDoor

/- A number's text and its hex, the program's and the reference's, are the digits of the text Dh. Numbers have 64 bits; the two tables of the library read as they are laid. -/
namespace Go.Proofs.YthfdnlcalefjeaaDoor
set_option linter.unusedVariables false
set_option linter.unusedSimpArgs false
open Go.RowKit
open Go.Sort (Holds putRow mapBlock cell?_putRow)
set_option maxHeartbeats 1000000
/-- the tables of the library that number texts read -/
def Tabs (w : World) : Prop := w.cell? ⟨2, 15, none⟩ = some (.int .u8 4) ∧ Lib.TabIs Tryd.prog w "internal/strconv.uint64pow10" .u64 Lib.pow10Tab
theorem tabIs_below {P : Program} {w w' : World} {name : String} {k : IntKind} {zs : List Int} (h : Lib.TabIs P w name k zs) (hb : Below w.heap.size w w') : Lib.TabIs P w' name k zs := by
  unfold Lib.TabIs World.var? at *
  cases hg : P.globalNamed name with
  | none => simp [hg] at h
  | some g =>
    simp only [hg, Option.bind_some] at h ⊢
    have hlt : g < w.heap.size := by
      rcases Nat.lt_or_ge g w.heap.size with h' | h'
      · exact h'
      · rw [Array.getElem?_eq_none h'] at h; simp at h
    rw [hb.block g hlt]
    exact h
theorem Tabs.below {w w' : World} (h : Tabs w) (hb : Below w.heap.size w w') : Tabs w' := ⟨cell_below hb h.1, tabIs_below h.2 hb⟩
theorem below_drewN {B : Nat} {a w : World} (h : Below B a w) (n : Nat) : Below B a (w.drewN n) := ⟨h.os, h.tape, h.output, h.size, h.block⟩
theorem below_putRow {α : Type} [Inhabited α] {enc : α → Value} {B : Nat} {a w : World} (h : Below B a w) (blk off : Nat) (d : Array α) (hB : B ≤ blk) : Below B a (putRow enc w blk off d) := by
  refine h.trans ⟨rfl, rfl, rfl, by simp [putRow, mapBlock], fun k hk => ?_⟩
  simp only [putRow, mapBlock, Array.getElem?_modify]
  rw [if_neg (by omega)]
theorem holds_zero0 (w : World) (T : TypeId) (nd : Nat) (hs : nd ≤ 24) : Holds (fun (b : UInt8) => Value.int .u8 (b.toNat : Int)) (w.alloc (.cells Lib.zeros24 T)) w.heap.size 0 (Array.replicate nd (0 : UInt8)) := fun j hj => by
  have hj' : j < nd := by simpa using hj
  refine ⟨?_, World.frozen?_alloc_new _ _ _ _⟩
  rw [World.cell?_alloc_new, Lib.zeros24_at _ (by omega), getElem!_pos _ j hj]
  simp
theorem len24 : Tryd.prog.arrayLen 98 = 24 := by kernel_rfl
theorem slice24 (W : World) (b k : Nat) (hk : k < 24) : (Instr.sliceAt 98 (.pointer (some ⟨b, 0, none⟩)) none (some (.int .i64 (k : Int))) none).run Tryd.prog W = .ok (.slice (some ⟨b, 0, none⟩) k 24) W := by
  rw [run_sliceAt_array_h W 98 ⟨b, 0, none⟩ (by simp [Program.arrayLen, Program.elem, Tryd.underlying98]) .i64 (k : Int) (by omega) (by rw [len24]; omega)]
  rw [len24]
  have h2 : Tryd.prog.elem 98 = 5 := by kernel_rfl
  simp [go_sem, h2]
set_option maxRecDepth 100000 in
theorem fmt10_small (u : Nat) (w : World) (hu : u < 100) :
    Calls Tryd.prog 45 #[.int .u64 (u : Int), .int .i64 10] w fun e w' => e = .returned (.string ⟨(Dp.digs 10 u).toArray⟩) ∧ Below w.heap.size w w' := by
  have K := Lib.hid (Tryd.internal_strconv_small u hu w)
  go_enter Tryd.func45, Tryd.ntmps45
  go_wp2_with fail
  refine K.out.mono ?_
  rintro e w' ⟨rfl, rfl⟩
  go_wp2
  go_ret
  exact ⟨by rw [← Dp.dec_digs]; rfl, Below.refl _ _⟩
set_option maxRecDepth 100000 in
theorem fmt10_big (u : Nat) (w : World) (hu : u < 18446744073709551616) (h1 : 100 ≤ u) (htab : Lib.TabIs Tryd.prog w "internal/strconv.uint64pow10" .u64 Lib.pow10Tab) :
    Calls Tryd.prog 45 #[.int .u64 (u : Int), .int .i64 10] w fun e w' => e = .returned (.string ⟨(Dp.digs 10 u).toArray⟩) ∧ Below w.heap.size w w' := by
  have hu1 : 1 ≤ u := by omega
  have hnd20 : Lib.nDigits u ≤ 20 := by have := Lib.numDigits_eq u hu1 hu; split at this <;> omega
  have hH0 := holds_zero0 w 98 (Lib.nDigits u) (by omega)
  have hfmt := Tryd.internal_strconv_formatBase10 w.heap.size 0 24 u (Array.replicate (Lib.nDigits u) 0) (w.alloc (.cells Lib.zeros24 98)) hH0 (by rw [Array.size_replicate]; exact Lib.lt_pow_nDigits u) hu (by rw [Array.size_replicate]; omega)
  rw [Array.size_replicate] at hfmt
  have HH0 := Lib.hid hH0
  have HF := Lib.hid hfmt
  have ND := Lib.hid (Tryd.internal_strconv_numDigits u hu1 hu (w.alloc (.cells Lib.zeros24 98)) (Lib.tabIs_alloc htab _))
  have hsl := fun W => slice24 W w.heap.size (Lib.nDigits u) (by omega)
  have iu : (100 : Int) ≤ (u : Int) := by omega
  clear hH0 hfmt htab hu hu1 h1
  go_enter Tryd.func45, Tryd.ntmps45
  go_wp2_with fail
  refine ND.out.mono ?_
  rintro e w' ⟨rfl, rfl⟩
  go_wp2_with fail
  refine HF.out.mono ?_
  rintro e w' ⟨rfl, k, v', dk, rfl, hF⟩
  have hcv : (convert 26 9 (.slice (some ⟨w.heap.size, 0, none⟩) (Lib.nDigits u) 24)).run Tryd.prog ((putRow (fun (b : UInt8) => Value.int .u8 (b.toNat : Int)) (w.alloc (.cells Lib.zeros24 98)) w.heap.size 0 dk).drewN k) = .ok (.string ⟨(Lib.decDigits u).toArray⟩) ((putRow (fun (b : UInt8) => Value.int .u8 (b.toNat : Int)) (w.alloc (.cells Lib.zeros24 98)) w.heap.size 0 dk).drewN k) := by
    have h := run_convert_bytes_back (P := Tryd.prog) ((putRow (fun (b : UInt8) => Value.int .u8 (b.toNat : Int)) (w.alloc (.cells Lib.zeros24 98)) w.heap.size 0 dk).drewN k) 26 9 5 ⟨w.heap.size, 0, none⟩ 24 (Lib.decDigits u) Tryd.underlying26 Tryd.underlying5 Tryd.underlying9 (fun j hj => by
      rw [Lib.row_is_numeral hF j hj, Lib.add_plain, World.cell?_drewN]
      exact cell?_putRow (fun (b : UInt8) => Value.int .u8 (b.toNat : Int)) _ w.heap.size 0 _ dk HH0.out (by rw [hF.size, Array.size_replicate]) j (by rw [hF.size]; rw [Lib.decDigits_length] at hj; exact hj))
    rw [Lib.decDigits_length] at h
    exact h
  go_wp2
  go_ret
  exact ⟨by rw [← Dp.dec_digs]; rfl, below_drewN (below_putRow ((Below.refl _ _).alloc (Nat.le_refl _) _) _ _ _ (Nat.le_refl _)) k⟩
theorem fmt10 (u : Nat) (w : World) (hu : u < 18446744073709551616) (ht : Tabs w) :
    Calls Tryd.prog 45 #[.int .u64 (u : Int), .int .i64 10] w fun e w' => e = .returned (.string ⟨(Dp.digs 10 u).toArray⟩) ∧ Below w.heap.size w w' := by
  by_cases h : u < 100
  · exact fmt10_small u w h
  · exact fmt10_big u w hu (by omega) ht.2
theorem fmt16 (u : Nat) (w : World) (hu : u < 18446744073709551616) (ht : Tabs w) :
    Calls Tryd.prog 45 #[.int .u64 (u : Int), .int .i64 16] w fun e w' => e = .returned (.string ⟨(Dp.digs 16 u).toArray⟩) ∧ Below w.heap.size w w' := by
  have K := Lib.hid (hex_any u w hu ht.1)
  clear ht hu
  go_enter Tryd.func45, Tryd.ntmps45
  go_wp2_with fail
  refine K.out.mono ?_
  rintro e w' ⟨rfl, hb⟩
  go_wp2
  go_ret
  exact ⟨rfl, hb⟩
theorem strconv_fmt (b : Nat) (u : Nat) (w : World) (hb : b = 10 ∨ b = 16) (hu : u < 18446744073709551616) (ht : Tabs w) :
    Calls Tryd.prog 40 #[.int .u64 (u : Int), .int .i64 (b : Int)] w fun e w' => e = .returned (.string ⟨(Dp.digs b u).toArray⟩) ∧ Below w.heap.size w w' := by
  have K : Hid (Calls Tryd.prog 45 #[.int .u64 (u : Int), .int .i64 (b : Int)] w fun e w' => e = .returned (.string ⟨(Dp.digs b u).toArray⟩) ∧ Below w.heap.size w w') := by
    rcases hb with rfl | rfl
    · exact fmt10 u w hu ht
    · exact fmt16 u w hu ht
  clear ht hu hb
  go_enter Tryd.func40, Tryd.ntmps40
  go_wp2_with fail
  refine K.out.mono ?_
  rintro e w' ⟨rfl, hb⟩
  go_wp2
  go_ret
  exact ⟨rfl, hb⟩
theorem dec_text (u : Nat) (w : World) (hu : u < 18446744073709551616) (ht : Tabs w) :
    Calls Tryd.prog 29 #[.int .u64 (u : Int)] w fun e w' => e = .returned (.string ⟨(Dp.digs 10 u).toArray⟩) ∧ Below w.heap.size w w' := by
  have K := Lib.hid (fun W (h : Below w.heap.size w W) => strconv_fmt 10 u W (.inl rfl) hu (ht.below h))
  have i0 := bases_0
  clear ht hu
  go_enter Tryd.func29, Tryd.ntmps29
  go_wp2_with fail
  refine (dec_bases _).mono ?_
  rintro e w1 ⟨rfl, hb⟩
  go_wp2_with fail
  refine (K.out w1 hb).mono ?_
  rintro e w2 ⟨rfl, hb2⟩
  go_wp2
  go_ret
  exact ⟨rfl, hb.trans (hb2.mono hb.size)⟩
end Go.Proofs.YthfdnlcalefjeaaDoor

/- answer: Plain. -/
namespace Go.Proofs.YthfdnlcalefjeaaDoor
set_option linter.unusedVariables false
set_option linter.unusedSimpArgs false
open Go.RowKit Go.Shelf
set_option maxHeartbeats 8000000
set_option maxRecDepth 100000
/-- what is told: bytes, or none -/
def PlOut (w : World) (o : Option (List UInt8)) (e : Ending) : Prop := match o with
  | some l => ∃ r, e = .returned (.tuple #[r, .int .i64 0]) ∧ BRow w r l
  | none => e = .returned (.tuple #[.slice none 0 0, .int .i64 2])
theorem put_enter (args : Array Value) (W : World) : (callFunc 28 args).run Tryd.prog W = .ok (.enter 28 args) W := by
  simp [callFunc, go_sem, Tryd.func28]
  rw [if_neg (by decide), if_neg (by decide)]
/-- an answer as far as it is put together -/
def Stg (w0 : World) (A : Nat) (F : ByteArray) (fs : List Hp.Hd) (w : World) : Prop := A < w.heap.size ∧ (∃ V, AnAt w A F V ∧ w.ownsRow (A + 1) 74 2 V fs.length (hds fs)) ∧ Below A w0 w
theorem FrA.bel {A B : Nat} {w w' : World} (h : FrA A B w w') (hB : A ≤ B) : Below A w w' := ⟨h.os, h.tape, h.output, h.size, fun k hk => h.block k (by omega) (by omega)⟩
theorem Stg.below {w0 w w' : World} {A : Nat} {F : ByteArray} {fs : List Hp.Hd} (h : Stg w0 A F fs w) (hb : Below w.heap.size w w') : Stg w0 A F fs w' := by
  obtain ⟨h1, ⟨V, h2, h3⟩, h4⟩ := h
  exact ⟨Nat.lt_of_lt_of_le h1 hb.size, ⟨V, (hb.block A h1).trans h2, own_below h3 hb⟩, h4.trans (hb.mono (Nat.le_of_lt h1))⟩
/-- put, of a list that lies in the newest block -/
theorem stg_put {w0 w : World} {A : Nat} {F : ByteArray} {fs : List Hp.Hd} (h : Stg w0 A F fs w) (ps : List Hp.Hd) (cs : Array Value) (n : Nat) (hcs : cs = (hds ps).toArray) (hn : n = ps.length * 2) (hl : fs.length + ps.length ≤ 1000) :
    Calls Tryd.prog 28 #[.pointer (some ⟨A, 0, none⟩), .slice (some ⟨w.heap.size, 0, none⟩) n n] (w.alloc (.cells cs 9)) fun e w' => e = .returned (.tuple #[]) ∧ Stg w0 A F (fs ++ ps) w' := by
  have h' := h.below ((Below.refl _ w).alloc (Nat.le_refl _) (.cells cs 9))
  obtain ⟨h1, ⟨V, h2, h3⟩, h4⟩ := h'
  refine (ans_put A w.heap.size (A + 1) n F V fs ps _ h2 (by omega) (by omega) h3 (by rw [← hcs]; exact World.alloc_heap_new _ _) hn hl).mono ?_
  rintro e w' ⟨rfl, V', h5, h6, h7⟩
  exact ⟨rfl, Nat.lt_of_lt_of_le h1 h7.size, ⟨V', h5, h6⟩, h4.trans (h7.bel (by omega))⟩
theorem stg_told {w0 w : World} {A : Nat} {F : List UInt8} {fs : List Hp.Hd} (h : Stg w0 A ⟨F.toArray⟩ fs w) (hok : Hp.HOk F fs) (hF : F.length ≤ 100000) (hl : fs.length ≤ 1000) (hs : ∀ f ∈ fs, f.1.length ≤ 100000 ∧ f.2.length ≤ 100000) :
    Calls Tryd.prog 30 #[.pointer (some ⟨A, 0, none⟩)] w fun e w' => ∃ r, e = .returned r ∧ FB w' A r (Hp.hbytes F fs) ∧ Below A w0 w' := by
  obtain ⟨h1, ⟨V, h2, h3⟩, h4⟩ := h
  refine (ans_told A F V fs w h2 (HS.own h3) hok hF hl hs).mono ?_
  rintro e w' ⟨r, rfl, ⟨b, cap, rfl, hb, hr⟩, hbl⟩
  exact ⟨_, rfl, ⟨b, cap, rfl, by omega, hr⟩, h4.trans (hbl.mono (Nat.le_of_lt h1))⟩
theorem digs_len_le (n : Nat) : (Dp.digs 10 n).length ≤ n + 1 := by
  induction n using Nat.strongRecOn with
  | ind n ih =>
    by_cases h : n < 10
    · rw [Dp.digs_lt h]; simp
    · rw [Dp.digs_ge (by omega) h, List.length_append, List.length_singleton]
      have := ih (n / 10) (Nat.div_lt_self (by omega) (by omega))
      omega
theorem fields_len (n : Int) (k : Nat) : (Hp.fields n k).length ≤ 1000 := by
  unfold Hp.fields Hp.more
  split
  · simp
  · split <;> simp
theorem fields_sz (n : Int) (k : Nat) (hk : k ≤ 1000) : ∀ f ∈ Hp.fields n k, f.1.length ≤ 100000 ∧ f.2.length ≤ 100000 := by
  have hd := digs_len_le (k + 1)
  have h1 : ∀ f ∈ Hp.more n, f.1.length ≤ 100000 ∧ f.2.length ≤ 100000 := by
    unfold Hp.more
    split
    · decide
    · split
      · decide
      · intro f hf; cases hf
  intro f hf
  unfold Hp.fields at hf
  rcases List.mem_append.1 hf with hf | hf
  · rcases List.mem_append.1 hf with hf | hf
    · rcases List.mem_cons.1 hf with rfl | hf
      · decide
      · rw [List.mem_singleton] at hf
        subst hf
        exact ⟨show Hp.cl.length ≤ 100000 by decide, show (Dp.digs 10 (k + 1)).length ≤ 100000 by omega⟩
    · exact h1 f hf
  · rw [List.mem_singleton] at hf
    subst hf
    decide
theorem stg_first {w0 w : World} {A : Nat} {F : ByteArray} {fs : List Hp.Hd} (h : Stg w0 A F fs w) (F' : ByteArray) : Stg w0 A F' fs (w.setCell ⟨A, 0, none⟩ (.string F')) := by
  obtain ⟨h1, ⟨V, h2, h3⟩, h4⟩ := h
  exact ⟨by simpa using h1, ⟨V, heap_setCell_same _ _ 0 _ _ _ h2, ownsRow_setCell_below (a := ⟨A, 0, none⟩) h3 (Nat.lt_succ_self A) _⟩, h4.setCell (p := ⟨A, 0, none⟩) (Nat.le_refl _) _⟩
theorem stg_cell {w0 w : World} {A : Nat} {F : ByteArray} {fs : List Hp.Hd} (h : Stg w0 A F fs w) : w.cell? ⟨A, 0, none⟩ = some (.string F) ∧ w.frozen? ⟨A, 0, none⟩ = false := by
  obtain ⟨h1, ⟨V, h2, h3⟩, h4⟩ := h
  unfold AnAt at h2
  exact ⟨by simp [World.cell?, h2], frozen_of_row _ _ _ _ _ h2⟩
theorem Tabs.bel {w w' : World} (h : Tabs w) (hb : Below w.heap.size w w') : Tabs w' := h.below hb
theorem ans_Plain (n : Int) (text : ByteArray) (w : World) (hn : -9223372036854775808 ≤ n ∧ n ≤ 9223372036854775807) (ht : text.size ≤ 9223372036854775807) (htb : Tabs w) :
    Calls Tryd.prog 9 #[.int .i64 n, .string text] w fun e w' => PlOut w' (Hp.plain n text.data.toList) e ∧ Below w.heap.size w w' := by
  have hmf : ∀ (fn : Fn) (first cap : Array Value) (w : World), (Instr.makeFunc fn first cap).run Tryd.prog w = .ok (.func fn first cap) w := fun _ _ _ _ => rfl
  have hce := put_enter
  obtain ⟨A, hA⟩ : ∃ A, w.heap.size = A := ⟨_, rfl⟩
  have HAA := Lib.hid hA
  obtain ⟨W1, hW1⟩ : ∃ Z, w.alloc (.cells #[.string ⟨#[]⟩, .slice none 0 0] 69) = Z := ⟨_, rfl⟩
  have HS1 := Lib.hid (show Stg w A ⟨#[]⟩ [] W1 by
    refine ⟨by rw [← hW1, ← hA]; simp, ⟨_, by unfold AnAt; rw [← hW1, ← hA]; exact World.alloc_heap_new _ _, World.ownsRow_nil _ _ _ _⟩, by rw [← hW1, ← hA]; exact (Below.refl _ _).alloc (Nat.le_refl _) _⟩)
  have HW1 := Lib.hid hW1
  have HTB := Lib.hid htb
  have KR := Lib.hid (fun W => ans_Reason n W)
  have HTS := Lib.hid (show text.data.toList.length = text.size from rfl)
  obtain ⟨o, ho⟩ : ∃ o, Hp.reason n = o := ⟨_, rfl⟩
  rw [ho] at KR
  clear hA hW1 htb
  cases o with
  | none =>
    have HPL := Lib.hid (show Hp.plain n text.data.toList = none by unfold Hp.plain; rw [ho])
    unfold Hp.reaOut at KR
    clear ho
    go_enter Tryd.func9, Tryd.ntmps9
    go_wp2_with fail
    refine wp_scope_fwd 0 rfl ?_
    go_wp2_with fail
    rw [HW1.out, HAA.out]
    refine (KR.out _).mono ?_
    rintro e w2 ⟨rfl, hb2⟩
    have HS2 := Lib.hid (HS1.out.below hb2)
    clear hb2
    go_wp2_with fail
    apply wp_goto
    simp only [Exit.then]
    refine onGoto_goto ?_
    go_wp2_with fail
    rw [Exit.noGoto_ret]
    go_ret2
    exact ⟨by rw [HPL.out]; rfl, HAA.out ▸ HS2.out.2.2⟩
  | some r =>
    have hok := Hp.reason_ok ho
    by_cases hlen : text.size ≤ 1000
    · obtain ⟨m, rfl⟩ : ∃ m : Nat, n = (m : Int) := ⟨n.toNat, by omega⟩
      have HPL := Lib.hid (show Hp.plain m text.data.toList = some (Hp.hbytes (Hp.first m r) (Hp.fields m text.size) ++ text.data.toList ++ [10]) by
        unfold Hp.plain; rw [ho]; simp only [HTS.out]; rw [if_pos hlen])
      have HOK := Lib.hid (Hp.hok_plain ho text.size)
      have KD := Lib.hid (fun W (h : Tabs W) => dec_text m W (by omega) h)
      have KE := Lib.hid (fun W (h : Tabs W) => dec_text (text.size + 1) W (by omega) h)
      rw [show ((text.size + 1 : Nat) : Int) = (text.size : Int) + 1 by omega] at KE
      have hm1 : 200 ≤ m ∧ m ≤ 505 := by omega
      unfold Hp.reaOut Hp.sx at KR
      simp only at KR
      have hrs := (show (⟨r.toArray⟩ : ByteArray).size = r.length by simp [ByteArray.size])
      have hds := (show (⟨(Dp.digs 10 m).toArray⟩ : ByteArray).size = (Dp.digs 10 m).length by simp [ByteArray.size])
      have hfirst : (⟨#[72, 84, 84, 80, 47, 49, 46, 49, 32]⟩ : ByteArray) ++ ⟨(Dp.digs 10 m).toArray⟩ ++ ⟨#[32]⟩ ++ ⟨r.toArray⟩ = ⟨(Hp.first m r).toArray⟩ := by
        apply ByteArray.ext; apply Array.ext'; simp [Hp.first, Hp.http]
      obtain ⟨rb, hrb⟩ : ∃ z : ByteArray, (⟨r.toArray⟩ : ByteArray) = z := ⟨_, rfl⟩
      obtain ⟨db, hdb⟩ : ∃ z : ByteArray, (⟨(Dp.digs 10 m).toArray⟩ : ByteArray) = z := ⟨_, rfl⟩
      rw [hrb] at KR hfirst hrs
      rw [hdb] at KD hfirst hds
      have hrs2 : rb.size ≤ 31 := by omega
      go_enter Tryd.func9, Tryd.ntmps9
      go_wp2_with fail
      refine wp_scope_straight ?_
      go_wp2_with fail
      rw [HW1.out, HAA.out]
      refine (KR.out _).mono ?_
      rintro e w2 ⟨rfl, hb2⟩
      have HS2 := Lib.hid (HS1.out.below hb2)
      clear hb2
      have hdl := digs_len_le m
      have hdb2 : db.size ≤ 506 := by omega
      obtain ⟨fb, hfb⟩ : ∃ z : ByteArray, (⟨(Hp.first m r).toArray⟩ : ByteArray) = z := ⟨_, rfl⟩
      rw [hfb] at hfirst
      have HFB := Lib.hid hfb
      have HFL := Lib.hid (show (Hp.first m r).length ≤ 1000 by
        have h1 := hok.2.2.2
        unfold Hp.first Hp.http
        simp only [List.length_append, List.length_cons, List.length_nil, Int.toNat_natCast]
        omega)
      have HW2 := Lib.hid (show w.heap.size ≤ A from Nat.le_of_eq HAA.out)
      clear ho hok hrs hds hrb hdb hdl hfb
      go_wp2_with fail
      refine (KD.out w2 (HTB.out.bel (HAA.out ▸ HS2.out.2.2))).mono ?_
      rintro e w3 ⟨rfl, hb3⟩
      have HS3 := Lib.hid (HS2.out.below hb3)
      have hc3 := (stg_cell HS3.out).1
      have hz3 := (stg_cell HS3.out).2
      obtain ⟨W4, hW4⟩ : ∃ Z, w3.setCell ⟨A, 0, none⟩ (.string fb) = Z := ⟨_, rfl⟩
      have HS4 := Lib.hid (show Stg w A fb [] W4 by rw [← hW4]; exact stg_first HS3.out fb)
      have HW4 := Lib.hid hW4
      clear hb3 hW4
      go_wp2_with fail
      rw [HW4.out]
      clear hc3 hz3
      refine (KE.out W4 (HTB.out.bel (HAA.out ▸ HS4.out.2.2))).mono ?_
      rintro e w5 ⟨rfl, hb5⟩
      have HS5 := Lib.hid (HS4.out.below hb5)
      clear hb5
      go_wp2_with fail
      refine (stg_put HS5.out [(Hp.ct, Hp.tp), (Hp.cl, Dp.digs 10 (text.size + 1))] _ 4 rfl rfl (by simp)).mono ?_
      rintro e w6 ⟨rfl, hs6⟩
      have HS6 := Lib.hid hs6
      clear hs6
      clear hfirst
      have HFS := Lib.hid (fields_sz m text.size hlen)
      have HTL := Lib.hid (show (Hp.hbytes (Hp.first m r) (Hp.fields m text.size)).length + (text ++ (⟨#[10]⟩ : ByteArray)).size ≤ 140737488355328 by
        have h1 := hbytes_len (Hp.first m r) (Hp.fields m text.size) (by have := HFL.out; omega) (fields_len _ _) HFS.out
        have h2 : (text ++ (⟨#[10]⟩ : ByteArray)).size = text.size + 1 := by rw [ByteArray.size_append]; rfl
        omega)
      by_cases h5 : (m : Int) = 405
      · have he5 : ((m : Int) == 405) = true := beq_iff_eq.2 h5
        have HMO := Lib.hid (show Hp.more m = [(Hp.al, Hp.gt)] by unfold Hp.more; rw [if_pos h5])
        clear h5
        go_wp2_with fail
        refine (stg_put HS6.out [(Hp.al, Hp.gt)] _ 2 rfl rfl (by simp)).mono ?_
        rintro e w7 ⟨rfl, hs7⟩
        have HS7 := Lib.hid hs7
        clear hs7
        go_wp2_with fail
        refine (stg_put HS7.out [(Hp.cn, Hp.cs)] _ 2 rfl rfl (by simp)).mono ?_
        rintro e w8 ⟨rfl, hs8⟩
        have HS8 := Lib.hid (show Stg w A ⟨(Hp.first m r).toArray⟩ (Hp.fields m text.size) w8 by
          rw [HFB.out]
          have e : Hp.fields m text.size = [] ++ [(Hp.ct, Hp.tp), (Hp.cl, Dp.digs 10 (text.size + 1))] ++ [(Hp.al, Hp.gt)] ++ [(Hp.cn, Hp.cs)] := by unfold Hp.fields; rw [HMO.out]; rfl
          rw [e]
          exact hs8)
        clear hs8
        go_wp2_with fail
        refine (stg_told HS8.out HOK.out (by have := HFL.out; omega) (fields_len _ _) HFS.out).mono ?_
        rintro e w9 ⟨v9, rfl, hfb9, hb9⟩
        have HF9 := Lib.hid hfb9
        have HB9 := Lib.hid hb9
        clear hfb9 hb9
        go_wp2_with (at_builtin; refine app_text _ rfl _ _ rfl A _ _ _ rfl rfl HF9.out HTL.out ?_)
        intro v10 w10 hbr hbl
        have HBR := Lib.hid hbr
        have HBL := Lib.hid (HB9.out.trans hbl)
        clear hbr hbl
        go_wp2_with fail
        rw [Exit.noGoto_ret]
        go_ret2
        have h3 := HBR.out
        refine ⟨?_, HAA.out ▸ HBL.out⟩
        rw [HPL.out]
        exact ⟨_, rfl, by simpa using h3⟩
      · have he5 : ((m : Int) == 405) = false := beq_eq_false_iff_ne.2 h5
        by_cases h6 : (m : Int) = 503
        · have he6 : ((m : Int) == 503) = true := beq_iff_eq.2 h6
          have HMO := Lib.hid (show Hp.more m = [(Hp.ra, [49])] by unfold Hp.more; rw [if_neg h5, if_pos h6])
          clear h5 h6
          go_wp2_with fail
          refine (stg_put HS6.out [(Hp.ra, [49])] _ 2 rfl rfl (by simp)).mono ?_
          rintro e w7 ⟨rfl, hs7⟩
          have HS7 := Lib.hid hs7
          clear hs7
          go_wp2_with fail
          refine (stg_put HS7.out [(Hp.cn, Hp.cs)] _ 2 rfl rfl (by simp)).mono ?_
          rintro e w8 ⟨rfl, hs8⟩
          have HS8 := Lib.hid (show Stg w A ⟨(Hp.first m r).toArray⟩ (Hp.fields m text.size) w8 by
            rw [HFB.out]
            have e : Hp.fields m text.size = [] ++ [(Hp.ct, Hp.tp), (Hp.cl, Dp.digs 10 (text.size + 1))] ++ [(Hp.ra, [49])] ++ [(Hp.cn, Hp.cs)] := by unfold Hp.fields; rw [HMO.out]; rfl
            rw [e]
            exact hs8)
          clear hs8
          go_wp2_with fail
          refine (stg_told HS8.out HOK.out (by have := HFL.out; omega) (fields_len _ _) HFS.out).mono ?_
          rintro e w9 ⟨v9, rfl, hfb9, hb9⟩
          have HF9 := Lib.hid hfb9
          have HB9 := Lib.hid hb9
          clear hfb9 hb9
          go_wp2_with (at_builtin; refine app_text _ rfl _ _ rfl A _ _ _ rfl rfl HF9.out HTL.out ?_)
          intro v10 w10 hbr hbl
          have HBR := Lib.hid hbr
          have HBL := Lib.hid (HB9.out.trans hbl)
          clear hbr hbl
          go_wp2_with fail
          rw [Exit.noGoto_ret]
          go_ret2
          have h3 := HBR.out
          refine ⟨?_, HAA.out ▸ HBL.out⟩
          rw [HPL.out]
          exact ⟨_, rfl, by simpa using h3⟩
        · have he6 : ((m : Int) == 503) = false := beq_eq_false_iff_ne.2 h6
          have HMO := Lib.hid (show Hp.more m = [] by unfold Hp.more; rw [if_neg h5, if_neg h6])
          clear h5 h6
          go_wp2_with fail
          refine (stg_put HS6.out [(Hp.cn, Hp.cs)] _ 2 rfl rfl (by simp)).mono ?_
          rintro e w8 ⟨rfl, hs8⟩
          have HS8 := Lib.hid (show Stg w A ⟨(Hp.first m r).toArray⟩ (Hp.fields m text.size) w8 by
            rw [HFB.out]
            have e : Hp.fields m text.size = [] ++ [(Hp.ct, Hp.tp), (Hp.cl, Dp.digs 10 (text.size + 1))] ++ [(Hp.cn, Hp.cs)] := by unfold Hp.fields; rw [HMO.out]; rfl
            rw [e]
            exact hs8)
          clear hs8
          go_wp2_with fail
          refine (stg_told HS8.out HOK.out (by have := HFL.out; omega) (fields_len _ _) HFS.out).mono ?_
          rintro e w9 ⟨v9, rfl, hfb9, hb9⟩
          have HF9 := Lib.hid hfb9
          have HB9 := Lib.hid hb9
          clear hfb9 hb9
          go_wp2_with (at_builtin; refine app_text _ rfl _ _ rfl A _ _ _ rfl rfl HF9.out HTL.out ?_)
          intro v10 w10 hbr hbl
          have HBR := Lib.hid hbr
          have HBL := Lib.hid (HB9.out.trans hbl)
          clear hbr hbl
          go_wp2_with fail
          rw [Exit.noGoto_ret]
          go_ret2
          have h3 := HBR.out
          refine ⟨?_, HAA.out ▸ HBL.out⟩
          rw [HPL.out]
          exact ⟨_, rfl, by simpa using h3⟩
    · have HPL := Lib.hid (show Hp.plain n text.data.toList = none by unfold Hp.plain; rw [ho]; simp only [HTS.out]; rw [if_neg hlen])
      unfold Hp.reaOut at KR
      clear ho hok
      go_enter Tryd.func9, Tryd.ntmps9
      go_wp2_with fail
      refine wp_scope_fwd 0 rfl ?_
      go_wp2_with fail
      rw [HW1.out, HAA.out]
      refine (KR.out _).mono ?_
      rintro e w2 ⟨rfl, hb2⟩
      have HS2 := Lib.hid (HS1.out.below hb2)
      clear hb2
      go_wp2_with fail
      apply wp_goto
      simp only [Exit.then]
      refine onGoto_goto ?_
      go_wp2_with fail
      rw [Exit.noGoto_ret]
      go_ret2
      exact ⟨by rw [HPL.out]; rfl, HAA.out ▸ HS2.out.2.2⟩
end Go.Proofs.YthfdnlcalefjeaaDoor

/- The reference's bytes of a head. -/
namespace Go.Proofs.YthfdnlcalefjeaaDoor
set_option linter.unusedVariables false
set_option linter.unusedSimpArgs false
open Go.RowKit Go.Shelf
set_option maxHeartbeats 8000000
set_option maxRecDepth 100000
def byF (H g1 o1 N c k : Nat) (sb nb vb : ByteArray) : Nat → World → Value → Prop
  | 0, _, v => v = .string sb
  | 1, _, v => v = .pointer (some ⟨H, 1, none⟩)
  | 2, _, v => v = .slice (some ⟨g1, o1, none⟩) N c
  | 3, _, v => v = .int .i64 k
  | 4, _, v => v = .pointer (some ⟨g1, o1 + k * 2, none⟩)
  | 5, _, v => v = .pointer (some ⟨g1, o1 + k * 2, none⟩)
  | 6, _, v => v = .string nb
  | 7, _, v => v = .string (sb ++ nb)
  | 8, _, v => v = .string (sb ++ nb ++ (⟨#[58, 32]⟩ : ByteArray))
  | 9, _, v => v = .pointer (some ⟨H, 1, none⟩)
  | 10, _, v => v = .slice (some ⟨g1, o1, none⟩) N c
  | 11, _, v => v = .int .i64 k
  | 12, _, v => v = .pointer (some ⟨g1, o1 + k * 2, none⟩)
  | 13, _, v => v = .pointer (some ⟨g1, o1 + k * 2 + 1, none⟩)
  | 14, _, v => v = .string vb
  | 15, _, v => v = .string (sb ++ nb ++ (⟨#[58, 32]⟩ : ByteArray) ++ vb)
  | 16, _, v => v = .string ((sb ++ nb ++ (⟨#[58, 32]⟩ : ByteArray) ++ vb) ++ (⟨#[13, 10]⟩ : ByteArray))
  | _, _, _ => False
def byT (w1 : World) (_ : Nat → Bool) (w : World) : Prop := w = w1
theorem lines_snoc (fs : List Hp.Hd) (f : Hp.Hd) : Hp.lines (fs ++ [f]) = Hp.lines fs ++ (f.1 ++ [58, 32] ++ f.2 ++ [13, 10]) := by unfold Hp.lines Hp.fld; rw [List.flatMap_append]; simp
theorem ref_Bytes (F : List UInt8) (v : Value) (fs : List Hp.Hd) (w : World) (hv : HS w v fs) (hF : F.length ≤ 100000) (hl : fs.length ≤ 1000) (hs : ∀ f ∈ fs, f.1.length ≤ 100000 ∧ f.2.length ≤ 100000) :
    Calls Tryd.prog 32 #[.agg #[Hp.sx F, v]] w fun e w' => e = .returned (.string ⟨(Hp.hbytes F fs).toArray⟩) ∧ Below w.heap.size w w' := by
  obtain ⟨p, c, rfl⟩ := hv.slice
  obtain ⟨N, hN⟩ : ∃ N, fs.length = N := ⟨_, rfl⟩
  rw [hN] at hv hl ⊢
  unfold Hp.sx
  have HST := Lib.hid (show (⟨F.toArray⟩ : ByteArray) ++ ⟨#[13, 10]⟩ = ⟨(F ++ [13, 10]).toArray⟩ by apply ByteArray.ext; apply Array.ext'; simp)
  have hFs := (show (⟨F.toArray⟩ : ByteArray).size = F.length by simp [ByteArray.size])
  obtain ⟨fb, hfb⟩ : ∃ z : ByteArray, (⟨F.toArray⟩ : ByteArray) = z := ⟨_, rfl⟩
  rw [hfb] at HST hFs ⊢
  have hfs2 : fb.size ≤ 100000 := by omega
  obtain ⟨H, hH⟩ : ∃ H, w.heap.size = H := ⟨_, rfl⟩
  obtain ⟨W1, hW1⟩ : ∃ Z, w.alloc (.cells #[.string fb, .slice p N c] 45) = Z := ⟨_, rfl⟩
  have HB1 := Lib.hid (show Below H w W1 by rw [← hW1, ← hH]; exact (Below.refl _ _).alloc (Nat.le_refl _) _)
  have HG1 := Lib.hid (show W1.heap[H]? = some (.cells #[.string fb, .slice p N c] 45 (0, 0)) by rw [← hW1, ← hH]; exact World.alloc_heap_new _ _)
  have HV1 := Lib.hid (hv.below (by rw [hH]; exact HB1.out))
  have HW1 := Lib.hid hW1
  have HHH := Lib.hid hH
  have HNN := Lib.hid hN
  have HSZ := Lib.hid hs
  have HFF := Lib.hid hF
  have a0 : W1.cell? ⟨H, 0, none⟩ = some (.string fb) := by simp [World.cell?, HG1.out]
  have a1 : W1.cell? ⟨H, 1, none⟩ = some (.slice p N c) := by simp [World.cell?, HG1.out]
  clear hv hs hN hfb hH hW1 hFs hF
  go_enter Tryd.func32, Tryd.ntmps32
  go_wp2_with fail
  rw [HHH.out, HW1.out]
  go_wp2_with fail
  go_loopw [3, 4] (fun v3 i wr => ∃ (k n : Nat), k ≤ N ∧ i = .int .i64 k ∧ v3 = .string ⟨(F ++ [13, 10] ++ Hp.lines (fs.take k)).toArray⟩ ∧ wr = W1.drewN n) (fun _ i _ => N - (intOf i).toNat)
  case atStart => exact ⟨0, 0, Nat.zero_le _, rfl, by rw [HST.out]; simp [Hp.lines], rfl⟩
  case round =>
    obtain ⟨k, n, hk, rfl, rfl, rfl⟩ := hrel
    by_cases hlt : k < N
    · obtain ⟨g1, o1, rfl, hc1⟩ := HV1.out.cells (k := k) (by rw [HNN.out]; exact hlt)
      obtain ⟨hx, hy⟩ := hc1 k (by rw [HNN.out]; exact hlt)
      have HTK := Lib.hid (show fs.take (k + 1) = fs.take k ++ [fs.getD k ([], [])] by
        rw [List.take_succ_eq_append_getElem (by rw [HNN.out]; exact hlt), List.getD_eq_getElem?_getD, List.getElem?_eq_getElem (by rw [HNN.out]; exact hlt)]; rfl)
      have hln := sumfld (fs.take k) (fun f hf => HSZ.out f (List.mem_of_mem_take hf))
      have hln2 : (fs.take k).length ≤ 1000 := by rw [List.length_take, HNN.out]; omega
      have hln3 : (fs.take k).length * 200004 ≤ 1000 * 200004 := Nat.mul_le_mul_right _ hln2
      obtain ⟨⟨n0, v0⟩, hf⟩ : ∃ x, fs.getD k ([], []) = x := ⟨_, rfl⟩
      have hszf := HSZ.out (n0, v0) (by rw [← hf, List.getD_eq_getElem?_getD, List.getElem?_eq_getElem (by rw [HNN.out]; exact hlt)]; exact List.getElem_mem _)
      rw [hf] at hx hy HTK
      unfold Hp.sx at hx hy
      simp only at hx hy hszf
      have hns := (show (⟨n0.toArray⟩ : ByteArray).size = n0.length by simp [ByteArray.size])
      have hvs := (show (⟨v0.toArray⟩ : ByteArray).size = v0.length by simp [ByteArray.size])
      have hss := (show (⟨(F ++ [13, 10] ++ Hp.lines (fs.take k)).toArray⟩ : ByteArray).size = F.length + 2 + (Hp.lines (fs.take k)).length by simp [ByteArray.size]; omega)
      have HQ := Lib.hid (show (⟨(F ++ [13, 10] ++ Hp.lines (fs.take k)).toArray⟩ : ByteArray) ++ ⟨n0.toArray⟩ ++ ⟨#[58, 32]⟩ ++ ⟨v0.toArray⟩ ++ ⟨#[13, 10]⟩ = ⟨(F ++ [13, 10] ++ Hp.lines (fs.take (k + 1))).toArray⟩ by
        rw [HTK.out, lines_snoc]
        apply ByteArray.ext; apply Array.ext'; simp)
      obtain ⟨nb, hnb⟩ : ∃ z : ByteArray, (⟨n0.toArray⟩ : ByteArray) = z := ⟨_, rfl⟩
      obtain ⟨vb, hvb⟩ : ∃ z : ByteArray, (⟨v0.toArray⟩ : ByteArray) = z := ⟨_, rfl⟩
      obtain ⟨sb, hsb⟩ : ∃ z : ByteArray, (⟨(F ++ [13, 10] ++ Hp.lines (fs.take k)).toArray⟩ : ByteArray) = z := ⟨_, rfl⟩
      rw [hnb] at hx hns HQ
      rw [hvb] at hy hvs HQ
      rw [hsb] at hss HQ ⊢
      have hFF := HFF.out
      have hnl : nb.size ≤ 100000 := by omega
      have hvl : vb.size ≤ 100000 := by omega
      have hsl : sb.size ≤ 300000000 := by omega
      have z1 : (sb ++ nb).size ≤ 301000000 := by rw [ByteArray.size_append]; omega
      have z2 : (sb ++ nb ++ (⟨#[58, 32]⟩ : ByteArray)).size ≤ 302000000 := by rw [ByteArray.size_append]; have : (⟨#[58, 32]⟩ : ByteArray).size = 2 := rfl; omega
      have z3 : (sb ++ nb ++ (⟨#[58, 32]⟩ : ByteArray) ++ vb).size ≤ 303000000 := by rw [ByteArray.size_append]; omega
      have HX := Lib.hid hx
      have HY := Lib.hid hy
      have HA1 := Lib.hid (show W1.cell? ⟨H, 1, none⟩ = some (.slice (some ⟨g1, o1, none⟩) N c) from a1)
      clear hf hnb hvb hsb hc1 hns hvs hss hszf hln hln2 hln3 hFF hx hy
      go_wp2_with fail
      refine region_last2 17 (fun i => 15 + min i 16) (byF H g1 o1 N c k sb nb vb) (byT (W1.drewN n).drew) (by kernel_rfl) (by kernel_rfl) rfl (by kernel_rfl) (fun i => by show 15 + min i 16 < _; simp; omega) (fun i j hi hj h => by have h : 15 + min i 16 = 15 + min j 16 := h; omega) ?start ?dst ?step ?last
      case dst =>
        intro i o hi ho
        match i, hi, ho with
        | 0, _, ho => cases ho; rfl
        | 1, _, ho => cases ho; rfl
        | 2, _, ho => cases ho; rfl
        | 3, _, ho => cases ho; rfl
        | 4, _, ho => cases ho; rfl
        | 5, _, ho => cases ho; rfl
        | 6, _, ho => cases ho; rfl
        | 7, _, ho => cases ho; rfl
        | 8, _, ho => cases ho; rfl
        | 9, _, ho => cases ho; rfl
        | 10, _, ho => cases ho; rfl
        | 11, _, ho => cases ho; rfl
        | 12, _, ho => cases ho; rfl
        | 13, _, ho => cases ho; rfl
        | 14, _, ho => cases ho; rfl
        | 15, _, ho => cases ho; rfl
        | 16, _, ho => cases ho; rfl
        | n + 17, hi, _ => exact absurd hi (by omega)
      case step =>
        intro f a' W i o hib ho hfi hpre hT hrest
        match i, hib, ho with
        | 0, _, ho =>
          cases ho
          have q3 : a'.tmps.getD 3 undef = .string sb := (hrest 3 (by intro i hi; show 15 + min i 16 ≠ _; omega))
          have e3 := rg_ev q3
          exact rg_same2 (.string sb) (by unfold Oper.wp execOp; go_simp; all_goals ((try simp only [e3]); (try go_simp); (try rw [if_pos (by omega)]); (try rw [if_neg (by omega)]); first | done | rfl | exact ⟨rfl, rfl⟩ | trivial)) rfl (hT)
        | 1, _, ho =>
          cases ho
          have q1 : a'.tmps.getD 1 undef = .pointer (some ⟨H, 0, none⟩) := (hrest 1 (by intro i hi; show 15 + min i 16 ≠ _; omega))
          have e1 := rg_ev q1
          exact rg_same2 (.pointer (some ⟨H, 1, none⟩)) (by unfold Oper.wp execOp; go_simp; all_goals ((try simp only [e1]); (try go_simp); (try rw [if_pos (by omega)]); (try rw [if_neg (by omega)]); first | done | rfl | exact ⟨rfl, rfl⟩ | trivial)) rfl (hT)
        | 2, _, ho =>
          cases ho
          have f16 := (hpre { on := 1, ground := .data } (by simp) rfl).1
          have q16 : a'.tmps.getD 16 undef = .pointer (some ⟨H, 1, none⟩) := (hpre { on := 1, ground := .data } (by simp) rfl).2
          have cH : W.cell? ⟨H, 1, none⟩ = some (.slice (some ⟨g1, o1, none⟩) N c) := by rw [hT]; exact HA1.out
          have e16 := rg_ev q16
          exact rg_same2 (.slice (some ⟨g1, o1, none⟩) N c) (by unfold Oper.wp execOp; go_simp; all_goals ((try simp only [e16]); (try go_simp); (try rw [if_pos (by omega)]); (try rw [if_neg (by omega)]); first | done | rfl | exact ⟨rfl, rfl⟩ | trivial)) rfl (hT)
        | 3, _, ho =>
          cases ho
          have q4 : a'.tmps.getD 4 undef = .int .i64 k := (hrest 4 (by intro i hi; show 15 + min i 16 ≠ _; omega))
          have e4 := rg_ev q4
          exact rg_same2 (.int .i64 k) (by unfold Oper.wp execOp; go_simp; all_goals ((try simp only [e4]); (try go_simp); (try rw [if_pos (by omega)]); (try rw [if_neg (by omega)]); first | done | rfl | exact ⟨rfl, rfl⟩ | trivial)) rfl (hT)
        | 4, _, ho =>
          cases ho
          have f17 := (hpre { on := 2, ground := .data } (by simp) rfl).1
          have q17 : a'.tmps.getD 17 undef = .slice (some ⟨g1, o1, none⟩) N c := (hpre { on := 2, ground := .data } (by simp) rfl).2
          have f18 := (hpre { on := 3, ground := .data } (by simp) rfl).1
          have q18 : a'.tmps.getD 18 undef = .int .i64 k := (hpre { on := 3, ground := .data } (by simp) rfl).2
          have e17 := rg_ev q17
          have e18 := rg_ev q18
          exact rg_same2 (.pointer (some ⟨g1, o1 + k * 2, none⟩)) (by unfold Oper.wp execOp; go_simp; all_goals ((try simp only [e17, e18]); (try go_simp); (try rw [if_pos (by omega)]); (try rw [if_neg (by omega)]); first | done | rfl | exact ⟨rfl, rfl⟩ | trivial)) rfl (hT)
        | 5, _, ho =>
          cases ho
          have f19 := (hpre { on := 4, ground := .data } (by simp) rfl).1
          have q19 : a'.tmps.getD 19 undef = .pointer (some ⟨g1, o1 + k * 2, none⟩) := (hpre { on := 4, ground := .data } (by simp) rfl).2
          have e19 := rg_ev q19
          exact rg_same2 (.pointer (some ⟨g1, o1 + k * 2, none⟩)) (by unfold Oper.wp execOp; go_simp; all_goals ((try simp only [e19]); (try go_simp); (try rw [if_pos (by omega)]); (try rw [if_neg (by omega)]); first | done | rfl | exact ⟨rfl, rfl⟩ | trivial)) rfl (hT)
        | 6, _, ho =>
          cases ho
          have f20 := (hpre { on := 5, ground := .data } (by simp) rfl).1
          have q20 : a'.tmps.getD 20 undef = .pointer (some ⟨g1, o1 + k * 2, none⟩) := (hpre { on := 5, ground := .data } (by simp) rfl).2
          have cX : W.cell? ⟨g1, o1 + k * 2, none⟩ = some (.string nb) := by rw [hT]; exact HX.out
          have e20 := rg_ev q20
          exact rg_same2 (.string nb) (by unfold Oper.wp execOp; go_simp; all_goals ((try simp only [e20]); (try go_simp); (try rw [if_pos (by omega)]); (try rw [if_neg (by omega)]); first | done | rfl | exact ⟨rfl, rfl⟩ | trivial)) rfl (hT)
        | 7, _, ho =>
          cases ho
          have f15 := (hpre { on := 0, ground := .data } (by simp) rfl).1
          have q15 : a'.tmps.getD 15 undef = .string sb := (hpre { on := 0, ground := .data } (by simp) rfl).2
          have f21 := (hpre { on := 6, ground := .data } (by simp) rfl).1
          have q21 : a'.tmps.getD 21 undef = .string nb := (hpre { on := 6, ground := .data } (by simp) rfl).2
          have e15 := rg_ev q15
          have e21 := rg_ev q21
          exact rg_same2 (.string (sb ++ nb)) (by unfold Oper.wp execOp; go_simp; all_goals ((try simp only [e15, e21]); (try go_simp); (try rw [if_pos (by omega)]); (try rw [if_neg (by omega)]); first | done | rfl | exact ⟨rfl, rfl⟩ | trivial)) rfl (hT)
        | 8, _, ho =>
          cases ho
          have f22 := (hpre { on := 7, ground := .data } (by simp) rfl).1
          have q22 : a'.tmps.getD 22 undef = .string (sb ++ nb) := (hpre { on := 7, ground := .data } (by simp) rfl).2
          have e22 := rg_ev q22
          exact rg_same2 (.string (sb ++ nb ++ (⟨#[58, 32]⟩ : ByteArray))) (by unfold Oper.wp execOp; go_simp; all_goals ((try simp only [e22]); (try go_simp); (try rw [if_pos (by omega)]); (try rw [if_neg (by omega)]); first | done | rfl | exact ⟨rfl, rfl⟩ | trivial)) rfl (hT)
        | 9, _, ho =>
          cases ho
          have q1 : a'.tmps.getD 1 undef = .pointer (some ⟨H, 0, none⟩) := (hrest 1 (by intro i hi; show 15 + min i 16 ≠ _; omega))
          have e1 := rg_ev q1
          exact rg_same2 (.pointer (some ⟨H, 1, none⟩)) (by unfold Oper.wp execOp; go_simp; all_goals ((try simp only [e1]); (try go_simp); (try rw [if_pos (by omega)]); (try rw [if_neg (by omega)]); first | done | rfl | exact ⟨rfl, rfl⟩ | trivial)) rfl (hT)
        | 10, _, ho =>
          cases ho
          have f24 := (hpre { on := 9, ground := .data } (by simp) rfl).1
          have q24 : a'.tmps.getD 24 undef = .pointer (some ⟨H, 1, none⟩) := (hpre { on := 9, ground := .data } (by simp) rfl).2
          have cH : W.cell? ⟨H, 1, none⟩ = some (.slice (some ⟨g1, o1, none⟩) N c) := by rw [hT]; exact HA1.out
          have e24 := rg_ev q24
          exact rg_same2 (.slice (some ⟨g1, o1, none⟩) N c) (by unfold Oper.wp execOp; go_simp; all_goals ((try simp only [e24]); (try go_simp); (try rw [if_pos (by omega)]); (try rw [if_neg (by omega)]); first | done | rfl | exact ⟨rfl, rfl⟩ | trivial)) rfl (hT)
        | 11, _, ho =>
          cases ho
          have q4 : a'.tmps.getD 4 undef = .int .i64 k := (hrest 4 (by intro i hi; show 15 + min i 16 ≠ _; omega))
          have e4 := rg_ev q4
          exact rg_same2 (.int .i64 k) (by unfold Oper.wp execOp; go_simp; all_goals ((try simp only [e4]); (try go_simp); (try rw [if_pos (by omega)]); (try rw [if_neg (by omega)]); first | done | rfl | exact ⟨rfl, rfl⟩ | trivial)) rfl (hT)
        | 12, _, ho =>
          cases ho
          have f25 := (hpre { on := 10, ground := .data } (by simp) rfl).1
          have q25 : a'.tmps.getD 25 undef = .slice (some ⟨g1, o1, none⟩) N c := (hpre { on := 10, ground := .data } (by simp) rfl).2
          have f26 := (hpre { on := 11, ground := .data } (by simp) rfl).1
          have q26 : a'.tmps.getD 26 undef = .int .i64 k := (hpre { on := 11, ground := .data } (by simp) rfl).2
          have e25 := rg_ev q25
          have e26 := rg_ev q26
          exact rg_same2 (.pointer (some ⟨g1, o1 + k * 2, none⟩)) (by unfold Oper.wp execOp; go_simp; all_goals ((try simp only [e25, e26]); (try go_simp); (try rw [if_pos (by omega)]); (try rw [if_neg (by omega)]); first | done | rfl | exact ⟨rfl, rfl⟩ | trivial)) rfl (hT)
        | 13, _, ho =>
          cases ho
          have f27 := (hpre { on := 12, ground := .data } (by simp) rfl).1
          have q27 : a'.tmps.getD 27 undef = .pointer (some ⟨g1, o1 + k * 2, none⟩) := (hpre { on := 12, ground := .data } (by simp) rfl).2
          have e27 := rg_ev q27
          exact rg_same2 (.pointer (some ⟨g1, o1 + k * 2 + 1, none⟩)) (by unfold Oper.wp execOp; go_simp; all_goals ((try simp only [e27]); (try go_simp); (try rw [if_pos (by omega)]); (try rw [if_neg (by omega)]); first | done | rfl | exact ⟨rfl, rfl⟩ | trivial)) rfl (hT)
        | 14, _, ho =>
          cases ho
          have f28 := (hpre { on := 13, ground := .data } (by simp) rfl).1
          have q28 : a'.tmps.getD 28 undef = .pointer (some ⟨g1, o1 + k * 2 + 1, none⟩) := (hpre { on := 13, ground := .data } (by simp) rfl).2
          have cY : W.cell? ⟨g1, o1 + k * 2 + 1, none⟩ = some (.string vb) := by rw [hT]; exact HY.out
          have e28 := rg_ev q28
          exact rg_same2 (.string vb) (by unfold Oper.wp execOp; go_simp; all_goals ((try simp only [e28]); (try go_simp); (try rw [if_pos (by omega)]); (try rw [if_neg (by omega)]); first | done | rfl | exact ⟨rfl, rfl⟩ | trivial)) rfl (hT)
        | 15, _, ho =>
          cases ho
          have f23 := (hpre { on := 8, ground := .data } (by simp) rfl).1
          have q23 : a'.tmps.getD 23 undef = .string (sb ++ nb ++ (⟨#[58, 32]⟩ : ByteArray)) := (hpre { on := 8, ground := .data } (by simp) rfl).2
          have f29 := (hpre { on := 14, ground := .data } (by simp) rfl).1
          have q29 : a'.tmps.getD 29 undef = .string vb := (hpre { on := 14, ground := .data } (by simp) rfl).2
          have e23 := rg_ev q23
          have e29 := rg_ev q29
          exact rg_same2 (.string (sb ++ nb ++ (⟨#[58, 32]⟩ : ByteArray) ++ vb)) (by unfold Oper.wp execOp; go_simp; all_goals ((try simp only [e23, e29]); (try go_simp); (try rw [if_pos (by omega)]); (try rw [if_neg (by omega)]); first | done | rfl | exact ⟨rfl, rfl⟩ | trivial)) rfl (hT)
        | 16, _, ho =>
          cases ho
          have f30 := (hpre { on := 15, ground := .data } (by simp) rfl).1
          have q30 : a'.tmps.getD 30 undef = .string (sb ++ nb ++ (⟨#[58, 32]⟩ : ByteArray) ++ vb) := (hpre { on := 15, ground := .data } (by simp) rfl).2
          have e30 := rg_ev q30
          exact rg_same2 (.string ((sb ++ nb ++ (⟨#[58, 32]⟩ : ByteArray) ++ vb) ++ (⟨#[13, 10]⟩ : ByteArray))) (by unfold Oper.wp execOp; go_simp; all_goals ((try simp only [e30]); (try go_simp); (try rw [if_pos (by omega)]); (try rw [if_neg (by omega)]); first | done | rfl | exact ⟨rfl, rfl⟩ | trivial)) rfl (hT)
        | n + 17, hib, _ => exact absurd hib (by omega)
      case last =>
        intro f vs W oL ho hall hT hvs
        have hopL : oL.op = Op.assign (.tmp 31) := by cases ho; rfl
        have hdsL : oL.dst = some 3 := by cases ho; rfl
        clear ho hall
        have v0 : vs 0 = .string sb := hvs 0 (by decide)
        have v1 : vs 1 = .pointer (some ⟨H, 1, none⟩) := hvs 1 (by decide)
        have v2 : vs 2 = .slice (some ⟨g1, o1, none⟩) N c := hvs 2 (by decide)
        have v3 : vs 3 = .int .i64 k := hvs 3 (by decide)
        have v4 : vs 4 = .pointer (some ⟨g1, o1 + k * 2, none⟩) := hvs 4 (by decide)
        have v5 : vs 5 = .pointer (some ⟨g1, o1 + k * 2, none⟩) := hvs 5 (by decide)
        have v6 : vs 6 = .string nb := hvs 6 (by decide)
        have v7 : vs 7 = .string (sb ++ nb) := hvs 7 (by decide)
        have v8 : vs 8 = .string (sb ++ nb ++ (⟨#[58, 32]⟩ : ByteArray)) := hvs 8 (by decide)
        have v9 : vs 9 = .pointer (some ⟨H, 1, none⟩) := hvs 9 (by decide)
        have v10 : vs 10 = .slice (some ⟨g1, o1, none⟩) N c := hvs 10 (by decide)
        have v11 : vs 11 = .int .i64 k := hvs 11 (by decide)
        have v12 : vs 12 = .pointer (some ⟨g1, o1 + k * 2, none⟩) := hvs 12 (by decide)
        have v13 : vs 13 = .pointer (some ⟨g1, o1 + k * 2 + 1, none⟩) := hvs 13 (by decide)
        have v14 : vs 14 = .string vb := hvs 14 (by decide)
        have v15 : vs 15 = .string (sb ++ nb ++ (⟨#[58, 32]⟩ : ByteArray) ++ vb) := hvs 15 (by decide)
        have v16 : vs 16 = .string ((sb ++ nb ++ (⟨#[58, 32]⟩ : ByteArray) ++ vb) ++ (⟨#[13, 10]⟩ : ByteArray)) := hvs 16 (by decide)
        simp only [fillN, List.size_toArray, List.length_cons, List.length_nil, Nat.reduceAdd, show List.range 17 = [0, 1, 2, 3, 4, 5, 6, 7, 8, 9, 10, 11, 12, 13, 14, 15, 16] from rfl, List.foldl_cons, List.foldl_nil, show 15 + min 0 16 = 15 from rfl, show 15 + min 1 16 = 16 from rfl, show 15 + min 2 16 = 17 from rfl, show 15 + min 3 16 = 18 from rfl, show 15 + min 4 16 = 19 from rfl, show 15 + min 5 16 = 20 from rfl, show 15 + min 6 16 = 21 from rfl, show 15 + min 7 16 = 22 from rfl, show 15 + min 8 16 = 23 from rfl, show 15 + min 9 16 = 24 from rfl, show 15 + min 10 16 = 25 from rfl, show 15 + min 11 16 = 26 from rfl, show 15 + min 12 16 = 27 from rfl, show 15 + min 13 16 = 28 from rfl, show 15 + min 14 16 = 29 from rfl, show 15 + min 15 16 = 30 from rfl, show 15 + min 16 16 = 31 from rfl, v0, v1, v2, v3, v4, v5, v6, v7, v8, v9, v10, v11, v12, v13, v14, v15, v16]
        clear v0 v1 v2 v3 v4 v5 v6 v7 v8 v9 v10 v11 v12 v13 v14 v15 v16 hvs
        have hT' : W = W1.drewN (n + 1) := hT
        clear hT
        unfold Oper.wp execOp
        simp only [hopL]
        go_simp
        rw [HQ.out]
        clear hopL hdsL
        go_wp2_with fail
        go_roundw
        case rel => exact ⟨k + 1, n + 1, by omega, by go_num, rfl, rfl⟩
        case measure => simp [intOf]; omega
      case start => rfl
    · have HTF := Lib.hid (show fs.take k = fs by rw [List.take_of_length_le (by rw [HNN.out]; omega)])
      have hln := sumfld (fs.take k) (fun f hf => HSZ.out f (List.mem_of_mem_take hf))
      have hln2 : (fs.take k).length ≤ 1000 := by rw [List.length_take, HNN.out]; omega
      have hln3 : (fs.take k).length * 200004 ≤ 1000 * 200004 := Nat.mul_le_mul_right _ hln2
      have hss := (show (⟨(F ++ [13, 10] ++ Hp.lines (fs.take k)).toArray⟩ : ByteArray).size = F.length + 2 + (Hp.lines (fs.take k)).length by simp [ByteArray.size]; omega)
      have HQ := Lib.hid (show (⟨(F ++ [13, 10] ++ Hp.lines (fs.take k)).toArray⟩ : ByteArray) ++ ⟨#[13, 10]⟩ = ⟨(Hp.hbytes F fs).toArray⟩ by
        rw [HTF.out]
        apply ByteArray.ext; apply Array.ext'; simp [Hp.hbytes])
      obtain ⟨sb, hsb⟩ : ∃ z : ByteArray, (⟨(F ++ [13, 10] ++ Hp.lines (fs.take k)).toArray⟩ : ByteArray) = z := ⟨_, rfl⟩
      rw [hsb] at hss HQ ⊢
      have hFF := HFF.out
      have hsl : sb.size ≤ 300000000 := by omega
      have HBe := Lib.hid (show Below w.heap.size w (W1.drewN n) from HHH.out ▸ (HB1.out.trans ⟨rfl, rfl, rfl, Nat.le_refl _, fun _ _ => rfl⟩))
      clear hln hln2 hln3 hss hsb hFF
      go_wp2_with fail
      go_ret
      exact ⟨by rw [HQ.out]; rfl, HBe.out⟩
end Go.Proofs.YthfdnlcalefjeaaDoor

/- answer: Refusal, Health, Stream. -/
namespace Go.Proofs.YthfdnlcalefjeaaDoor
set_option linter.unusedVariables false
set_option linter.unusedSimpArgs false
open Go.RowKit Go.Shelf
set_option maxHeartbeats 8000000
set_option maxRecDepth 100000
def erOf (o : Option (List UInt8)) : Int := if o.isSome then 0 else 2
/-- what is told: bytes, or none -/
def AnOut (w : World) (o : Option (List UInt8)) (e : Ending) : Prop := ∃ r, e = .returned (.tuple #[r, .int .i64 (erOf o)]) ∧ BRow w r (o.getD [])
theorem anOut_of {w : World} {o : Option (List UInt8)} {e : Ending} (h : PlOut w o e) : AnOut w o e := by
  cases o with
  | none => exact ⟨_, h, BRow.nil w⟩
  | some l => obtain ⟨r, h1, h2⟩ := h; exact ⟨r, h1, h2⟩
theorem plain_any (n : Int) (text : ByteArray) (w : World) (hn : -9223372036854775808 ≤ n ∧ n ≤ 9223372036854775807) (ht : text.size ≤ 9223372036854775807) (htb : Tabs w) :
    Calls Tryd.prog 9 #[.int .i64 n, .string text] w fun e w' => AnOut w' (Hp.plain n text.data.toList) e ∧ Below w.heap.size w w' :=
  (ans_Plain n text w hn ht htb).mono fun e w' h => ⟨anOut_of h.1, h.2⟩
theorem digs_lenk (k : Nat) : ∀ n, n < 10 ^ (k + 1) → (Dp.digs 10 n).length ≤ k + 1 := by
  induction k with
  | zero => intro n hn; rw [Dp.digs_lt (by simpa using hn)]; simp
  | succ k ih =>
    intro n hn
    by_cases h : n < 10
    · rw [Dp.digs_lt h]; simp
    · rw [Dp.digs_ge (by omega) h, List.length_append, List.length_singleton]
      have := ih (n / 10) (by rw [Nat.div_lt_iff_lt_mul (by omega), ← Nat.pow_succ]; exact hn)
      omega
theorem digs_len64 (n : Nat) (h : n ≤ 9223372036854775807) : (Dp.digs 10 n).length ≤ 20 := digs_lenk 19 n (by omega)
theorem ans_Refusal (n : Int) (w : World) (hn : -9223372036854775808 ≤ n ∧ n ≤ 9223372036854775807) (htb : Tabs w) :
    Calls Tryd.prog 10 #[.int .i64 n] w fun e w' => AnOut w' (Hp.refusal n) e ∧ Below w.heap.size w w' := by
  have HTB := Lib.hid htb
  have KR := Lib.hid (ans_Reason n w)
  obtain ⟨o, ho⟩ : ∃ o, Hp.reason n = o := ⟨_, rfl⟩
  rw [ho] at KR
  clear htb
  cases o with
  | none =>
    have HPL := Lib.hid (show Hp.refusal n = none by unfold Hp.refusal; rw [ho])
    unfold Hp.reaOut at KR
    clear ho
    go_enter Tryd.func10, Tryd.ntmps10
    go_wp2_with fail
    refine KR.out.mono ?_
    rintro e w2 ⟨rfl, hb2⟩
    have HB2 := Lib.hid hb2
    clear hb2
    go_wp2_with fail
    go_ret2
    exact ⟨by rw [HPL.out]; exact ⟨_, rfl, BRow.nil _⟩, HB2.out⟩
  | some r =>
    have hok := Hp.reason_ok ho
    unfold Hp.reaOut Hp.sx at KR
    simp only at KR
    by_cases h2 : n = 200
    · have HPL := Lib.hid (show Hp.refusal n = none by unfold Hp.refusal; rw [ho]; simp only; rw [if_pos h2])
      have he : (n == 200) = true := beq_iff_eq.2 h2
      clear ho hok h2
      go_enter Tryd.func10, Tryd.ntmps10
      go_wp2_with fail
      refine KR.out.mono ?_
      rintro e w2 ⟨rfl, hb2⟩
      have HB2 := Lib.hid hb2
      clear hb2
      go_wp2_with fail
      go_ret2
      exact ⟨by rw [HPL.out]; exact ⟨_, rfl, BRow.nil _⟩, HB2.out⟩
    · have he : (n == 200) = false := beq_eq_false_iff_ne.2 h2
      obtain ⟨m, rfl⟩ : ∃ m : Nat, n = (m : Int) := ⟨n.toNat, by omega⟩
      have hm1 : 200 ≤ m ∧ m ≤ 505 := by omega
      have HPL := Lib.hid (show Hp.refusal m = Hp.plain m (Dp.digs 10 m ++ 32 :: Tp.lower r) by unfold Hp.refusal; rw [ho]; simp only; rw [if_neg h2]; simp)
      have KD := Lib.hid (fun W (h : Tabs W) => dec_text m W (by omega) h)
      have hrd : (⟨r.toArray⟩ : ByteArray).data.toList = r := by simp
      have hrs := (show (⟨r.toArray⟩ : ByteArray).size = r.length by simp [ByteArray.size])
      have hds := (show (⟨(Dp.digs 10 m).toArray⟩ : ByteArray).size = (Dp.digs 10 m).length by simp [ByteArray.size])
      have hls := (show (⟨(Tp.lower r).toArray⟩ : ByteArray).size = r.length by simp [ByteArray.size, Tp.lower])
      have hcat : ((⟨(Dp.digs 10 m).toArray⟩ : ByteArray) ++ ⟨#[32]⟩ ++ ⟨(Tp.lower r).toArray⟩).data.toList = Dp.digs 10 m ++ 32 :: Tp.lower r := by simp
      obtain ⟨rb, hrb⟩ : ∃ z : ByteArray, (⟨r.toArray⟩ : ByteArray) = z := ⟨_, rfl⟩
      rw [hrb] at KR hrd hrs
      have KL := Lib.hid (fun W => tok_lower rb W (by omega))
      rw [hrd] at KL
      obtain ⟨db, hdb⟩ : ∃ z : ByteArray, (⟨(Dp.digs 10 m).toArray⟩ : ByteArray) = z := ⟨_, rfl⟩
      obtain ⟨lb, hlb⟩ : ∃ z : ByteArray, (⟨(Tp.lower r).toArray⟩ : ByteArray) = z := ⟨_, rfl⟩
      rw [hdb] at KD hds hcat
      rw [hlb] at KL hls hcat
      have hdl := digs_len_le m
      have hdb2 : db.size ≤ 506 := by omega
      have hlb2 : lb.size ≤ 31 := by omega
      obtain ⟨xb, hxb⟩ : ∃ z : ByteArray, db ++ ⟨#[32]⟩ ++ lb = z := ⟨_, rfl⟩
      have hxs : xb.size ≤ 1000 := by
        rw [← hxb, ByteArray.size_append, ByteArray.size_append]
        have : (⟨#[32]⟩ : ByteArray).size = 1 := rfl
        omega
      rw [hxb] at hcat
      have KP := Lib.hid (fun W (h : Tabs W) => plain_any m xb W (by omega) (by omega) h)
      rw [hcat, ← HPL.out] at KP
      clear ho hok h2 hrd hrs hds hls hrb hdb hlb hdl hcat hxs
      go_enter Tryd.func10, Tryd.ntmps10
      go_wp2_with fail
      refine KR.out.mono ?_
      rintro e w2 ⟨rfl, hb2⟩
      have HB2 := Lib.hid hb2
      clear hb2
      go_wp2_with fail
      refine (KD.out w2 (HTB.out.bel HB2.out)).mono ?_
      rintro e w3 ⟨rfl, hb3⟩
      have HB3 := Lib.hid (HB2.out.trans (hb3.mono HB2.out.size))
      clear hb3
      go_wp2_with fail
      refine (KL.out w3).mono ?_
      rintro e w4 ⟨rfl, hb4⟩
      have HB4 := Lib.hid (HB3.out.trans (hb4.mono HB3.out.size))
      clear hb4
      go_wp2_with fail
      refine (KP.out w4 (HTB.out.bel HB4.out)).mono ?_
      rintro e w5 ⟨⟨v5, rfl, hv5⟩, hb5⟩
      have HV5 := Lib.hid hv5
      have HB5 := Lib.hid (HB4.out.trans (hb5.mono HB4.out.size))
      clear hb5 hv5
      go_wp2_with fail
      go_ret2
      exact ⟨⟨_, rfl, HV5.out⟩, HB5.out⟩
end Go.Proofs.YthfdnlcalefjeaaDoor

/- A number's digits, read back, are that number: with noughts ahead, or in capitals, too. No program in sight. -/
namespace Go.Proofs.YthfdnlcalefjeaaDoor
set_option linter.unusedVariables false
set_option linter.unusedSimpArgs false
namespace Dp
theorem rd_append (b : Int) : ∀ (l r : List UInt8) (n : Int), (rd b l n).2 = 0 → rd b (l ++ r) n = rd b r (rd b l n).1
  | [], r, n, _ => rfl
  | c :: l, r, n, h => by
    simp only [rd, List.cons_append] at h ⊢
    by_cases h1 : mulE n b ≠ 0
    · rw [if_pos h1] at h; simp at h
    · rw [if_neg h1] at h ⊢
      by_cases h2 : addE (mulN n b) (digV c.toNat) ≠ 0
      · rw [if_pos h2] at h; simp at h
      · rw [if_neg h2] at h ⊢
        rw [rd_append b l r _ h, if_neg h1, if_neg h2]
theorem rd_one {b n : Int} {c : UInt8} (h0 : 0 ≤ n * b) (h : n * b + digV c.toNat < 18446744073709551616) : rd b [c] n = (n * b + digV c.toNat, 0) := by
  have hd := digV_lo (c.toNat : Int)
  have e1 : mulE n b = 0 := by unfold mulE; rw [if_pos (by omega)]
  have e2 : mulN n b = n * b := by unfold mulN; rw [if_pos (by omega)]
  have e3 : addE (n * b) (digV c.toNat) = 0 := by unfold addE; rw [if_pos h]
  have e4 : addN (n * b) (digV c.toNat) = n * b + digV c.toNat := by unfold addN; rw [if_pos h]
  simp only [rd]
  rw [if_neg (by rw [e1]; decide), e2, if_neg (by rw [e3]; decide), e4]
theorem dg_val : ∀ i : Fin 16, digV ((dg i.val).toNat : Int) = i.val := by decide +kernel
/-- digits that f turns into digits of the same value -/
theorem rd_digs {b : Nat} (hb : 2 ≤ b) (hb' : b ≤ 16) (f : UInt8 → UInt8) (hf : ∀ i : Fin 16, digV ((f (dg i.val)).toNat : Int) = i.val) :
    ∀ n : Nat, n < 18446744073709551616 → rd b ((digs b n).map f) 0 = ((n : Int), 0) := by
  intro n
  induction n using Nat.strongRecOn with
  | _ n ih =>
    intro hn
    by_cases h : n < b
    · rw [digs_lt h]
      have h1 := hf ⟨n, by omega⟩
      have h2 := rd_one (b := b) (n := 0) (c := f (dg n)) (by simp) (by rw [h1]; simp; omega)
      rw [h1] at h2
      simpa using h2
    · rw [digs_ge hb h, List.map_append]
      have hlt : n / b < n := Nat.div_lt_self (by omega) (by omega)
      have h3 := ih (n / b) hlt (by omega)
      have hm : n % b < b := Nat.mod_lt _ (by omega)
      have h1 := hf ⟨n % b, by omega⟩
      have hq : ((n / b : Nat) : Int) * (b : Int) + ((n % b : Nat) : Int) = (n : Int) := by
        have := Nat.div_add_mod n b
        rw [Nat.mul_comm] at this
        exact_mod_cast this
      have h2 := rd_one (b := b) (n := ((n / b : Nat) : Int)) (c := f (dg (n % b))) (Int.mul_nonneg (Int.natCast_nonneg _) (Int.natCast_nonneg _)) (by rw [h1]; simp only; rw [hq]; omega)
      rw [h1] at h2
      simp only at h2
      rw [hq] at h2
      rw [rd_append _ _ _ _ (by rw [h3]), h3]
      exact h2
theorem all_digs {b : Nat} (hb : 2 ≤ b) (hb' : b ≤ 16) (f : UInt8 → UInt8) (hf : ∀ i : Fin 16, digV ((f (dg i.val)).toNat : Int) = i.val) :
    ∀ n : Nat, allD b ((digs b n).map f) = true := by
  intro n
  induction n using Nat.strongRecOn with
  | _ n ih =>
    by_cases h : n < b
    · rw [digs_lt h]
      have h1 := hf ⟨n, by omega⟩
      simp only at h1
      simp [allD, h1]; omega
    · rw [digs_ge hb h, List.map_append]
      have hlt : n / b < n := Nat.div_lt_self (by omega) (by omega)
      have h3 := ih (n / b) hlt
      have hm : n % b < b := Nat.mod_lt _ (by omega)
      have h1 := hf ⟨n % b, by omega⟩
      simp only at h1
      unfold allD at h3 ⊢
      rw [List.all_append, h3]
      simp [h1]; omega
theorem num_map {b : Nat} (hb : 2 ≤ b) (hb' : b ≤ 16) (f : UInt8 → UInt8) (hf : ∀ i : Fin 16, digV ((f (dg i.val)).toNat : Int) = i.val) (n : Nat) (hn : n < 18446744073709551616) :
    numN b ((digs b n).map f) = n ∧ numE b ((digs b n).map f) = 0 := by
  have h1 := all_digs hb hb' f hf n
  have h2 := rd_digs hb hb' f hf n hn
  have h3 : ¬ ((digs b n).map f = [] ∨ allD b ((digs b n).map f) = false) := by
    rw [h1]
    have := digs_ne b n
    simpa using this
  unfold numN numE
  rw [if_neg h3, if_neg h3, h2]
  exact ⟨rfl, rfl⟩
theorem num_digs {b : Nat} (hb : 2 ≤ b) (hb' : b ≤ 16) (n : Nat) (hn : n < 18446744073709551616) : numN b (digs b n) = n ∧ numE b (digs b n) = 0 := by
  have := num_map hb hb' id (fun i => dg_val i) n hn
  rwa [List.map_id] at this
theorem digs_head {b : Nat} (hb : 2 ≤ b) (hb' : b ≤ 16) : ∀ n : Nat, 1 ≤ n → (digs b n).head? ≠ some 48 := by
  intro n
  induction n using Nat.strongRecOn with
  | _ n ih =>
    intro h1
    by_cases h : n < b
    · rw [digs_lt h]
      have : ∀ i : Fin 16, 1 ≤ i.val → dg i.val ≠ 48 := by decide +kernel
      intro e
      exact this ⟨n, by omega⟩ h1 (by simpa using e)
    · rw [digs_ge hb h]
      have hlt : n / b < n := Nat.div_lt_self (by omega) (by omega)
      have hp : 1 ≤ n / b := (Nat.le_div_iff_mul_le (by omega)).2 (by omega)
      have h3 := ih (n / b) hlt hp
      have h4 := digs_ne b (n / b)
      cases hd : digs b (n / b) with
      | nil => exact absurd hd h4
      | cons c l => rw [hd] at h3; exact h3
theorem par_digs (n : Nat) (hn : n < 18446744073709551616) : parN (digs 10 n) = n ∧ parE (digs 10 n) = 0 := by
  have h := num_digs (b := 10) (by omega) (by omega) n hn
  have h2 : ¬ (1 < (digs 10 n).length ∧ (digs 10 n).head? = some 48) := by
    rintro ⟨h1, h2⟩
    by_cases h0 : 1 ≤ n
    · exact digs_head (b := 10) (by omega) (by omega) n h0 h2
    · rw [digs_lt (by omega)] at h1
      simp at h1
  unfold parN parE
  rw [if_neg h2, if_neg h2]
  exact h
theorem rd_noughts (b : Int) (l : List UInt8) : ∀ k, rd b (List.replicate k 48 ++ l) 0 = rd b l 0
  | 0 => rfl
  | k + 1 => by
    have e1 : mulE 0 b = 0 := by unfold mulE; rw [if_pos (by omega)]
    have e2 : mulN 0 b = 0 := by unfold mulN; rw [if_pos (by omega)]; omega
    have e5 : digV (((48 : UInt8).toNat : Nat) : Int) = 0 := by decide
    have e3 : addE 0 0 = 0 := by decide
    have e4 : addN 0 0 = 0 := by decide
    rw [List.replicate_succ, List.cons_append]
    show (if mulE 0 b ≠ 0 then _ else _) = _
    rw [if_neg (by rw [e1]; decide), e2, e5, if_neg (by rw [e3]; decide), e4]
    exact rd_noughts b l k
theorem num_noughts (l : List UInt8) (k : Nat) (h0 : l ≠ []) (ha : allD 10 l = true) : numN 10 (List.replicate k 48 ++ l) = numN 10 l ∧ numE 10 (List.replicate k 48 ++ l) = numE 10 l := by
  have h1 : allD 10 (List.replicate k 48 ++ l) = true := by
    unfold allD at ha ⊢
    rw [List.all_append, ha, Bool.and_true, List.all_eq_true]
    intro c hc
    have := List.eq_of_mem_replicate hc
    subst this
    decide
  have h2 : ¬ (List.replicate k 48 ++ l = [] ∨ allD 10 (List.replicate k 48 ++ l) = false) := by
    rw [h1]; simp [h0]
  have h3 : ¬ (l = [] ∨ allD 10 l = false) := by rw [ha]; simp [h0]
  unfold numN numE
  rw [if_neg h2, if_neg h2, if_neg h3, if_neg h3, rd_noughts]
  exact ⟨rfl, rfl⟩
theorem digs_noughts (n k : Nat) (hn : n < 18446744073709551616) : numN 10 (List.replicate k 48 ++ digs 10 n) = n ∧ numE 10 (List.replicate k 48 ++ digs 10 n) = 0 := by
  have h := num_noughts (digs 10 n) k (digs_ne 10 n) (by have := all_digs (b := 10) (by omega) (by omega) id (fun i => dg_val i) n; rwa [List.map_id] at this)
  have h2 := num_digs (b := 10) (by omega) (by omega) n hn
  rw [h.1, h.2]
  exact h2
theorem digs_length_le {b : Nat} (hb : 2 ≤ b) : ∀ (k n : Nat), n < b ^ k → 1 ≤ k → (digs b n).length ≤ k
  | 0, n, _, h => absurd h (by omega)
  | k + 1, n, h, _ => by
    by_cases hl : n < b
    · rw [digs_lt hl]; simp
    · rw [digs_ge hb hl, List.length_append]
      have h1 : n / b < b ^ k := by rw [Nat.div_lt_iff_lt_mul (by omega)]; rwa [← Nat.pow_succ]
      have hk : 1 ≤ k := by
        cases k with
        | zero => exact absurd h (by simpa using hl)
        | succ k => omega
      have := digs_length_le hb k (n / b) h1 hk
      simp; omega
end Dp
end Go.Proofs.YthfdnlcalefjeaaDoor

/- The reference's texts of a number are its digits. -/
namespace Go.Proofs.YthfdnlcalefjeaaDoor
set_option linter.unusedVariables false
set_option linter.unusedSimpArgs false
open Go.RowKit
set_option maxHeartbeats 1000000
theorem hex_slice (r : Nat) (h : r < 16) (w : World) : (Instr.slice 9 (.string ⟨#[48, 49, 50, 51, 52, 53, 54, 55, 56, 57, 97, 98, 99, 100, 101, 102]⟩) (some (.int .u64 (r : Int))) (some (.int .u64 ((r : Int) + 1))) none).run Tryd.prog w = .ok (.string ⟨#[Dp.dg r]⟩) w :=
  match r, h with
  | 0, _ => by kernel_rfl
  | 1, _ => by kernel_rfl
  | 2, _ => by kernel_rfl
  | 3, _ => by kernel_rfl
  | 4, _ => by kernel_rfl
  | 5, _ => by kernel_rfl
  | 6, _ => by kernel_rfl
  | 7, _ => by kernel_rfl
  | 8, _ => by kernel_rfl
  | 9, _ => by kernel_rfl
  | 10, _ => by kernel_rfl
  | 11, _ => by kernel_rfl
  | 12, _ => by kernel_rfl
  | 13, _ => by kernel_rfl
  | 14, _ => by kernel_rfl
  | 15, _ => by kernel_rfl
  | n + 16, h => absurd h (by omega)
theorem cons_bytes (c : UInt8) (l : List UInt8) : ((⟨#[c]⟩ : ByteArray) ++ ⟨l.toArray⟩) = ⟨(c :: l).toArray⟩ := by
  apply ByteArray.ext
  rw [ByteArray.data_append]
  simp
set_option maxRecDepth 100000 in
theorem ref_told10 (u : Nat) (hu : u < 18446744073709551616) (w : World) :
    Calls Tryd.prog 36 #[.int .u64 (u : Int), .int .u64 10] w fun e w' => e = .returned (.string ⟨(Dp.digs 10 u).toArray⟩) ∧ w = w' := by
  have HS := Lib.hid (fun r (h : r < 16) => hex_slice r h w)
  go_enter Tryd.func36, Tryd.ntmps36
  go_wp2_with fail
  go_loop [0, 5] (fun n s => ∃ (m : Nat) (l : List UInt8), n = .int .u64 m ∧ s = .string ⟨l.toArray⟩ ∧ m < 18446744073709551616 ∧ Hid (Dp.digs 10 u = Dp.digs 10 m ++ l)) (fun n _ => (intOf n).toNat)
  case atStart => exact ⟨u, [], rfl, rfl, hu, Lib.hid (by rw [List.append_nil])⟩
  case round =>
    obtain ⟨m, l, rfl, rfl, hm, HD⟩ := hrel
    have hl : l.length ≤ 20 := by
      have h1 := congrArg List.length HD.out
      have h2 := Dp.digs_length_le (b := 10) (by omega) 20 u (by omega) (by omega)
      rw [List.length_append] at h1
      omega
    obtain ⟨r, hr⟩ : ∃ r : Nat, m % 10 = r := ⟨_, rfl⟩
    obtain ⟨q, hq⟩ : ∃ r : Nat, m / 10 = r := ⟨_, rfl⟩
    have er : (m : Int) % 10 = (r : Int) := by rw [← hr]; rfl
    have eq : (m : Int) / 10 = (q : Int) := by rw [← hq]; rfl
    have hr16 : r < 16 := by omega
    have hs := HS.out r hr16
    have HR := Lib.hid hr
    have HQ := Lib.hid hq
    have HQM := Lib.hid (show q ≤ m by rw [← hq]; exact Nat.div_le_self _ _)
    clear hr hq
    obtain ⟨y, hy⟩ : ∃ y : ByteArray, (⟨#[Dp.dg r]⟩ : ByteArray) ++ ⟨l.toArray⟩ = y := ⟨_, rfl⟩
    have HY := Lib.hid hy
    by_cases h0 : q = 0
    · subst h0
      go_wp2
      go_ret
      have h1 := HQ.out
      have h2 := HR.out
      refine ⟨ret_str ?_, rfl⟩
      rw [HD.out, ← HY.out, cons_bytes, Dp.digs_lt (by omega), show m = r by omega]
      rfl
    · go_wp2
      go_round
      case rel =>
        have h1 := HQ.out
        refine ⟨q, Dp.dg r :: l, rfl, by rw [← HY.out, cons_bytes], by have := HQM.out; omega, Lib.hid ?_⟩
        rw [HD.out, Dp.digs_ge (by omega) (by omega), HR.out, HQ.out, List.append_assoc]
        rfl
      case measure => have h1 := HQ.out; simp [intOf]; omega
set_option maxRecDepth 100000 in
theorem ref_told16 (u : Nat) (hu : u < 18446744073709551616) (w : World) :
    Calls Tryd.prog 36 #[.int .u64 (u : Int), .int .u64 16] w fun e w' => e = .returned (.string ⟨(Dp.digs 16 u).toArray⟩) ∧ w = w' := by
  have HS := Lib.hid (fun r (h : r < 16) => hex_slice r h w)
  go_enter Tryd.func36, Tryd.ntmps36
  go_wp2_with fail
  go_loop [0, 5] (fun n s => ∃ (m : Nat) (l : List UInt8), n = .int .u64 m ∧ s = .string ⟨l.toArray⟩ ∧ m < 18446744073709551616 ∧ Hid (Dp.digs 16 u = Dp.digs 16 m ++ l)) (fun n _ => (intOf n).toNat)
  case atStart => exact ⟨u, [], rfl, rfl, hu, Lib.hid (by rw [List.append_nil])⟩
  case round =>
    obtain ⟨m, l, rfl, rfl, hm, HD⟩ := hrel
    have hl : l.length ≤ 20 := by
      have h1 := congrArg List.length HD.out
      have h2 := Dp.digs_length_le (b := 16) (by omega) 16 u (by omega) (by omega)
      rw [List.length_append] at h1
      omega
    obtain ⟨r, hr⟩ : ∃ r : Nat, m % 16 = r := ⟨_, rfl⟩
    obtain ⟨q, hq⟩ : ∃ r : Nat, m / 16 = r := ⟨_, rfl⟩
    have er : (m : Int) % 16 = (r : Int) := by rw [← hr]; rfl
    have eq : (m : Int) / 16 = (q : Int) := by rw [← hq]; rfl
    have hr16 : r < 16 := by omega
    have hs := HS.out r hr16
    have HR := Lib.hid hr
    have HQ := Lib.hid hq
    have HQM := Lib.hid (show q ≤ m by rw [← hq]; exact Nat.div_le_self _ _)
    clear hr hq
    obtain ⟨y, hy⟩ : ∃ y : ByteArray, (⟨#[Dp.dg r]⟩ : ByteArray) ++ ⟨l.toArray⟩ = y := ⟨_, rfl⟩
    have HY := Lib.hid hy
    by_cases h0 : q = 0
    · subst h0
      go_wp2
      go_ret
      have h1 := HQ.out
      have h2 := HR.out
      refine ⟨ret_str ?_, rfl⟩
      rw [HD.out, ← HY.out, cons_bytes, Dp.digs_lt (by omega), show m = r by omega]
      rfl
    · go_wp2
      go_round
      case rel =>
        have h1 := HQ.out
        refine ⟨q, Dp.dg r :: l, rfl, by rw [← HY.out, cons_bytes], by have := HQM.out; omega, Lib.hid ?_⟩
        rw [HD.out, Dp.digs_ge (by omega) (by omega), HR.out, HQ.out, List.append_assoc]
        rfl
      case measure => have h1 := HQ.out; simp [intOf]; omega
theorem ref_text (u : Nat) (hu : u < 18446744073709551616) (w : World) :
    Calls Tryd.prog 21 #[.int .u64 (u : Int)] w fun e w' => e = .returned (.string ⟨(Dp.digs 10 u).toArray⟩) ∧ w = w' := by
  have K := Lib.hid (ref_told10 u hu w)
  clear hu
  go_enter Tryd.func21, Tryd.ntmps21
  go_wp2_with fail
  refine K.out.mono ?_
  rintro e w' ⟨rfl, rfl⟩
  go_wp2
  go_ret
  exact ⟨rfl, rfl⟩
end Go.Proofs.YthfdnlcalefjeaaDoor
