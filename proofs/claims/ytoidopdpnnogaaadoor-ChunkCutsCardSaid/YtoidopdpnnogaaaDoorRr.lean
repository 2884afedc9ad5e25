/- A region that draws its order, within a round of a range over a function: the plain laws lifted, and the call of yield behind operations in whatever order. No condition but those that each lemma states. -/
import Derived.OrdersIn
import Derived.TacticsIn
import Derived.Lib.QuietBelow
import Derived.Test.YtoidopdpnnogaaaDoorRf
import Derived.Test.YtoidopdpnnogaaaDoorCkE
namespace Go.Proofs.YtoidopdpnnogaaaDoor
set_option linter.unusedVariables false
set_option linter.unusedSimpArgs false
open Go.RowKit
set_option maxHeartbeats 2000000
def noDefer (ops : Array Oper) : Bool := ops.all fun o => match o.op with
  | .defer _ => false
  | _ => true
theorem noDefer_at {ops : Array Oper} (h : noDefer ops = true) {i : Nat} {o : Oper} (ho : ops[i]? = some o) : ∀ c, o.op ≠ .defer c := by
  intro c hc
  have h1 := (Array.all_eq_true_iff_forall_mem.1 h) o (Array.mem_of_getElem? ho)
  rw [hc] at h1
  cases h1
/-- an operation of a round, out of the plain one -/
theorem opR {P : Program} {l n : Nat} {o : Oper} {a : Act} {w : World} {K : Act → World → Prop} {Q : Exit → Act → World → Prop} (hd : ∀ c, o.op ≠ .defer c) (h : o.wp P a w K Q) :
    o.wpIn (Fence.wide.inRound l) n P a w K Q := by
  refine ⟨fun _ _ => trivial, ?_⟩
  rw [Fence.inRound_round, Oper.semAt_some l _ _ hd]
  unfold Oper.wp at h
  generalize (execOp a.eval o).run P w = r at h ⊢
  cases r with
  | ok x w' =>
    cases x <;> simp only [Oper.upon, Oper.uponIn] at h ⊢ <;>
      first
        | exact h
        | exact ⟨(fun e => by cases e), CallsIn.inRound l (callsIn_wide.2 h)⟩
        | exact ⟨(fun e => by cases e), fun c cs _ => let ⟨v, w', r, s⟩ := h c cs; ⟨v, w', r, stepsIn_wide.2 s⟩⟩
  | halt x w' => cases x <;> simp only [Oper.upon, Oper.uponIn] at h ⊢ <;> exact h
section
variable {P : Program} {ops : Array Oper} {Q' : Exit → Act → World → Prop} {md : Region.Mode} {C : World → Prop} {l n : Nat}
theorem wpOpR_of_qOp {i : Nat} {a : Act} {K : Act → Prop} {K' : Act → World → Prop} {w : World} (hd : noDefer ops = true) (hC : C w) (h : ∀ a w', C w' → K a → K' a w') (hh : qOp P ops C i K a) : wpOpIn (Fence.wide.inRound l) n P ops Q' i K' a w := by
  unfold qOp at hh
  unfold wpOpIn
  split
  · rename_i ho; simp only [ho] at hh; exact h _ _ hC hh
  · rename_i o ho
    simp only [ho] at hh
    split
    · rename_i hw; simp only [hw, if_true] at hh; exact opR (noDefer_at hd ho) (Oper.wp_of_quiet hC h hh)
    · rename_i hw; simp only [hw] at hh; exact ⟨fun _ _ => trivial, h _ _ hC hh⟩
theorem wpAnyR_of_quiet {Q : Act → Prop} (hd : noDefer ops = true) (hQ : ∀ a w, C w → Q a → Q' .normal a w) : ∀ (fuel : Nat) (listed : Array Bool) (a : Act) (w : World), C w →
    wpAnyQ P md ops C Q fuel listed a → wpAnyIn (Fence.wide.inRound l) n P md ops Q' fuel listed a w
  | 0, _, _, _, hw, h => ⟨h.1, hQ _ _ hw h.2⟩
  | fuel + 1, _, _, _, hw, h => ⟨fun h0 => hQ _ _ hw (h.1 h0), fun i hi => wpOpR_of_qOp hd hw (fun a' w' hw' => wpAnyR_of_quiet hd hQ fuel _ a' w' hw') (h.2 i hi)⟩
theorem wpR_region_quiet {id : Nat} {Q : Exit → Act → World → Prop} {a : Act} {w : World} (hm : P.follows .mixedOrders = true) (hd : noDefer ops = true) (hB : Region.lexB .any ops = true) (hC : C { w with drawn := w.drawn + 1 })
    (h : wpQuiet P ops C (fun a' => ∀ w', C w' → Q .normal a' w') ops.toList a) : (Code.region id ops true).wpIn (Fence.wide.inRound l) n P Q a w := by
  simp only [Region.lexB, Bool.and_eq_true] at hB
  refine wpIn_region_any hm (wpAnyR_of_quiet (Q := fun a' => ∀ w', C w' → Q .normal a' w') hd (fun _ w' hw' h => h w' hw') _ _ _ _ hC ?_)
  have := wpAnyQ_lex (C := C) (md := .any) hB.1 ops.toList 0 (Array.replicate ops.size false) a (by simp) (by simpa using hB.2) h
  simpa using this
/-- callees that make memory behind what there is -/
theorem wpR_region_below {id : Nat} {Q : Exit → Act → World → Prop} {a : Act} {w : World} {ls : List Oper} (hm : P.follows .mixedOrders = true) (hd : noDefer ls.toArray = true) (hB : Region.lexB .any ls.toArray = true)
    (h : wpQuiet P ls.toArray (fun w' => ∃ p : Regrown, w' = Go.Sort.grow (redrawn w p.d) p.os) (fun a' => ∀ w', (∃ p : Regrown, w' = Go.Sort.grow (redrawn w p.d) p.os) → Q .normal a' w') ls a) : (Code.region id ls.toArray true).wpIn (Fence.wide.inRound l) n P Q a w :=
  wpR_region_quiet (C := fun w' => ∃ p : Regrown, w' = Go.Sort.grow (redrawn w p.d) p.os) hm hd hB ⟨⟨w.drawn + 1, #[]⟩, by rw [Go.Sort.grow_empty]; rfl⟩ (by simpa using h)
end
section
variable {P : Program} {ops : Array Oper} {Q : Exit → Act → World → Prop} {md : Region.Mode} {F : Fence} {n : Nat}
theorem wpAnyIn_inv (hb : backB md ops = true) (Inv : (Nat → Bool) → Act → World → Prop)
    (hstep : ∀ (f : Nat → Bool) (a : Act) (w : World) (i : Nat) (o : Oper), ops[i]? = some o → f i = false → (∀ e ∈ o.after, Region.binds md e = true → f e.on = true) → Inv f a w →
      o.wpIn F n P a w (Inv (fun j => if j = i then true else f j)) Q)
    (hdone : ∀ (f : Nat → Bool) (a : Act) (w : World), (∀ i, i < ops.size → f i = true) → Inv f a w → Q .normal a w) :
    ∀ (fuel : Nat) (listed : Array Bool) (a : Act) (w : World), listed.size = ops.size → listed.toList.count false ≤ fuel → Inv (fun i => listed.getD i false) a w → wpAnyIn F n P md ops Q fuel listed a w := by
  intro fuel
  induction fuel with
  | zero =>
    intro listed a w hs hc hI
    have hr : Region.ready md ops listed = [] := by
      cases hr : Region.ready md ops listed with
      | nil => rfl
      | cons i r =>
        obtain ⟨o, ho, hl, hi, _⟩ := ready_mem (md := md) hs (i := i) (by rw [hr]; exact List.mem_cons_self)
        have h1 : false ∈ listed.toList := by
          simp only [Array.getD, hi, dite_true] at hl
          have h2 : listed[i] ∈ listed.toList := Array.mem_toList_iff.2 (Array.getElem_mem hi)
          have h3 : listed[i] = false := hl
          rwa [h3] at h2
        have := List.count_pos_iff.2 h1
        omega
    exact ⟨hr, hdone _ a w (ready_all hb hs hr) hI⟩
  | succ fuel ih =>
    intro listed a w hs hc hI
    refine ⟨fun hr => hdone _ a w (ready_all hb hs hr) hI, fun i hi => ?_⟩
    obtain ⟨o, ho, hl, hil, hpre⟩ := ready_mem hs hi
    have hg := (back_of hb ho).1
    have h1 := hstep _ a w i o ho hl hpre hI
    unfold wpOpIn
    simp only [ho]
    rw [if_pos (by simp [Region.wanted, hg])]
    refine Oper.wpIn_mono (fun a' w' hI' => ?_) h1
    refine ih _ a' w' (by simp [hs]) ?_ ?_
    · have h3 : listed.toList[i]'(by simpa using hil) = false := by
        simp only [Array.getD, hil, dite_true] at hl
        simpa using hl
      rw [Array.toList_setIfInBounds, List.count_set (h := by simpa using hil), h3]
      have h4 : 0 < listed.toList.count false := List.count_pos_iff.2 (by rw [← h3]; exact List.getElem_mem _)
      rw [if_pos (by rfl), if_neg (by decide)]
      omega
    · refine cast (congrArg (fun g => Inv g a' w') (funext fun j => ?_)) hI'
      by_cases hj : j = i
      · subst hj
        simp [Array.getD, hil]
      · rw [if_neg hj]
        simp only [Array.getD, Array.size_setIfInBounds]
        by_cases hjl : j < listed.size
        · simp [hjl, Array.getElem_setIfInBounds, Ne.symm hj]
        · simp [hjl]
theorem region_inv_in {id : Nat} {a : Act} {w : World} (hm : P.follows .mixedOrders = true) (hb : backB .any ops = true) (Inv : (Nat → Bool) → Act → World → Prop) (h0 : Inv (fun _ => false) a w.drew)
    (hstep : ∀ (f : Nat → Bool) (a : Act) (w : World) (i : Nat) (o : Oper), ops[i]? = some o → f i = false → (∀ e ∈ o.after, Region.binds .any e = true → f e.on = true) → Inv f a w →
      o.wpIn F n P a w (Inv (fun j => if j = i then true else f j)) Q)
    (hdone : ∀ (f : Nat → Bool) (a : Act) (w : World), (∀ i, i < ops.size → f i = true) → Inv f a w → Q .normal a w) : (Code.region id ops true).wpIn F n P Q a w := by
  refine wpIn_region_any hm (wpAnyIn_inv hb Inv hstep hdone _ _ a _ (by simp) ?_ ?_)
  · refine Nat.le_trans List.count_le_length ?_
    simp
  · refine cast (congrArg (fun g => Inv g a w.drew) (funext fun j => ?_)) h0
    by_cases hj : j < ops.size <;> simp [Array.getD, hj]
/-! what stands ahead of an operation, however far -/
def edgesOf (md : Region.Mode) (ops : Array Oper) (i : Nat) : List Nat := match ops[i]? with
  | some o => (o.after.toList.filter (Region.binds md)).map (·.on)
  | none => []
def ancOf (md : Region.Mode) (ops : Array Oper) : Nat → Nat → List Nat
  | 0, _ => []
  | k + 1, i => (edgesOf md ops i).flatMap fun j => j :: ancOf md ops k j
def ShutF (md : Region.Mode) (ops : Array Oper) (f : Nat → Bool) : Prop := ∀ i, f i = true → ∀ j ∈ edgesOf md ops i, f j = true
theorem anc_true {f : Nat → Bool} (hc : ShutF md ops f) : ∀ (k i : Nat), (∀ j ∈ edgesOf md ops i, f j = true) → ∀ j ∈ ancOf md ops k i, f j = true
  | 0, _, _, j, hj => by cases hj
  | k + 1, i, h, j, hj => by
    obtain ⟨x, hx, hj⟩ := List.mem_flatMap.1 hj
    rcases List.mem_cons.1 hj with rfl | hj
    · exact h _ hx
    · exact anc_true hc k x (hc x (h x hx)) j hj
theorem edges_of {f : Nat → Bool} {i : Nat} {o : Oper} (ho : ops[i]? = some o) (h : ∀ e ∈ o.after, Region.binds md e = true → f e.on = true) : ∀ j ∈ edgesOf md ops i, f j = true := by
  intro j hj
  unfold edgesOf at hj
  rw [ho] at hj
  obtain ⟨e, he, rfl⟩ := List.mem_map.1 hj
  obtain ⟨h1, h2⟩ := List.mem_filter.1 he
  exact h e (Array.mem_toList_iff.1 h1) h2
/-- the call of yield at place m, one operation behind it; ahead of it m operations in whatever order, each by what its slot holds -/
theorem region_yield {id l : Nat} {a0 : Act} {w0 : World} (m : Nat) (slot : Nat → Nat) (Fs : Nat → World → Value → Prop) (T : Act → World → Prop) (hm : P.follows .mixedOrders = true) (hb : backB .any ops = true) (hd : noDefer ops = true)
    (hsz : ops.size = m + 2) (hanc : ((List.range m).all fun j => (ancOf .any ops m m).contains j) = true) (hlast : (edgesOf .any ops (m + 1)).contains m = true)
    (hs : ∀ i, slot i < a0.tmps.size) (hinj : ∀ i j, i < m → j < m → slot i = slot j → i = j) (hF : ∀ i w w' v, Fs i w v → Below w.heap.size w w' → Fs i w' v)
    (hdst : ∀ i o, i < m → ops[i]? = some o → o.dst = some (slot i))
    (hstep : ∀ (f : Nat → Bool) (a : Act) (w : World) (i : Nat) (o : Oper), i < m → ops[i]? = some o → (∀ e ∈ o.after, Region.binds .any e = true → Fs e.on w (a.tmps.getD (slot e.on) undef)) → Below w0.heap.size w0 w →
      (∀ j, (∀ i, i < m → slot i ≠ j) → a.tmps.getD j undef = a0.tmps.getD j undef) → o.wp P a w (fun a' w' => ∃ v, a' = a.put o.dst v ∧ Fs i w' v ∧ Below w.heap.size w w') Q)
    (hyield : ∀ (vs : Nat → Value) (w : World) (o : Oper), ops[m]? = some o → Below w0.heap.size w0 w → (∀ i, i < m → Fs i w (vs i)) →
      o.wpIn (Fence.wide.inRound l) n P { a0 with tmps := fillN slot vs m a0.tmps } w T Q)
    (htail : ∀ (a : Act) (w : World) (o : Oper), ops[m + 1]? = some o → T a w → o.wpIn (Fence.wide.inRound l) n P a w (fun a' w' => Q .normal a' w') Q) :
    (Code.region id ops true).wpIn (Fence.wide.inRound l) n P Q a0 w0 := by
  refine region_inv_in hm hb (fun f a w => ShutF .any ops f ∧ (f m = false → f (m + 1) = false ∧ Stand a0 w0 m slot Fs f a w) ∧ (f m = true → f (m + 1) = false → T a w) ∧ (f (m + 1) = true → Q .normal a w))
    ⟨(fun i h => by cases h), (fun _ => ⟨rfl, rfl, rfl, (fun _ _ => rfl), ⟨rfl, rfl, rfl, Nat.le_refl _, (fun _ _ => rfl)⟩, (fun _ _ h => by cases h)⟩), (fun h => by cases h), (fun h => by cases h)⟩ ?_ ?_
  · rintro f a w i o ho hf hpre ⟨hc, h1, h2, h3⟩
    have hi := (Array.getElem?_eq_some_iff.1 ho).1
    have hee := edges_of ho hpre
    have hc' : ShutF .any ops (fun j => if j = i then true else f j) := by
      intro x hx y hy
      show (if y = i then true else f y) = true
      by_cases hyi : y = i
      · rw [if_pos hyi]
      · rw [if_neg hyi]
        by_cases hxi : x = i
        · subst hxi; exact hee y hy
        · exact hc x (by simpa [hxi] using hx) y hy
    have hpres : ∀ {g : Nat → Bool}, ShutF .any ops g → (∀ j ∈ edgesOf .any ops m, g j = true) → ∀ j, j < m → g j = true := fun hg he j hj => by
      have h4 := List.all_eq_true.1 hanc j (List.mem_range.2 hj)
      exact anc_true hg m m he j (by simpa using h4)
    by_cases him : i = m
    · subst him
      obtain ⟨h4, hI⟩ := h1 hf
      have hall := hpres hc hee
      have e : a = { a0 with tmps := fillN slot (fun j => a.tmps.getD (slot j) undef) i a0.tmps } := by
        have h5 : a.tmps = fillN slot (fun j => a.tmps.getD (slot j) undef) i a0.tmps := by
          refine ext_getD (by rw [fillN_size, hI.size]) (fun j => ?_)
          by_cases hj : ∃ k, k < i ∧ slot k = j
          · obtain ⟨k, hk, rfl⟩ := hj
            rw [fillN_at slot _ _ hs _ hinj k hk]
          · rw [fillN_get slot _ _ hs _ j (fun k hk e => hj ⟨k, hk, e⟩), hI.rest j (fun k hk e => hj ⟨k, hk, e⟩)]
        obtain ⟨t, d⟩ := a
        have h6 := hI.defers
        simp only at h5 h6
        rw [← h5, h6]
      have h7 := hyield (fun j => a.tmps.getD (slot j) undef) w o ho hI.bel (fun j hj => hI.have_ j hj (hall j hj))
      rw [← e] at h7
      refine Oper.wpIn_mono (fun a' w' hT => ⟨hc', fun h => by simp at h, fun _ _ => hT, fun h => ?_⟩) h7
      have h' : (if i + 1 = i then true else f (i + 1)) = true := h
      rw [if_neg (by omega), h4] at h'
      cases h'
    · by_cases hit : i = m + 1
      · subst hit
        have hfm : f m = true := hee m (by simpa using hlast)
        refine Oper.wpIn_mono (fun a' w' hT => ⟨hc', fun h => ?_, fun _ h => by simp at h, fun _ => hT⟩) (htail a w o ho (h2 hfm hf))
        have h' : (if m = m + 1 then true else f m) = false := h
        rw [if_neg (by omega), hfm] at h'
        cases h'
      · have hlt : i < m := by omega
        have hfm : f m = false := by
          cases hfm : f m with
          | false => rfl
          | true =>
            have := hpres hc (hc m hfm) i hlt
            rw [hf] at this
            cases this
        obtain ⟨h4, hI⟩ := h1 hfm
        refine Oper.wpIn_mono ?_ (opR (noDefer_at hd ho) (hstep f a w i o hlt ho (fun e he hbd => hI.have_ e.on (by have := (back_of hb ho).2 e he hbd; omega) (hpre e he hbd)) hI.bel hI.rest))
        rintro a' w' ⟨v, rfl, hv, hbw⟩
        rw [hdst i o hlt ho]
        have hsl : slot i < a.tmps.size := by rw [hI.size]; exact hs i
        refine ⟨hc', fun _ => ⟨by show (if m + 1 = i then true else f (m + 1)) = false; rw [if_neg (by omega)]; exact h4, hI.defers, by rw [← hI.size]; exact Array.size_setIfInBounds .., fun j hj => ?_, hI.bel.trans (hbw.mono hI.bel.size), fun j hj hfj => ?_⟩, fun h => ?_, fun h => ?_⟩
        · show (a.tmps.setIfInBounds (slot i) v).getD j undef = _
          rw [getD_set _ _ _ _ hsl, if_neg (Ne.symm (hj i hlt))]
          exact hI.rest j hj
        · show Fs j w' ((a.tmps.setIfInBounds (slot i) v).getD (slot j) undef)
          rw [getD_set _ _ _ _ hsl]
          by_cases hji : j = i
          · subst hji; rw [if_pos rfl]; exact hv
          · rw [if_neg (fun e => hji (hinj j i hj hlt e))]
            have h2 : f j = true := by simpa [hji] using hfj
            exact hF j w w' _ (hI.have_ j hj h2) hbw
        · have h' : (if m = i then true else f m) = true := h
          rw [if_neg (Ne.symm him), hfm] at h'; cases h'
        · have h' : (if m + 1 = i then true else f (m + 1)) = true := h
          rw [if_neg (Ne.symm hit), h4] at h'; cases h'
  · rintro f a w hall ⟨_, _, _, h3⟩
    exact h3 (hall (m + 1) (by omega))
/-- the call of yield within a round of the iterator's own loop -/
theorem op_yield {l l' k : Nat} {o : Oper} {a : Act} {w : World} {K : Act → World → Prop} {R : Ending → World → Prop} (t : Nat) (xs : Array Operand) (ty : Array TypeId) (args : Array Value) (ho : o.op = Op.call { callee := .value (.tmp t), args := xs, argTypes := ty })
    (ht : a.tmps.getD t undef = .func (.yield l') #[] #[]) (hx : xs.map a.eval = args) (h : YieldAt Fence.wide k P l' args w R) (hR : ∀ e w', R e w' → ∃ b, e = .returned (.bool b) ∧ K (a.put o.dst (.bool b)) w') :
    o.wpIn (Fence.wide.inRound l) n P a w K Q := by
  obtain ⟨fn, tmps, assign, body, hy, hr⟩ := h
  refine ⟨fun _ _ => trivial, ?_⟩
  rw [Fence.inRound_round, Oper.semAt_some l _ _ (fun c h => by rw [ho] at h; cases h)]
  have ht2 : a.tmps[t]?.getD undef = .func (.yield l') #[] #[] := by rw [← Array.getD_eq_getD_getElem?]; exact ht
  have e : (execOp a.eval o).run P w = .ok (.round l' fn tmps assign body) w := by
    unfold execOp
    simp [ho, resolve, invoke, ht2, hx, hy, go_sem]
  rw [e]
  refine ⟨(fun h => by cases h), ?_⟩
  refine RoundIn.mono (F := Fence.wide) (roundIn_any _ hr) ?_
  intro z w' hz
  obtain ⟨b, rfl, hk⟩ := hR z w' hz
  exact hk
end
end Go.Proofs.YtoidopdpnnogaaaDoor
