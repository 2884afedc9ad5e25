/- Texts of this claim, one behind the other: Rr, Ru, Rv, Rw, Rx, Rp, Sa, Sb, Sc. -/
import Derived.OrdersIn
import Derived.TacticsIn
import Derived.Lib.QuietBelow
import Derived.Test.YtbaakfcbakpmpaaGreatDoorUim2
import Derived.Test.YtbaakfcbakpmpaaGreatDoorUim1
import Derived.Defers
import Derived.Recover
import Derived.BigCall
import Derived.Deep.Cut
/- A region that draws its order, within a round of a range over a function: the plain laws lifted, and the call of yield behind operations in whatever order. No condition but those that each lemma states. -/
namespace Go.Proofs.YtbaakfcbakpmpaaGreatDoor
set_option linter.unusedVariables false
set_option linter.unusedSimpArgs false
open Go.RowKit
set_option maxHeartbeats 2000000
def noDefer (ops : Array Oper) : Bool := ops.all fun o => match o.op with
  | .defer _ => false
  | _ => true
theorem noDefer_at {ops : Array Oper} (h : noDefer ops = true) {i : Nat} {o : Oper} (ho : ops[i]? = some o) : ∀ c, o.op ≠ .defer c := by
  intro c hc
  have h1 := (Array.all_eq_true_iff_forall_mem.1 h) o (Array.mem_of_getElem? ho)
  rw [hc] at h1
  cases h1
/-- an operation of a round, out of the plain one -/
theorem opR {P : Program} {l n : Nat} {o : Oper} {a : Act} {w : World} {K : Act → World → Prop} {Q : Exit → Act → World → Prop} (hd : ∀ c, o.op ≠ .defer c) (h : o.wp P a w K Q) :
    o.wpIn (Fence.wide.inRound l) n P a w K Q := by
  refine ⟨fun _ _ => trivial, ?_⟩
  rw [Fence.inRound_round, Oper.semAt_some l _ _ hd]
  unfold Oper.wp at h
  generalize (execOp a.eval o).run P w = r at h ⊢
  cases r with
  | ok x w' =>
    cases x <;> simp only [Oper.upon, Oper.uponIn] at h ⊢ <;>
      first
        | exact h
        | exact ⟨(fun e => by cases e), CallsIn.inRound l (callsIn_wide.2 h)⟩
        | exact ⟨(fun e => by cases e), fun c cs _ => let ⟨v, w', r, s⟩ := h c cs; ⟨v, w', r, stepsIn_wide.2 s⟩⟩
  | halt x w' => cases x <;> simp only [Oper.upon, Oper.uponIn] at h ⊢ <;> exact h
section
variable {P : Program} {ops : Array Oper} {Q' : Exit → Act → World → Prop} {md : Region.Mode} {C : World → Prop} {l n : Nat}
theorem wpOpR_of_qOp {i : Nat} {a : Act} {K : Act → Prop} {K' : Act → World → Prop} {w : World} (hd : noDefer ops = true) (hC : C w) (h : ∀ a w', C w' → K a → K' a w') (hh : qOp P ops C i K a) : wpOpIn (Fence.wide.inRound l) n P ops Q' i K' a w := by
  unfold qOp at hh
  unfold wpOpIn
  split
  · rename_i ho; simp only [ho] at hh; exact h _ _ hC hh
  · rename_i o ho
    simp only [ho] at hh
    split
    · rename_i hw; simp only [hw, if_true] at hh; exact opR (noDefer_at hd ho) (Oper.wp_of_quiet hC h hh)
    · rename_i hw; simp only [hw] at hh; exact ⟨fun _ _ => trivial, h _ _ hC hh⟩
theorem wpAnyR_of_quiet {Q : Act → Prop} (hd : noDefer ops = true) (hQ : ∀ a w, C w → Q a → Q' .normal a w) : ∀ (fuel : Nat) (listed : Array Bool) (a : Act) (w : World), C w →
    wpAnyQ P md ops C Q fuel listed a → wpAnyIn (Fence.wide.inRound l) n P md ops Q' fuel listed a w
  | 0, _, _, _, hw, h => ⟨h.1, hQ _ _ hw h.2⟩
  | fuel + 1, _, _, _, hw, h => ⟨fun h0 => hQ _ _ hw (h.1 h0), fun i hi => wpOpR_of_qOp hd hw (fun a' w' hw' => wpAnyR_of_quiet hd hQ fuel _ a' w' hw') (h.2 i hi)⟩
theorem wpR_region_quiet {id : Nat} {Q : Exit → Act → World → Prop} {a : Act} {w : World} (hm : P.follows .mixedOrders = true) (hd : noDefer ops = true) (hB : Region.lexB .any ops = true) (hC : C { w with drawn := w.drawn + 1 })
    (h : wpQuiet P ops C (fun a' => ∀ w', C w' → Q .normal a' w') ops.toList a) : (Code.region id ops true).wpIn (Fence.wide.inRound l) n P Q a w := by
  simp only [Region.lexB, Bool.and_eq_true] at hB
  refine wpIn_region_any hm (wpAnyR_of_quiet (Q := fun a' => ∀ w', C w' → Q .normal a' w') hd (fun _ w' hw' h => h w' hw') _ _ _ _ hC ?_)
  have := wpAnyQ_lex (C := C) (md := .any) hB.1 ops.toList 0 (Array.replicate ops.size false) a (by simp) (by simpa using hB.2) h
  simpa using this
/-- callees that make memory behind what there is -/
theorem wpR_region_below {id : Nat} {Q : Exit → Act → World → Prop} {a : Act} {w : World} {ls : List Oper} (hm : P.follows .mixedOrders = true) (hd : noDefer ls.toArray = true) (hB : Region.lexB .any ls.toArray = true)
    (h : wpQuiet P ls.toArray (fun w' => ∃ p : Regrown, w' = Go.Sort.grow (redrawn w p.d) p.os) (fun a' => ∀ w', (∃ p : Regrown, w' = Go.Sort.grow (redrawn w p.d) p.os) → Q .normal a' w') ls a) : (Code.region id ls.toArray true).wpIn (Fence.wide.inRound l) n P Q a w :=
  wpR_region_quiet (C := fun w' => ∃ p : Regrown, w' = Go.Sort.grow (redrawn w p.d) p.os) hm hd hB ⟨⟨w.drawn + 1, #[]⟩, by rw [Go.Sort.grow_empty]; rfl⟩ (by simpa using h)
end
section
variable {P : Program} {ops : Array Oper} {Q : Exit → Act → World → Prop} {md : Region.Mode} {F : Fence} {n : Nat}
theorem wpAnyIn_inv (hb : backB md ops = true) (Inv : (Nat → Bool) → Act → World → Prop)
    (hstep : ∀ (f : Nat → Bool) (a : Act) (w : World) (i : Nat) (o : Oper), ops[i]? = some o → f i = false → (∀ e ∈ o.after, Region.binds md e = true → f e.on = true) → Inv f a w →
      o.wpIn F n P a w (Inv (fun j => if j = i then true else f j)) Q)
    (hdone : ∀ (f : Nat → Bool) (a : Act) (w : World), (∀ i, i < ops.size → f i = true) → Inv f a w → Q .normal a w) :
    ∀ (fuel : Nat) (listed : Array Bool) (a : Act) (w : World), listed.size = ops.size → listed.toList.count false ≤ fuel → Inv (fun i => listed.getD i false) a w → wpAnyIn F n P md ops Q fuel listed a w := by
  intro fuel
  induction fuel with
  | zero =>
    intro listed a w hs hc hI
    have hr : Region.ready md ops listed = [] := by
      cases hr : Region.ready md ops listed with
      | nil => rfl
      | cons i r =>
        obtain ⟨o, ho, hl, hi, _⟩ := ready_mem (md := md) hs (i := i) (by rw [hr]; exact List.mem_cons_self)
        have h1 : false ∈ listed.toList := by
          simp only [Array.getD, hi, dite_true] at hl
          have h2 : listed[i] ∈ listed.toList := Array.mem_toList_iff.2 (Array.getElem_mem hi)
          have h3 : listed[i] = false := hl
          rwa [h3] at h2
        have := List.count_pos_iff.2 h1
        omega
    exact ⟨hr, hdone _ a w (ready_all hb hs hr) hI⟩
  | succ fuel ih =>
    intro listed a w hs hc hI
    refine ⟨fun hr => hdone _ a w (ready_all hb hs hr) hI, fun i hi => ?_⟩
    obtain ⟨o, ho, hl, hil, hpre⟩ := ready_mem hs hi
    have hg := (back_of hb ho).1
    have h1 := hstep _ a w i o ho hl hpre hI
    unfold wpOpIn
    simp only [ho]
    rw [if_pos (by simp [Region.wanted, hg])]
    refine Oper.wpIn_mono (fun a' w' hI' => ?_) h1
    refine ih _ a' w' (by simp [hs]) ?_ ?_
    · have h3 : listed.toList[i]'(by simpa using hil) = false := by
        simp only [Array.getD, hil, dite_true] at hl
        simpa using hl
      rw [Array.toList_setIfInBounds, List.count_set (h := by simpa using hil), h3]
      have h4 : 0 < listed.toList.count false := List.count_pos_iff.2 (by rw [← h3]; exact List.getElem_mem _)
      rw [if_pos (by rfl), if_neg (by decide)]
      omega
    · refine cast (congrArg (fun g => Inv g a' w') (funext fun j => ?_)) hI'
      by_cases hj : j = i
      · subst hj
        simp [Array.getD, hil]
      · rw [if_neg hj]
        simp only [Array.getD, Array.size_setIfInBounds]
        by_cases hjl : j < listed.size
        · simp [hjl, Array.getElem_setIfInBounds, Ne.symm hj]
        · simp [hjl]
theorem region_inv_in {id : Nat} {a : Act} {w : World} (hm : P.follows .mixedOrders = true) (hb : backB .any ops = true) (Inv : (Nat → Bool) → Act → World → Prop) (h0 : Inv (fun _ => false) a w.drew)
    (hstep : ∀ (f : Nat → Bool) (a : Act) (w : World) (i : Nat) (o : Oper), ops[i]? = some o → f i = false → (∀ e ∈ o.after, Region.binds .any e = true → f e.on = true) → Inv f a w →
      o.wpIn F n P a w (Inv (fun j => if j = i then true else f j)) Q)
    (hdone : ∀ (f : Nat → Bool) (a : Act) (w : World), (∀ i, i < ops.size → f i = true) → Inv f a w → Q .normal a w) : (Code.region id ops true).wpIn F n P Q a w := by
  refine wpIn_region_any hm (wpAnyIn_inv hb Inv hstep hdone _ _ a _ (by simp) ?_ ?_)
  · refine Nat.le_trans List.count_le_length ?_
    simp
  · refine cast (congrArg (fun g => Inv g a w.drew) (funext fun j => ?_)) h0
    by_cases hj : j < ops.size <;> simp [Array.getD, hj]
/-! what stands ahead of an operation, however far -/
def edgesOf (md : Region.Mode) (ops : Array Oper) (i : Nat) : List Nat := match ops[i]? with
  | some o => (o.after.toList.filter (Region.binds md)).map (·.on)
  | none => []
def ancOf (md : Region.Mode) (ops : Array Oper) : Nat → Nat → List Nat
  | 0, _ => []
  | k + 1, i => (edgesOf md ops i).flatMap fun j => j :: ancOf md ops k j
def ShutF (md : Region.Mode) (ops : Array Oper) (f : Nat → Bool) : Prop := ∀ i, f i = true → ∀ j ∈ edgesOf md ops i, f j = true
theorem anc_true {f : Nat → Bool} (hc : ShutF md ops f) : ∀ (k i : Nat), (∀ j ∈ edgesOf md ops i, f j = true) → ∀ j ∈ ancOf md ops k i, f j = true
  | 0, _, _, j, hj => by cases hj
  | k + 1, i, h, j, hj => by
    obtain ⟨x, hx, hj⟩ := List.mem_flatMap.1 hj
    rcases List.mem_cons.1 hj with rfl | hj
    · exact h _ hx
    · exact anc_true hc k x (hc x (h x hx)) j hj
theorem edges_of {f : Nat → Bool} {i : Nat} {o : Oper} (ho : ops[i]? = some o) (h : ∀ e ∈ o.after, Region.binds md e = true → f e.on = true) : ∀ j ∈ edgesOf md ops i, f j = true := by
  intro j hj
  unfold edgesOf at hj
  rw [ho] at hj
  obtain ⟨e, he, rfl⟩ := List.mem_map.1 hj
  obtain ⟨h1, h2⟩ := List.mem_filter.1 he
  exact h e (Array.mem_toList_iff.1 h1) h2
/-- the call of yield at place m, one operation behind it; ahead of it m operations in whatever order, each by what its slot holds -/
theorem region_yield {id l : Nat} {a0 : Act} {w0 : World} (m : Nat) (slot : Nat → Nat) (Fs : Nat → World → Value → Prop) (T : Act → World → Prop) (hm : P.follows .mixedOrders = true) (hb : backB .any ops = true) (hd : noDefer ops = true)
    (hsz : ops.size = m + 2) (hanc : ((List.range m).all fun j => (ancOf .any ops m m).contains j) = true) (hlast : (edgesOf .any ops (m + 1)).contains m = true)
    (hs : ∀ i, slot i < a0.tmps.size) (hinj : ∀ i j, i < m → j < m → slot i = slot j → i = j) (hF : ∀ i w w' v, Fs i w v → Below w.heap.size w w' → Fs i w' v)
    (hdst : ∀ i o, i < m → ops[i]? = some o → o.dst = some (slot i))
    (hstep : ∀ (f : Nat → Bool) (a : Act) (w : World) (i : Nat) (o : Oper), i < m → ops[i]? = some o → (∀ e ∈ o.after, Region.binds .any e = true → Fs e.on w (a.tmps.getD (slot e.on) undef)) → Below w0.heap.size w0 w →
      (∀ j, (∀ i, i < m → slot i ≠ j) → a.tmps.getD j undef = a0.tmps.getD j undef) → o.wp P a w (fun a' w' => ∃ v, a' = a.put o.dst v ∧ Fs i w' v ∧ Below w.heap.size w w') Q)
    (hyield : ∀ (vs : Nat → Value) (w : World) (o : Oper), ops[m]? = some o → Below w0.heap.size w0 w → (∀ i, i < m → Fs i w (vs i)) →
      o.wpIn (Fence.wide.inRound l) n P { a0 with tmps := fillN slot vs m a0.tmps } w T Q)
    (htail : ∀ (a : Act) (w : World) (o : Oper), ops[m + 1]? = some o → T a w → o.wpIn (Fence.wide.inRound l) n P a w (fun a' w' => Q .normal a' w') Q) :
    (Code.region id ops true).wpIn (Fence.wide.inRound l) n P Q a0 w0 := by
  refine region_inv_in hm hb (fun f a w => ShutF .any ops f ∧ (f m = false → f (m + 1) = false ∧ Stand a0 w0 m slot Fs f a w) ∧ (f m = true → f (m + 1) = false → T a w) ∧ (f (m + 1) = true → Q .normal a w))
    ⟨(fun i h => by cases h), (fun _ => ⟨rfl, rfl, rfl, (fun _ _ => rfl), ⟨rfl, rfl, rfl, Nat.le_refl _, (fun _ _ => rfl)⟩, (fun _ _ h => by cases h)⟩), (fun h => by cases h), (fun h => by cases h)⟩ ?_ ?_
  · rintro f a w i o ho hf hpre ⟨hc, h1, h2, h3⟩
    have hi := (Array.getElem?_eq_some_iff.1 ho).1
    have hee := edges_of ho hpre
    have hc' : ShutF .any ops (fun j => if j = i then true else f j) := by
      intro x hx y hy
      show (if y = i then true else f y) = true
      by_cases hyi : y = i
      · rw [if_pos hyi]
      · rw [if_neg hyi]
        by_cases hxi : x = i
        · subst hxi; exact hee y hy
        · exact hc x (by simpa [hxi] using hx) y hy
    have hpres : ∀ {g : Nat → Bool}, ShutF .any ops g → (∀ j ∈ edgesOf .any ops m, g j = true) → ∀ j, j < m → g j = true := fun hg he j hj => by
      have h4 := List.all_eq_true.1 hanc j (List.mem_range.2 hj)
      exact anc_true hg m m he j (by simpa using h4)
    by_cases him : i = m
    · subst him
      obtain ⟨h4, hI⟩ := h1 hf
      have hall := hpres hc hee
      have e : a = { a0 with tmps := fillN slot (fun j => a.tmps.getD (slot j) undef) i a0.tmps } := by
        have h5 : a.tmps = fillN slot (fun j => a.tmps.getD (slot j) undef) i a0.tmps := by
          refine ext_getD (by rw [fillN_size, hI.size]) (fun j => ?_)
          by_cases hj : ∃ k, k < i ∧ slot k = j
          · obtain ⟨k, hk, rfl⟩ := hj
            rw [fillN_at slot _ _ hs _ hinj k hk]
          · rw [fillN_get slot _ _ hs _ j (fun k hk e => hj ⟨k, hk, e⟩), hI.rest j (fun k hk e => hj ⟨k, hk, e⟩)]
        obtain ⟨t, d⟩ := a
        have h6 := hI.defers
        simp only at h5 h6
        rw [← h5, h6]
      have h7 := hyield (fun j => a.tmps.getD (slot j) undef) w o ho hI.bel (fun j hj => hI.have_ j hj (hall j hj))
      rw [← e] at h7
      refine Oper.wpIn_mono (fun a' w' hT => ⟨hc', fun h => by simp at h, fun _ _ => hT, fun h => ?_⟩) h7
      have h' : (if i + 1 = i then true else f (i + 1)) = true := h
      rw [if_neg (by omega), h4] at h'
      cases h'
    · by_cases hit : i = m + 1
      · subst hit
        have hfm : f m = true := hee m (by simpa using hlast)
        refine Oper.wpIn_mono (fun a' w' hT => ⟨hc', fun h => ?_, fun _ h => by simp at h, fun _ => hT⟩) (htail a w o ho (h2 hfm hf))
        have h' : (if m = m + 1 then true else f m) = false := h
        rw [if_neg (by omega), hfm] at h'
        cases h'
      · have hlt : i < m := by omega
        have hfm : f m = false := by
          cases hfm : f m with
          | false => rfl
          | true =>
            have := hpres hc (hc m hfm) i hlt
            rw [hf] at this
            cases this
        obtain ⟨h4, hI⟩ := h1 hfm
        refine Oper.wpIn_mono ?_ (opR (noDefer_at hd ho) (hstep f a w i o hlt ho (fun e he hbd => hI.have_ e.on (by have := (back_of hb ho).2 e he hbd; omega) (hpre e he hbd)) hI.bel hI.rest))
        rintro a' w' ⟨v, rfl, hv, hbw⟩
        rw [hdst i o hlt ho]
        have hsl : slot i < a.tmps.size := by rw [hI.size]; exact hs i
        refine ⟨hc', fun _ => ⟨by show (if m + 1 = i then true else f (m + 1)) = false; rw [if_neg (by omega)]; exact h4, hI.defers, by rw [← hI.size]; exact Array.size_setIfInBounds .., fun j hj => ?_, hI.bel.trans (hbw.mono hI.bel.size), fun j hj hfj => ?_⟩, fun h => ?_, fun h => ?_⟩
        · show (a.tmps.setIfInBounds (slot i) v).getD j undef = _
          rw [getD_set _ _ _ _ hsl, if_neg (Ne.symm (hj i hlt))]
          exact hI.rest j hj
        · show Fs j w' ((a.tmps.setIfInBounds (slot i) v).getD (slot j) undef)
          rw [getD_set _ _ _ _ hsl]
          by_cases hji : j = i
          · subst hji; rw [if_pos rfl]; exact hv
          · rw [if_neg (fun e => hji (hinj j i hj hlt e))]
            have h2 : f j = true := by simpa [hji] using hfj
            exact hF j w w' _ (hI.have_ j hj h2) hbw
        · have h' : (if m = i then true else f m) = true := h
          rw [if_neg (Ne.symm him), hfm] at h'; cases h'
        · have h' : (if m + 1 = i then true else f (m + 1)) = true := h
          rw [if_neg (Ne.symm hit), h4] at h'; cases h'
  · rintro f a w hall ⟨_, _, _, h3⟩
    exact h3 (hall (m + 1) (by omega))
/-- the call of yield within a round of the iterator's own loop -/
theorem op_yield {l l' k : Nat} {o : Oper} {a : Act} {w : World} {K : Act → World → Prop} {R : Ending → World → Prop} (t : Nat) (xs : Array Operand) (ty : Array TypeId) (args : Array Value) (ho : o.op = Op.call { callee := .value (.tmp t), args := xs, argTypes := ty })
    (ht : a.tmps.getD t undef = .func (.yield l') #[] #[]) (hx : xs.map a.eval = args) (h : YieldAt Fence.wide k P l' args w R) (hR : ∀ e w', R e w' → ∃ b, e = .returned (.bool b) ∧ K (a.put o.dst (.bool b)) w') :
    o.wpIn (Fence.wide.inRound l) n P a w K Q := by
  obtain ⟨fn, tmps, assign, body, hy, hr⟩ := h
  refine ⟨fun _ _ => trivial, ?_⟩
  rw [Fence.inRound_round, Oper.semAt_some l _ _ (fun c h => by rw [ho] at h; cases h)]
  have ht2 : a.tmps[t]?.getD undef = .func (.yield l') #[] #[] := by rw [← Array.getD_eq_getD_getElem?]; exact ht
  have e : (execOp a.eval o).run P w = .ok (.round l' fn tmps assign body) w := by
    unfold execOp
    simp [ho, resolve, invoke, ht2, hx, hy, go_sem]
  rw [e]
  refine ⟨(fun h => by cases h), ?_⟩
  refine RoundIn.mono (F := Fence.wide) (roundIn_any _ hr) ?_
  intro z w' hz
  obtain ⟨b, rfl, hk⟩ := hR z w' hz
  exact hk
end
end Go.Proofs.YtbaakfcbakpmpaaGreatDoor

/- A drawn region whose last operation waits for all others, where the world is told by a relation of its own. -/
namespace Go.Proofs.YtbaakfcbakpmpaaGreatDoor
set_option linter.unusedVariables false
set_option linter.unusedSimpArgs false
open Go.RowKit
section
variable {P : Program} {ops : Array Oper} {Q : Exit → Act → World → Prop}
theorem region_last2 {id : Nat} {a0 : Act} {w0 : World} (m : Nat) (slot : Nat → Nat) (F : Nat → World → Value → Prop) (T : (Nat → Bool) → World → Prop) (hm : P.follows .mixedOrders = true) (hb : backB .any ops = true)
    (hsz : ops.size = m + 1) (hanc : ((List.range m).all fun j => (ancOf .any ops m m).contains j) = true)
    (hs : ∀ i, slot i < a0.tmps.size) (hinj : ∀ i j, i < m → j < m → slot i = slot j → i = j) (h0 : T (fun _ => false) w0.drew)
    (hdst : ∀ i o, i < m → ops[i]? = some o → o.dst = some (slot i))
    (hstep : ∀ (f : Nat → Bool) (a : Act) (w : World) (i : Nat) (o : Oper), i < m → ops[i]? = some o → f i = false → (∀ e ∈ o.after, Region.binds .any e = true → f e.on = true ∧ F e.on w (a.tmps.getD (slot e.on) undef)) → T f w →
      (∀ j, (∀ i, i < m → slot i ≠ j) → a.tmps.getD j undef = a0.tmps.getD j undef) →
      o.wp P a w (fun a' w' => ∃ v, a' = a.put o.dst v ∧ F i w' v ∧ T (fun j => if j = i then true else f j) w' ∧ ∀ j v', f j = true → F j w v' → F j w' v') Q)
    (hlast : ∀ (f : Nat → Bool) (vs : Nat → Value) (w : World) (o : Oper), ops[m]? = some o → (∀ i, i < m → f i = true) → T f w → (∀ i, i < m → F i w (vs i)) →
      o.wp P { a0 with tmps := fillN slot vs m a0.tmps } w (fun a' w' => Q .normal a' w') Q) :
    (Code.region id ops true).wp P Q a0 w0 := by
  refine region_inv hm hb (fun f a w => ShutF .any ops f ∧ (f m = false → Stand2 a0 m slot F T f a w) ∧ (f m = true → Q .normal a w))
    ⟨(fun i h => by cases h), (fun _ => ⟨rfl, rfl, (fun _ _ => rfl), (fun _ _ _ => rfl), h0, (fun _ _ h => by cases h)⟩), (fun h => by cases h)⟩ ?_ ?_
  · rintro f a w i o ho hf hpre ⟨hc, h1, h2⟩
    have hi := (Array.getElem?_eq_some_iff.1 ho).1
    have hee := edges_of ho hpre
    have hc' : ShutF .any ops (fun j => if j = i then true else f j) := by
      intro x hx y hy
      show (if y = i then true else f y) = true
      by_cases hyi : y = i
      · rw [if_pos hyi]
      · rw [if_neg hyi]
        by_cases hxi : x = i
        · subst hxi; exact hee y hy
        · exact hc x (by simpa [hxi] using hx) y hy
    have hpres : ∀ {g : Nat → Bool}, ShutF .any ops g → (∀ j ∈ edgesOf .any ops m, g j = true) → ∀ j, j < m → g j = true := fun hg he j hj => by
      have h4 := List.all_eq_true.1 hanc j (List.mem_range.2 hj)
      exact anc_true hg m m he j (by simpa using h4)
    by_cases him : i = m
    · subst him
      have hI := h1 hf
      have hall := hpres hc hee
      have e : a = { a0 with tmps := fillN slot (fun j => a.tmps.getD (slot j) undef) i a0.tmps } := by
        have h5 : a.tmps = fillN slot (fun j => a.tmps.getD (slot j) undef) i a0.tmps := by
          refine ext_getD (by rw [fillN_size, hI.size]) (fun j => ?_)
          by_cases hj : ∃ k, k < i ∧ slot k = j
          · obtain ⟨k, hk, rfl⟩ := hj
            rw [fillN_at slot _ _ hs _ hinj k hk]
          · rw [fillN_get slot _ _ hs _ j (fun k hk e => hj ⟨k, hk, e⟩), hI.rest j (fun k hk e => hj ⟨k, hk, e⟩)]
        obtain ⟨t, d⟩ := a
        have h6 := hI.defers
        simp only at h5 h6
        rw [← h5, h6]
      have h7 := hlast f (fun j => a.tmps.getD (slot j) undef) w o ho hall hI.told (fun j hj => hI.have_ j hj (hall j hj))
      rw [← e] at h7
      exact Oper.wp_mono (fun a' w' hT => ⟨hc', fun h => by simp at h, fun _ => hT⟩) h7
    · have hlt : i < m := by omega
      have hfm : f m = false := by
        cases hfm : f m with
        | false => rfl
        | true =>
          have := hpres hc (hc m hfm) i hlt
          rw [hf] at this
          cases this
      have hI := h1 hfm
      refine Oper.wp_mono ?_ (hstep f a w i o hlt ho hf (fun e he hbd => ⟨hpre e he hbd, hI.have_ e.on (by have := (back_of hb ho).2 e he hbd; omega) (hpre e he hbd)⟩) hI.told hI.rest)
      rintro a' w' ⟨v, rfl, hv, ht, hst⟩
      rw [hdst i o hlt ho]
      have hsl : slot i < a.tmps.size := by rw [hI.size]; exact hs i
      refine ⟨hc', fun _ => ⟨hI.defers, by rw [← hI.size]; exact Array.size_setIfInBounds .., fun j hj => ?_, fun j hj hfj => ?_, ht, fun j hj hfj => ?_⟩, fun h => ?_⟩
      · show (a.tmps.setIfInBounds (slot i) v).getD j undef = _
        rw [getD_set _ _ _ _ hsl, if_neg (Ne.symm (hj i hlt))]
        exact hI.rest j hj
      · show (a.tmps.setIfInBounds (slot i) v).getD (slot j) undef = _
        have hji : j ≠ i := fun e => by simp [e] at hfj
        rw [getD_set _ _ _ _ hsl, if_neg (fun e => hji (hinj j i hj hlt e))]
        exact hI.yet j hj (by simpa [hji] using hfj)
      · show F j w' ((a.tmps.setIfInBounds (slot i) v).getD (slot j) undef)
        rw [getD_set _ _ _ _ hsl]
        by_cases hji : j = i
        · subst hji; rw [if_pos rfl]; exact hv
        · rw [if_neg (fun e => hji (hinj j i hj hlt e))]
          have h2 : f j = true := by simpa [hji] using hfj
          exact hst j _ h2 (hI.have_ j hj h2)
      · have h' : (if m = i then true else f m) = true := h
        rw [if_neg (Ne.symm him), hfm] at h'; cases h'
  · rintro f a w hall ⟨_, _, h3⟩
    exact h3 (hall m (by omega))
end
end Go.Proofs.YtbaakfcbakpmpaaGreatDoor

/- A region that draws its order and has guarded operations: by what its slots hold; which operations stand is decided ahead. -/
namespace Go.Proofs.YtbaakfcbakpmpaaGreatDoor
set_option linter.unusedVariables false
set_option linter.unusedSimpArgs false
open Go.RowKit
set_option maxHeartbeats 2000000
def backG (md : Region.Mode) (ops : Array Oper) : Bool := (List.range ops.size).all fun i => ((ops[i]?).map fun o => (match o.guard with | none => true | some (g, _) => o.after.any fun e => e.on == g && Region.binds md e) && o.after.all fun e => !Region.binds md e || decide (e.on < i)).getD true
section
variable {P : Program} {ops : Array Oper} {Q : Exit → Act → World → Prop} {md : Region.Mode}
theorem back_ofG (h : backG md ops = true) {i : Nat} {o : Oper} (ho : ops[i]? = some o) : (∀ g b, o.guard = some (g, b) → ∃ e ∈ o.after, e.on = g ∧ Region.binds md e = true) ∧ ∀ e ∈ o.after, Region.binds md e = true → e.on < i := by
  have hi := (Array.getElem?_eq_some_iff.1 ho).1
  have h1 := List.all_eq_true.1 h i (List.mem_range.2 hi)
  rw [ho] at h1
  simp only [Option.map_some, Option.getD_some, Bool.and_eq_true] at h1
  refine ⟨fun g b hgb => ?_, fun e he hbd => ?_⟩
  · have h2 := h1.1
    rw [hgb] at h2
    obtain ⟨k, hk, h3⟩ := Array.any_eq_true.1 h2
    rw [Bool.and_eq_true, beq_iff_eq] at h3
    exact ⟨_, Array.getElem_mem hk, h3.1, h3.2⟩
  · have := (Array.all_eq_true_iff_forall_mem.1 h1.2) e he
    rw [hbd] at this
    simpa using this
theorem ready_allG (hb : backG md ops = true) {listed : Array Bool} (hs : listed.size = ops.size) (h : Region.ready md ops listed = []) : ∀ i, i < ops.size → listed.getD i false = true := by
  intro i
  induction i using Nat.strongRecOn with
  | _ i ih =>
    intro hi
    by_cases hl : listed.getD i false = true
    · exact hl
    · exfalso
      have hj : i < listed.size := by omega
      have hm : i ∈ Region.ready md ops listed := by
        unfold Region.ready
        refine List.mem_filter.2 ⟨List.mem_range.2 hi, ?_⟩
        simp only [Bool.and_eq_true, Array.getElem?_eq_getElem hi, Option.map_some, Option.getD_some]
        refine ⟨?_, Array.all_eq_true_iff_forall_mem.2 fun e he => ?_⟩
        · simp only [Array.getD, hj, dite_true] at hl ⊢
          simpa using hl
        · cases hbd : Region.binds md e with
          | false => rfl
          | true =>
            have h1 := (back_ofG hb (Array.getElem?_eq_getElem hi)).2 e he hbd
            rw [ih e.on h1 (by omega)]
            simp
      rw [h] at hm
      cases hm
theorem wpAny_invG (hb : backG md ops = true) (Inv : (Nat → Bool) → Act → World → Prop)
    (hstep : ∀ (f : Nat → Bool) (a : Act) (w : World) (i : Nat) (o : Oper), ops[i]? = some o → f i = false → (∀ e ∈ o.after, Region.binds md e = true → f e.on = true) → Inv f a w →
      if Region.wanted o (yielded ops a.tmps) then o.wp P a w (Inv (fun j => if j = i then true else f j)) Q else Inv (fun j => if j = i then true else f j) (a.put o.dst undef) w)
    (hdone : ∀ (f : Nat → Bool) (a : Act) (w : World), (∀ i, i < ops.size → f i = true) → Inv f a w → Q .normal a w) :
    ∀ (fuel : Nat) (listed : Array Bool) (a : Act) (w : World), listed.size = ops.size → listed.toList.count false ≤ fuel → Inv (fun i => listed.getD i false) a w → wpAny P md ops Q fuel listed a w := by
  intro fuel
  induction fuel with
  | zero =>
    intro listed a w hs hc hI
    have hr : Region.ready md ops listed = [] := by
      cases hr : Region.ready md ops listed with
      | nil => rfl
      | cons i r =>
        obtain ⟨o, ho, hl, hi, _⟩ := ready_mem (md := md) hs (i := i) (by rw [hr]; exact List.mem_cons_self)
        have h1 : false ∈ listed.toList := by
          simp only [Array.getD, hi, dite_true] at hl
          have h2 : listed[i] ∈ listed.toList := Array.mem_toList_iff.2 (Array.getElem_mem hi)
          have h3 : listed[i] = false := hl
          rwa [h3] at h2
        have := List.count_pos_iff.2 h1
        omega
    exact ⟨hr, hdone _ a w (ready_allG hb hs hr) hI⟩
  | succ fuel ih =>
    intro listed a w hs hc hI
    refine ⟨fun hr => hdone _ a w (ready_allG hb hs hr) hI, fun i hi => ?_⟩
    obtain ⟨o, ho, hl, hil, hpre⟩ := ready_mem hs hi
    have h1 := hstep _ a w i o ho hl hpre hI
    have hnext : ∀ a' w', Inv (fun j => if j = i then true else listed.getD j false) a' w' → wpAny P md ops Q fuel (listed.setIfInBounds i true) a' w' := by
      intro a' w' hI'
      refine ih _ a' w' (by simp [hs]) ?_ ?_
      · have h3 : listed.toList[i]'(by simpa using hil) = false := by
          simp only [Array.getD, hil, dite_true] at hl
          simpa using hl
        rw [Array.toList_setIfInBounds, List.count_set (h := by simpa using hil), h3]
        have h4 : 0 < listed.toList.count false := List.count_pos_iff.2 (by rw [← h3]; exact List.getElem_mem _)
        rw [if_pos (by rfl), if_neg (by decide)]
        omega
      · refine cast (congrArg (fun g => Inv g a' w') (funext fun j => ?_)) hI'
        by_cases hj : j = i
        · subst hj
          simp [Array.getD, hil]
        · rw [if_neg hj]
          simp only [Array.getD, Array.size_setIfInBounds]
          by_cases hjl : j < listed.size
          · simp [hjl, Array.getElem_setIfInBounds, Ne.symm hj]
          · simp [hjl]
    unfold wpOp
    simp only [ho]
    split
    · rename_i hw
      rw [if_pos hw] at h1
      exact .inl (Oper.wp_mono (fun a' w' hI' => hnext a' w' hI') h1)
    · rename_i hw
      rw [if_neg hw] at h1
      exact hnext _ _ h1
theorem region_invG {id : Nat} {a : Act} {w : World} (hm : P.follows .mixedOrders = true) (hb : backG .any ops = true) (Inv : (Nat → Bool) → Act → World → Prop) (h0 : Inv (fun _ => false) a w.drew)
    (hstep : ∀ (f : Nat → Bool) (a : Act) (w : World) (i : Nat) (o : Oper), ops[i]? = some o → f i = false → (∀ e ∈ o.after, Region.binds .any e = true → f e.on = true) → Inv f a w →
      if Region.wanted o (yielded ops a.tmps) then o.wp P a w (Inv (fun j => if j = i then true else f j)) Q else Inv (fun j => if j = i then true else f j) (a.put o.dst undef) w)
    (hdone : ∀ (f : Nat → Bool) (a : Act) (w : World), (∀ i, i < ops.size → f i = true) → Inv f a w → Q .normal a w) : (Code.region id ops true).wp P Q a w := by
  refine wp_region_any hm (wpAny_invG hb Inv hstep hdone _ _ a _ (by simp) ?_ ?_)
  · refine Nat.le_trans List.count_le_length ?_
    simp
  · refine cast (congrArg (fun g => Inv g a w.drew) (funext fun j => ?_)) h0
    by_cases hj : j < ops.size <;> simp [Array.getD, hj]
/-- all slots are filled; sel: which operations stand; an operation that does not stand leaves undef -/
theorem region_slotsG {id : Nat} {a0 : Act} {w0 : World} (slot : Nat → Nat) (F : Nat → World → Value → Prop) (sel : Nat → Bool) (hm : P.follows .mixedOrders = true) (hb : backG .any ops = true)
    (hs : ∀ i, slot i < a0.tmps.size) (hinj : ∀ i j, i < ops.size → j < ops.size → slot i = slot j → i = j) (hF : ∀ i w w' v, F i w v → Below w.heap.size w w' → F i w' v)
    (hdst : ∀ i o, ops[i]? = some o → o.dst = some (slot i))
    (hgu : ∀ i o g b, ops[i]? = some o → o.guard = some (g, b) → ∀ w v, F g w v → v = .bool (if sel i then b else !b))
    (hng : ∀ i o, ops[i]? = some o → o.guard = none → sel i = true)
    (hskip : ∀ i w, i < ops.size → sel i = false → F i w undef)
    (hstep : ∀ (f : Nat → Bool) (a : Act) (w : World) (i : Nat) (o : Oper), ops[i]? = some o → sel i = true → (∀ e ∈ o.after, Region.binds .any e = true → F e.on w (a.tmps.getD (slot e.on) undef)) → Below w0.heap.size w0 w →
      (∀ j, (∀ i, i < ops.size → slot i ≠ j) → a.tmps.getD j undef = a0.tmps.getD j undef) → o.wp P a w (fun a' w' => ∃ v, a' = a.put o.dst v ∧ F i w' v ∧ Below w.heap.size w w') Q)
    (hdone : ∀ (vs : Nat → Value) (w : World), Below w0.heap.size w0 w → (∀ i, i < ops.size → F i w (vs i)) → Q .normal { a0 with tmps := fillN slot vs ops.size a0.tmps } w) : (Code.region id ops true).wp P Q a0 w0 := by
  refine region_invG hm hb (Stand a0 w0 ops.size slot F) ⟨rfl, rfl, fun _ _ => rfl, ⟨rfl, rfl, rfl, Nat.le_refl _, fun _ _ => rfl⟩, fun _ _ h => by cases h⟩ ?_ ?_
  · intro f a w i o ho hf hpre hI
    have hi := (Array.getElem?_eq_some_iff.1 ho).1
    have hsl : slot i < a.tmps.size := by rw [hI.size]; exact hs i
    have hput : ∀ w' v, F i w' v → Below w.heap.size w w' → Stand a0 w0 ops.size slot F (fun j => if j = i then true else f j) (a.put o.dst v) w' := by
      intro w' v hv hbw
      rw [hdst i o ho]
      refine ⟨hI.defers, by rw [← hI.size]; exact Array.size_setIfInBounds .., fun j hj => ?_, hI.bel.trans (hbw.mono hI.bel.size), fun j hj hfj => ?_⟩
      · show (a.tmps.setIfInBounds (slot i) v).getD j undef = _
        rw [getD_set _ _ _ _ hsl, if_neg (Ne.symm (hj i hi))]
        exact hI.rest j hj
      · show F j w' ((a.tmps.setIfInBounds (slot i) v).getD (slot j) undef)
        rw [getD_set _ _ _ _ hsl]
        by_cases hji : j = i
        · subst hji; rw [if_pos rfl]; exact hv
        · rw [if_neg (fun e => hji (hinj j i hj hi e))]
          have h2 : f j = true := by simpa [hji] using hfj
          exact hF j w w' _ (hI.have_ j hj h2) hbw
    have hwant : Region.wanted o (yielded ops a.tmps) = sel i := by
      unfold Region.wanted
      cases hg : o.guard with
      | none => exact (hng i o ho hg).symm
      | some gb =>
        obtain ⟨g, b⟩ := gb
        obtain ⟨e, he, heg, hbd⟩ := (back_ofG hb ho).1 g b hg
        have hgi : g < i := by rw [← heg]; exact (back_ofG hb ho).2 e he hbd
        have hfg : f g = true := by rw [← heg]; exact hpre e he hbd
        have hv := hgu i o g b ho hg w _ (hI.have_ g (by omega) hfg)
        have hsg : slot g < a.tmps.size := by rw [hI.size]; exact hs g
        have hy : yielded ops a.tmps g = some (if sel i then b else !b) := by
          unfold yielded
          rw [Array.getElem?_eq_getElem (show g < ops.size by omega), Option.bind_some, hdst g _ (Array.getElem?_eq_getElem (by omega)), Option.bind_some, Array.getElem?_eq_getElem hsg]
          rw [Array.getD_eq_getD_getElem?, Array.getElem?_eq_getElem hsg, Option.getD_some] at hv
          rw [hv]
        show (yielded ops a.tmps g == some b) = sel i
        rw [hy]
        cases sel i <;> cases b <;> rfl
    rw [hwant]
    cases hsel : sel i with
    | true =>
      rw [if_pos rfl]
      refine Oper.wp_mono ?_ (hstep f a w i o ho hsel (fun e he hbd => hI.have_ e.on (by have := (back_ofG hb ho).2 e he hbd; omega) (hpre e he hbd)) hI.bel hI.rest)
      rintro a' w' ⟨v, rfl, hv, hbw⟩
      exact hput w' v hv hbw
    | false =>
      rw [if_neg (by decide)]
      exact hput w undef (hskip i w hi hsel) (Below.refl _ _)
  · intro f a w hall hI
    have e : a = { a0 with tmps := fillN slot (fun i => a.tmps.getD (slot i) undef) ops.size a0.tmps } := by
      have h1 : a.tmps = fillN slot (fun i => a.tmps.getD (slot i) undef) ops.size a0.tmps := by
        refine ext_getD (by rw [fillN_size, hI.size]) (fun j => ?_)
        by_cases hj : ∃ i, i < ops.size ∧ slot i = j
        · obtain ⟨i, hi, rfl⟩ := hj
          rw [fillN_at slot _ _ hs _ hinj i hi]
        · rw [fillN_get slot _ _ hs _ j (fun i hi e => hj ⟨i, hi, e⟩), hI.rest j (fun i hi e => hj ⟨i, hi, e⟩)]
      obtain ⟨t, d⟩ := a
      have h2 := hI.defers
      simp only at h1 h2
      rw [← h1, h2]
    rw [e]
    exact hdone _ w hI.bel (fun i hi => hI.have_ i hi (hall i hi))
end
end Go.Proofs.YtbaakfcbakpmpaaGreatDoor

/- Steps of drawn regions: an operation that leaves the world, a call, a call of two. -/
namespace Go.Proofs.YtbaakfcbakpmpaaGreatDoor
set_option linter.unusedVariables false
set_option linter.unusedSimpArgs false
open Go.RowKit
theorem rg_ev {a : Act} {t : Nat} {v : Value} (h : a.tmps.getD t undef = v) : a.tmps[t]?.getD undef = v := by rw [← Array.getD_eq_getD_getElem?]; exact h
theorem rg_same {P : Program} {o : Oper} {a : Act} {w : World} {Q : Exit → Act → World → Prop} {F : World → Value → Prop} (v : Value) (h : o.wp P a w (fun a' w' => a' = a.put o.dst v ∧ w' = w) Q) (hF : F w v) :
    o.wp P a w (fun a' w' => ∃ v, a' = a.put o.dst v ∧ F w' v ∧ Below w.heap.size w w') Q := by
  refine Oper.wp_mono ?_ h
  rintro a' w' ⟨rfl, rfl⟩
  exact ⟨v, rfl, hF, Below.refl _ _⟩
theorem rg_same2 {P : Program} {o : Oper} {a : Act} {w : World} {Q : Exit → Act → World → Prop} {F : Nat → World → Value → Prop} {T : (Nat → Bool) → World → Prop} {f : Nat → Bool} {i : Nat} (v : Value)
    (h : o.wp P a w (fun a' w' => a' = a.put o.dst v ∧ w' = w) Q) (hF : F i w v) (hT : T (fun j => if j = i then true else f j) w) :
    o.wp P a w (fun a' w' => ∃ v, a' = a.put o.dst v ∧ F i w' v ∧ T (fun j => if j = i then true else f j) w' ∧ ∀ j v', f j = true → F j w v' → F j w' v') Q := by
  refine Oper.wp_mono ?_ h
  rintro a' w' ⟨rfl, rfl⟩
  exact ⟨v, rfl, hF, hT, fun _ _ _ h => h⟩
theorem rg_call {P : Program} {o : Oper} {a : Act} {w : World} {K : Act → World → Prop} {Q : Exit → Act → World → Prop} (t k : Nat) (ty : Array TypeId) (v : Value) (R : Ending → World → Prop) (ho : o.op = Op.call { callee := .value (.func k), args := #[.tmp t], argTypes := ty }) (hv : a.tmps.getD t undef = v)
    (eg : ∀ args w, (callFunc k args).run P w = .ok (.enter k args) w) (hc : Calls P k #[v] w R) (hR : ∀ e w', R e w' → ∃ r, e = .returned r ∧ K (a.put o.dst r) w') : o.wp P a w K Q := by
  have e := rg_ev hv
  have e2 : a.eval (.func k) = .func (.func k) #[] #[] := rfl
  unfold Oper.wp execOp
  simp [ho, resolve, invoke, e2, e, eg, go_sem]
  refine hc.mono ?_
  intro z w' hz
  obtain ⟨r, rfl, hk⟩ := hR z w' hz
  exact hk
theorem rg_callc {P : Program} {o : Oper} {a : Act} {w : World} {K : Act → World → Prop} {Q : Exit → Act → World → Prop} (t k : Nat) (ty : Array TypeId) (v c : Value) (R : Ending → World → Prop) (ho : o.op = Op.call { callee := .value (.func k), args := #[.tmp t, .const c], argTypes := ty }) (hv : a.tmps.getD t undef = v)
    (eg : ∀ args w, (callFunc k args).run P w = .ok (.enter k args) w) (hc : Calls P k #[v, c] w R) (hR : ∀ e w', R e w' → ∃ r, e = .returned r ∧ K (a.put o.dst r) w') : o.wp P a w K Q := by
  have e := rg_ev hv
  have e2 : a.eval (.func k) = .func (.func k) #[] #[] := rfl
  have e3 : a.eval (.const c) = c := rfl
  unfold Oper.wp execOp
  simp [ho, resolve, invoke, e2, e3, e, eg, go_sem]
  refine hc.mono ?_
  intro z w' hz
  obtain ⟨r, rfl, hk⟩ := hR z w' hz
  exact hk
theorem rg_call2 {P : Program} {o : Oper} {a : Act} {w : World} {K : Act → World → Prop} {Q : Exit → Act → World → Prop} (s t k : Nat) (ty : Array TypeId) (u v : Value) (R : Ending → World → Prop) (ho : o.op = Op.call { callee := .value (.func k), args := #[.tmp s, .tmp t], argTypes := ty }) (hu : a.tmps.getD s undef = u) (hv : a.tmps.getD t undef = v)
    (eg : ∀ args w, (callFunc k args).run P w = .ok (.enter k args) w) (hc : Calls P k #[u, v] w R) (hR : ∀ e w', R e w' → ∃ r, e = .returned r ∧ K (a.put o.dst r) w') : o.wp P a w K Q := by
  have e := rg_ev hv
  have e1 := rg_ev hu
  have e2 : a.eval (.func k) = .func (.func k) #[] #[] := rfl
  unfold Oper.wp execOp
  simp [ho, resolve, invoke, e2, e, e1, eg, go_sem]
  refine hc.mono ?_
  intro z w' hz
  obtain ⟨r, rfl, hk⟩ := hR z w' hz
  exact hk
end Go.Proofs.YtbaakfcbakpmpaaGreatDoor

/- A region that draws its order and has guarded operations: by what its slots hold; which operations stand is decided ahead; a guard may hang on an operation that does not stand. -/
namespace Go.Proofs.YtbaakfcbakpmpaaGreatDoor
set_option linter.unusedVariables false
set_option linter.unusedSimpArgs false
open Go.RowKit
set_option maxHeartbeats 2000000
section
variable {P : Program} {ops : Array Oper} {Q : Exit → Act → World → Prop}
theorem region_slotsH {id : Nat} {a0 : Act} {w0 : World} (slot : Nat → Nat) (F : Nat → World → Value → Prop) (sel : Nat → Bool) (hm : P.follows .mixedOrders = true) (hb : backG .any ops = true)
    (hs : ∀ i, slot i < a0.tmps.size) (hinj : ∀ i j, i < ops.size → j < ops.size → slot i = slot j → i = j) (hF : ∀ i w w' v, F i w v → Below w.heap.size w w' → F i w' v)
    (hdst : ∀ i o, ops[i]? = some o → o.dst = some (slot i))
    (hgu : ∀ i o g b, ops[i]? = some o → o.guard = some (g, b) → ∀ w v, F g w v → v = .bool (if sel i then b else !b) ∨ (sel i = false ∧ v = undef))
    (hng : ∀ i o, ops[i]? = some o → o.guard = none → sel i = true)
    (hskip : ∀ i w, i < ops.size → sel i = false → F i w undef)
    (hstep : ∀ (f : Nat → Bool) (a : Act) (w : World) (i : Nat) (o : Oper), ops[i]? = some o → sel i = true → (∀ e ∈ o.after, Region.binds .any e = true → F e.on w (a.tmps.getD (slot e.on) undef)) → Below w0.heap.size w0 w →
      (∀ j, (∀ i, i < ops.size → slot i ≠ j) → a.tmps.getD j undef = a0.tmps.getD j undef) → o.wp P a w (fun a' w' => ∃ v, a' = a.put o.dst v ∧ F i w' v ∧ Below w.heap.size w w') Q)
    (hdone : ∀ (vs : Nat → Value) (w : World), Below w0.heap.size w0 w → (∀ i, i < ops.size → F i w (vs i)) → Q .normal { a0 with tmps := fillN slot vs ops.size a0.tmps } w) : (Code.region id ops true).wp P Q a0 w0 := by
  refine region_invG hm hb (Stand a0 w0 ops.size slot F) ⟨rfl, rfl, fun _ _ => rfl, ⟨rfl, rfl, rfl, Nat.le_refl _, fun _ _ => rfl⟩, fun _ _ h => by cases h⟩ ?_ ?_
  · intro f a w i o ho hf hpre hI
    have hi := (Array.getElem?_eq_some_iff.1 ho).1
    have hsl : slot i < a.tmps.size := by rw [hI.size]; exact hs i
    have hput : ∀ w' v, F i w' v → Below w.heap.size w w' → Stand a0 w0 ops.size slot F (fun j => if j = i then true else f j) (a.put o.dst v) w' := by
      intro w' v hv hbw
      rw [hdst i o ho]
      refine ⟨hI.defers, by rw [← hI.size]; exact Array.size_setIfInBounds .., fun j hj => ?_, hI.bel.trans (hbw.mono hI.bel.size), fun j hj hfj => ?_⟩
      · show (a.tmps.setIfInBounds (slot i) v).getD j undef = _
        rw [getD_set _ _ _ _ hsl, if_neg (Ne.symm (hj i hi))]
        exact hI.rest j hj
      · show F j w' ((a.tmps.setIfInBounds (slot i) v).getD (slot j) undef)
        rw [getD_set _ _ _ _ hsl]
        by_cases hji : j = i
        · subst hji; rw [if_pos rfl]; exact hv
        · rw [if_neg (fun e => hji (hinj j i hj hi e))]
          have h2 : f j = true := by simpa [hji] using hfj
          exact hF j w w' _ (hI.have_ j hj h2) hbw
    have hwant : Region.wanted o (yielded ops a.tmps) = sel i := by
      unfold Region.wanted
      cases hg : o.guard with
      | none => exact (hng i o ho hg).symm
      | some gb =>
        obtain ⟨g, b⟩ := gb
        obtain ⟨e, he, heg, hbd⟩ := (back_ofG hb ho).1 g b hg
        have hgi : g < i := by rw [← heg]; exact (back_ofG hb ho).2 e he hbd
        have hfg : f g = true := by rw [← heg]; exact hpre e he hbd
        have hv := hgu i o g b ho hg w _ (hI.have_ g (by omega) hfg)
        have hsg : slot g < a.tmps.size := by rw [hI.size]; exact hs g
        have hy : yielded ops a.tmps g = (match a.tmps.getD (slot g) undef with | .bool x => some x | _ => none) := by
          unfold yielded
          rw [Array.getElem?_eq_getElem (show g < ops.size by omega), Option.bind_some, hdst g _ (Array.getElem?_eq_getElem (by omega)), Option.bind_some, Array.getElem?_eq_getElem hsg]
          rw [Array.getD_eq_getD_getElem?, Array.getElem?_eq_getElem hsg, Option.getD_some]
          cases a.tmps[slot g] <;> rfl
        show (yielded ops a.tmps g == some b) = sel i
        rw [hy]
        rcases hv with hv | ⟨hsi, hv⟩
        · rw [hv]
          cases sel i <;> cases b <;> rfl
        · rw [hv, hsi]; rfl
    rw [hwant]
    cases hsel : sel i with
    | true =>
      rw [if_pos rfl]
      refine Oper.wp_mono ?_ (hstep f a w i o ho hsel (fun e he hbd => hI.have_ e.on (by have := (back_ofG hb ho).2 e he hbd; omega) (hpre e he hbd)) hI.bel hI.rest)
      rintro a' w' ⟨v, rfl, hv, hbw⟩
      exact hput w' v hv hbw
    | false =>
      rw [if_neg (by decide)]
      exact hput w undef (hskip i w hi hsel) (Below.refl _ _)
  · intro f a w hall hI
    have e : a = { a0 with tmps := fillN slot (fun i => a.tmps.getD (slot i) undef) ops.size a0.tmps } := by
      have h1 : a.tmps = fillN slot (fun i => a.tmps.getD (slot i) undef) ops.size a0.tmps := by
        refine ext_getD (by rw [fillN_size, hI.size]) (fun j => ?_)
        by_cases hj : ∃ i, i < ops.size ∧ slot i = j
        · obtain ⟨i, hi, rfl⟩ := hj
          rw [fillN_at slot _ _ hs _ hinj i hi]
        · rw [fillN_get slot _ _ hs _ j (fun i hi e => hj ⟨i, hi, e⟩), hI.rest j (fun i hi e => hj ⟨i, hi, e⟩)]
      obtain ⟨t, d⟩ := a
      have h2 := hI.defers
      simp only at h1 h2
      rw [← h1, h2]
    rw [e]
    exact hdone _ w hI.bel (fun i hi => hI.have_ i hi (hall i hi))
end
end Go.Proofs.YtbaakfcbakpmpaaGreatDoor

/- A region that draws its order and has guarded operations: by what its slots hold; which operations stand is decided ahead; a guard may hang on an operation that does not stand; a step knows the frame's calls put off (it may panic). -/
namespace Go.Proofs.YtbaakfcbakpmpaaGreatDoor
set_option linter.unusedVariables false
set_option linter.unusedSimpArgs false
open Go.RowKit
set_option maxHeartbeats 2000000
section
variable {P : Program} {ops : Array Oper} {Q : Exit → Act → World → Prop}
theorem region_slotsP {id : Nat} {a0 : Act} {w0 : World} (slot : Nat → Nat) (F : Nat → World → Value → Prop) (sel : Nat → Bool) (hm : P.follows .mixedOrders = true) (hb : backG .any ops = true)
    (hs : ∀ i, slot i < a0.tmps.size) (hinj : ∀ i j, i < ops.size → j < ops.size → slot i = slot j → i = j) (hF : ∀ i w w' v, F i w v → Below w.heap.size w w' → F i w' v)
    (hdst : ∀ i o, ops[i]? = some o → o.dst = some (slot i))
    (hgu : ∀ i o g b, ops[i]? = some o → o.guard = some (g, b) → ∀ w v, F g w v → v = .bool (if sel i then b else !b) ∨ (sel i = false ∧ v = undef))
    (hng : ∀ i o, ops[i]? = some o → o.guard = none → sel i = true)
    (hskip : ∀ i w, i < ops.size → sel i = false → F i w undef)
    (hstep : ∀ (f : Nat → Bool) (a : Act) (w : World) (i : Nat) (o : Oper), ops[i]? = some o → sel i = true → (∀ e ∈ o.after, Region.binds .any e = true → F e.on w (a.tmps.getD (slot e.on) undef)) → Below w0.heap.size w0 w →
      (∀ j, (∀ i, i < ops.size → slot i ≠ j) → a.tmps.getD j undef = a0.tmps.getD j undef) → a.defers = a0.defers → o.wp P a w (fun a' w' => ∃ v, a' = a.put o.dst v ∧ F i w' v ∧ Below w.heap.size w w') Q)
    (hdone : ∀ (vs : Nat → Value) (w : World), Below w0.heap.size w0 w → (∀ i, i < ops.size → F i w (vs i)) → Q .normal { a0 with tmps := fillN slot vs ops.size a0.tmps } w) : (Code.region id ops true).wp P Q a0 w0 := by
  refine region_invG hm hb (Stand a0 w0 ops.size slot F) ⟨rfl, rfl, fun _ _ => rfl, ⟨rfl, rfl, rfl, Nat.le_refl _, fun _ _ => rfl⟩, fun _ _ h => by cases h⟩ ?_ ?_
  · intro f a w i o ho hf hpre hI
    have hi := (Array.getElem?_eq_some_iff.1 ho).1
    have hsl : slot i < a.tmps.size := by rw [hI.size]; exact hs i
    have hput : ∀ w' v, F i w' v → Below w.heap.size w w' → Stand a0 w0 ops.size slot F (fun j => if j = i then true else f j) (a.put o.dst v) w' := by
      intro w' v hv hbw
      rw [hdst i o ho]
      refine ⟨hI.defers, by rw [← hI.size]; exact Array.size_setIfInBounds .., fun j hj => ?_, hI.bel.trans (hbw.mono hI.bel.size), fun j hj hfj => ?_⟩
      · show (a.tmps.setIfInBounds (slot i) v).getD j undef = _
        rw [getD_set _ _ _ _ hsl, if_neg (Ne.symm (hj i hi))]
        exact hI.rest j hj
      · show F j w' ((a.tmps.setIfInBounds (slot i) v).getD (slot j) undef)
        rw [getD_set _ _ _ _ hsl]
        by_cases hji : j = i
        · subst hji; rw [if_pos rfl]; exact hv
        · rw [if_neg (fun e => hji (hinj j i hj hi e))]
          have h2 : f j = true := by simpa [hji] using hfj
          exact hF j w w' _ (hI.have_ j hj h2) hbw
    have hwant : Region.wanted o (yielded ops a.tmps) = sel i := by
      unfold Region.wanted
      cases hg : o.guard with
      | none => exact (hng i o ho hg).symm
      | some gb =>
        obtain ⟨g, b⟩ := gb
        obtain ⟨e, he, heg, hbd⟩ := (back_ofG hb ho).1 g b hg
        have hgi : g < i := by rw [← heg]; exact (back_ofG hb ho).2 e he hbd
        have hfg : f g = true := by rw [← heg]; exact hpre e he hbd
        have hv := hgu i o g b ho hg w _ (hI.have_ g (by omega) hfg)
        have hsg : slot g < a.tmps.size := by rw [hI.size]; exact hs g
        have hy : yielded ops a.tmps g = (match a.tmps.getD (slot g) undef with | .bool x => some x | _ => none) := by
          unfold yielded
          rw [Array.getElem?_eq_getElem (show g < ops.size by omega), Option.bind_some, hdst g _ (Array.getElem?_eq_getElem (by omega)), Option.bind_some, Array.getElem?_eq_getElem hsg]
          rw [Array.getD_eq_getD_getElem?, Array.getElem?_eq_getElem hsg, Option.getD_some]
          cases a.tmps[slot g] <;> rfl
        show (yielded ops a.tmps g == some b) = sel i
        rw [hy]
        rcases hv with hv | ⟨hsi, hv⟩
        · rw [hv]
          cases sel i <;> cases b <;> rfl
        · rw [hv, hsi]; rfl
    rw [hwant]
    cases hsel : sel i with
    | true =>
      rw [if_pos rfl]
      refine Oper.wp_mono ?_ (hstep f a w i o ho hsel (fun e he hbd => hI.have_ e.on (by have := (back_ofG hb ho).2 e he hbd; omega) (hpre e he hbd)) hI.bel hI.rest hI.defers)
      rintro a' w' ⟨v, rfl, hv, hbw⟩
      exact hput w' v hv hbw
    | false =>
      rw [if_neg (by decide)]
      exact hput w undef (hskip i w hi hsel) (Below.refl _ _)
  · intro f a w hall hI
    have e : a = { a0 with tmps := fillN slot (fun i => a.tmps.getD (slot i) undef) ops.size a0.tmps } := by
      have h1 : a.tmps = fillN slot (fun i => a.tmps.getD (slot i) undef) ops.size a0.tmps := by
        refine ext_getD (by rw [fillN_size, hI.size]) (fun j => ?_)
        by_cases hj : ∃ i, i < ops.size ∧ slot i = j
        · obtain ⟨i, hi, rfl⟩ := hj
          rw [fillN_at slot _ _ hs _ hinj i hi]
        · rw [fillN_get slot _ _ hs _ j (fun i hi e => hj ⟨i, hi, e⟩), hI.rest j (fun i hi e => hj ⟨i, hi, e⟩)]
      obtain ⟨t, d⟩ := a
      have h2 := hI.defers
      simp only at h1 h2
      rw [← h1, h2]
    rw [e]
    exact hdone _ w hI.bel (fun i hi => hI.have_ i hi (hall i hi))
end
end Go.Proofs.YtbaakfcbakpmpaaGreatDoor

/- script: must, caught; which steps and outs are the same. No conditions but those that each law states. -/
namespace Go.Proofs.YtbaakfcbakpmpaaGreatDoor
set_option linter.unusedVariables false
set_option linter.unusedSimpArgs false
open Go.RowKit Go.Shelf
set_option maxHeartbeats 8000000
set_option maxRecDepth 100000
/-- a slice of bytes, of which an empty one may lie anywhere -/
def BR (w : World) (v : Value) (l : List UInt8) : Prop := ∃ ao cap, v = .slice ao l.length cap ∧ (l = [] ∨ ∃ g o, ao = some ⟨g, o, none⟩ ∧ ∀ j, j < l.length → w.cell? ⟨g, o + j, none⟩ = some (by8 (l.getD j 0)))
theorem BRow.br {w : World} {v : Value} {l : List UInt8} (h : BRow w v l) : BR w v l := by
  obtain ⟨ao, cap, rfl, _, h⟩ := h
  exact ⟨ao, cap, rfl, h.imp (fun h => h.2.1) id⟩
instance {w : World} {v : Value} {l : List UInt8} : Coe (BRow w v l) (BR w v l) := ⟨BRow.br⟩
theorem BR.below {w w' : World} {v : Value} {l : List UInt8} (h : BR w v l) (hb : Below w.heap.size w w') : BR w' v l := by
  obtain ⟨ao, cap, rfl, h⟩ := h
  exact ⟨ao, cap, rfl, h.imp id (fun ⟨g, o, h1, h2⟩ => ⟨g, o, h1, fun j hj => cell_below hb (h2 j hj)⟩)⟩
theorem conv_br {w : World} {v : Value} {l : List UInt8} (h : BR w v l) : (convert 24 9 v).run Tryz.prog w = .ok (.string ⟨l.toArray⟩) w := by
  obtain ⟨ao, cap, rfl, h⟩ := h
  cases ao with
  | none =>
    obtain rfl : l = [] := by
      rcases h with h | ⟨g, o, h, _⟩
      · exact h
      · cases h
    rw [show ([] : List UInt8).length = 0 from rfl, run_convert_bytes_string w 24 9 5 none 0 cap Tryz.underlying24 Tryz.underlying5 Tryz.underlying9]
    rfl
  | some a =>
    refine run_convert_bytes_back w 24 9 5 a cap l Tryz.underlying24 Tryz.underlying5 Tryz.underlying9 (fun j hj => ?_)
    rcases h with h | ⟨g, o, h1, h2⟩
    · subst h; simp at hj
    · cases h1
      rw [Lib.add_plain, h2 j hj, List.getD_eq_getElem?_getD, List.getElem?_eq_getElem hj]
      rfl
theorem sc_must (n : Int) (w : World) :
    Calls Tryz.prog 52 #[.bool true, .int .i64 n] w fun e w' => e = .returned (.tuple #[]) ∧ w' = w := by
  go_enter Tryz.func52, Tryz.ntmps52
  go_wp2
  all_goals first | contradiction | simp [bodyPost, results, Tryz.results52, go_sem]
theorem sc_must_no (n : Int) (w : World) :
    Calls Tryz.prog 52 #[.bool false, .int .i64 n] w fun e w' => e = .panicked [{ v := errno n, recovered := false }] ∧ w' = w := by
  go_enter Tryz.func52, Tryz.ntmps52
  go_wp2
  all_goals first | contradiction | simp [errno, bodyPost]
theorem sc_caught_idle (p : Addr) (cl : Value) (w : World) :
    CallsD Tryz.prog 37 #[.pointer (some p), cl] .returning w fun e u' w' => e = .returned (.tuple #[]) ∧ u' = .returning ∧ w' = w := by
  refine callsD_of_wpS Tryz.func37 rfl fun c₀ cs hu => ?_
  apply wpS_seq
  apply wpS_region
  simp [wpOpsS, go_sem, recoverD, hu, Tryz.ntmps37, Exit.thenS]
  apply wpS_seq
  apply wpS_region
  simp [wpOpsS, go_sem, recoverD, hu, Exit.thenS]
  refine wpS_cond (t := false) (by simp [Act.eval, Array.replicate]) ?_
  simp only [Bool.false_eq_true, if_false]
  refine wpS_of_wp (wp_skip ?_)
  cases c₀
  simp_all [bodyPostS, results, Tryz.results37]
theorem sc_caught (p : Addr) (f : FuncId) (cap : Array Value) (n : Int) (older : List PanicEntry) (w w1 : World)
    (hf : ∀ W, (callFunc f cap).run Tryz.prog W = .ok (.enter f cap) W) (hC : Calls Tryz.prog f cap w (fun e w' => e = .returned (.tuple #[]) ∧ w' = w1)) (old : Value) (hc : w1.cell? p = some old) (hz : w1.frozen? p = false) :
    CallsD Tryz.prog 37 #[.pointer (some p), .func (.func f) #[] cap] (.panicking ({ v := errno n, recovered := false } :: older)) w fun e u' w' =>
      e = .returned (.tuple #[]) ∧ u' = .panicking ({ v := errno n, recovered := true } :: older) ∧ w' = w1.setCell p (.int .i64 n) := by
  have K := Lib.hid hC
  refine callsD_of_wpS Tryz.func37 rfl fun c₀ cs hu => ?_
  apply wpS_seq
  apply wpS_region
  simp [wpOpsS, go_sem, recoverD, hu, Tryz.ntmps37, Exit.thenS]
  apply wpS_seq
  apply wpS_region
  simp [wpOpsS, go_sem, recoverD, hu, Exit.thenS, errno]
  refine wpS_cond (t := true) (by simp [Act.eval, Array.replicate]) ?_
  simp only [if_true]
  refine wpS_of_wp ?_
  simp [Array.replicate, List.replicate, List.setIfInBounds_toArray]
  have hta : ∀ (v : Value) (W : World), (Instr.typeAssert (.iface 31 v) 20 31 true).run Tryz.prog W = .ok (.tuple #[v, .bool true]) W := errno_is
  go_wp2_with fail
  refine K.out.mono ?_
  rintro e w' ⟨rfl, rfl⟩
  go_wp2
  simp [bodyPostS, results, Tryz.results37, go_sem]
theorem sc_Same (k cn tp nn dr k' cn' tp' nn' dr' : Int) (u u' : Value) (l l' : List UInt8) (w : World) (hu : BR w u l) (hu' : BR w u' l') :
    Calls Tryz.prog 23 #[.agg #[.int .i64 k, .int .u64 cn, .int .i64 tp, .int .u64 nn, .int .u64 dr, u], .agg #[.int .i64 k', .int .u64 cn', .int .i64 tp', .int .u64 nn', .int .u64 dr', u']] w fun e w' => e = .returned (.bool (decide (k = k' ∧ cn = cn' ∧ tp = tp' ∧ nn = nn' ∧ dr = dr' ∧ l = l'))) ∧ Below w.heap.size w w' := by
  obtain ⟨p, c, rfl, _⟩ := id hu
  obtain ⟨p', c', rfl, _⟩ := id hu'
  obtain ⟨N, hN⟩ : ∃ z, l.length = z := ⟨_, rfl⟩
  obtain ⟨N', hN'⟩ : ∃ z, l'.length = z := ⟨_, rfl⟩
  rw [hN] at hu ⊢
  rw [hN'] at hu' ⊢
  clear hN hN'
  obtain ⟨W2, hW2⟩ : ∃ Z, (w.alloc (.cells #[.int .i64 k, .int .u64 cn, .int .i64 tp, .int .u64 nn, .int .u64 dr, .slice p N c] 26)).alloc (.cells #[.int .i64 k', .int .u64 cn', .int .i64 tp', .int .u64 nn', .int .u64 dr', .slice p' N' c'] 26) = Z := ⟨_, rfl⟩
  have hb2 : Below w.heap.size w W2 := by rw [← hW2]; exact ((Below.refl _ _).alloc (Nat.le_refl _) _).alloc (by simp) _
  obtain ⟨A, hA⟩ : ∃ z, w.heap.size = z := ⟨_, rfl⟩
  have HB := Lib.hid hb2
  have HU := Lib.hid (conv_br (hu.below hb2))
  have HU' := Lib.hid (conv_br (hu'.below hb2))
  have h1 : W2.heap[A]? = some (.cells #[.int .i64 k, .int .u64 cn, .int .i64 tp, .int .u64 nn, .int .u64 dr, .slice p N c] 26 (0, 0)) := by rw [← hW2, Below.heap_alloc _ _ _ (by simp [hA]), ← hA]; exact World.alloc_heap_new _ _
  have h2 : W2.heap[A + 1]? = some (.cells #[.int .i64 k', .int .u64 cn', .int .i64 tp', .int .u64 nn', .int .u64 dr', .slice p' N' c'] 26 (0, 0)) := by
    have h := World.alloc_heap_new (w.alloc (.cells #[.int .i64 k, .int .u64 cn, .int .i64 tp, .int .u64 nn, .int .u64 dr, .slice p N c] 26)) (.cells #[.int .i64 k', .int .u64 cn', .int .i64 tp', .int .u64 nn', .int .u64 dr', .slice p' N' c'] 26)
    rw [hW2] at h
    simpa [hA] using h
  have a0 : W2.cell? ⟨A, 0, none⟩ = some (.int .i64 k) := by simp [World.cell?, h1]
  have b0 : W2.cell? ⟨A + 1, 0, none⟩ = some (.int .i64 k') := by simp [World.cell?, h2]
  have a1 : W2.cell? ⟨A, 1, none⟩ = some (.int .u64 cn) := by simp [World.cell?, h1]
  have b1 : W2.cell? ⟨A + 1, 1, none⟩ = some (.int .u64 cn') := by simp [World.cell?, h2]
  have a2 : W2.cell? ⟨A, 2, none⟩ = some (.int .i64 tp) := by simp [World.cell?, h1]
  have b2 : W2.cell? ⟨A + 1, 2, none⟩ = some (.int .i64 tp') := by simp [World.cell?, h2]
  have a3 : W2.cell? ⟨A, 3, none⟩ = some (.int .u64 nn) := by simp [World.cell?, h1]
  have b3 : W2.cell? ⟨A + 1, 3, none⟩ = some (.int .u64 nn') := by simp [World.cell?, h2]
  have a4 : W2.cell? ⟨A, 4, none⟩ = some (.int .u64 dr) := by simp [World.cell?, h1]
  have b4 : W2.cell? ⟨A + 1, 4, none⟩ = some (.int .u64 dr') := by simp [World.cell?, h2]
  have a5 : W2.cell? ⟨A, 5, none⟩ = some (.slice p N c) := by simp [World.cell?, h1]
  have b5 : W2.cell? ⟨A + 1, 5, none⟩ = some (.slice p' N' c') := by simp [World.cell?, h2]
  have HW := Lib.hid hW2
  have HA := Lib.hid hA
  clear hu hu' hb2 h1 h2 hW2 hA
  obtain ⟨sb, hsb⟩ : ∃ z : ByteArray, (⟨l.toArray⟩ : ByteArray) = z := ⟨_, rfl⟩
  obtain ⟨sb', hsb'⟩ : ∃ z : ByteArray, (⟨l'.toArray⟩ : ByteArray) = z := ⟨_, rfl⟩
  rw [hsb] at HU
  rw [hsb'] at HU'
  have hq : (sb.toList == sb'.toList) = (l == l') := by rw [← hsb, ← hsb', ByteArray.toList_eq, ByteArray.toList_eq]
  clear hsb hsb'
  by_cases e0 : k = k'
  · subst e0
    have q0 : (k == k) = true := beq_self_eq_true _
    by_cases e1 : cn = cn'
    · subst e1
      have q1 : (cn == cn) = true := beq_self_eq_true _
      by_cases e2 : tp = tp'
      · subst e2
        have q2 : (tp == tp) = true := beq_self_eq_true _
        by_cases e3 : nn = nn'
        · subst e3
          have q3 : (nn == nn) = true := beq_self_eq_true _
          by_cases e4 : dr = dr'
          · subst e4
            have q4 : (dr == dr) = true := beq_self_eq_true _
            obtain ⟨d, hd⟩ : ∃ z, (l == l') = z := ⟨_, rfl⟩
            rw [hd] at hq
            go_enter Tryz.func23, Tryz.ntmps23
            go_upto_region 1 with (fail)
            rw [HA.out, HW.out]
            have cu := HU.out
            have cu' := HU'.out
            go_wp2_with fail
            go_ret
            refine ⟨ret_bool ?_, by first | exact HB.out | (rw [HA.out]; exact HB.out)⟩
            rw [← hd]; cases h : (l == l') <;> simp_all
          · have q4 : (dr == dr') = false := by simpa using e4
            have E := Lib.hid e4
            clear e4
            go_enter Tryz.func23, Tryz.ntmps23
            go_upto_region 1 with (fail)
            rw [HA.out, HW.out]
            have cu := HU.out
            have cu' := HU'.out
            go_wp2_with fail
            go_ret
            refine ⟨ret_bool ?_, by first | exact HB.out | (rw [HA.out]; exact HB.out)⟩
            exact (decide_eq_false fun h => E.out h.2.2.2.2.1).symm
        · have q3 : (nn == nn') = false := by simpa using e3
          have E := Lib.hid e3
          clear e3
          go_enter Tryz.func23, Tryz.ntmps23
          go_upto_region 1 with (fail)
          rw [HA.out, HW.out]
          have cu := HU.out
          have cu' := HU'.out
          go_wp2_with fail
          go_ret
          refine ⟨ret_bool ?_, by first | exact HB.out | (rw [HA.out]; exact HB.out)⟩
          exact (decide_eq_false fun h => E.out h.2.2.2.1).symm
      · have q2 : (tp == tp') = false := by simpa using e2
        have E := Lib.hid e2
        clear e2
        go_enter Tryz.func23, Tryz.ntmps23
        go_upto_region 1 with (fail)
        rw [HA.out, HW.out]
        have cu := HU.out
        have cu' := HU'.out
        go_wp2_with fail
        go_ret
        refine ⟨ret_bool ?_, by first | exact HB.out | (rw [HA.out]; exact HB.out)⟩
        exact (decide_eq_false fun h => E.out h.2.2.1).symm
    · have q1 : (cn == cn') = false := by simpa using e1
      have E := Lib.hid e1
      clear e1
      go_enter Tryz.func23, Tryz.ntmps23
      go_upto_region 1 with (fail)
      rw [HA.out, HW.out]
      have cu := HU.out
      have cu' := HU'.out
      go_wp2_with fail
      go_ret
      refine ⟨ret_bool ?_, by first | exact HB.out | (rw [HA.out]; exact HB.out)⟩
      exact (decide_eq_false fun h => E.out h.2.1).symm
  · have q0 : (k == k') = false := by simpa using e0
    have E := Lib.hid e0
    clear e0
    go_enter Tryz.func23, Tryz.ntmps23
    go_upto_region 1 with (fail)
    rw [HA.out, HW.out]
    have cu := HU.out
    have cu' := HU'.out
    go_wp2_with fail
    go_ret
    refine ⟨ret_bool ?_, by first | exact HB.out | (rw [HA.out]; exact HB.out)⟩
    exact (decide_eq_false fun h => E.out h.1).symm
theorem rf_SameStep (k cn tp nn dr k' cn' tp' nn' dr' : Int) (u u' : Value) (l l' : List UInt8) (w : World) (hu : BR w u l) (hu' : BR w u' l') :
    Calls Tryz.prog 21 #[.agg #[.int .i64 k, .int .u64 cn, .int .i64 tp, .int .u64 nn, .int .u64 dr, u], .agg #[.int .i64 k', .int .u64 cn', .int .i64 tp', .int .u64 nn', .int .u64 dr', u']] w fun e w' => e = .returned (.bool (decide (k = k' ∧ cn = cn' ∧ tp = tp' ∧ nn = nn' ∧ dr = dr' ∧ l = l'))) ∧ Below w.heap.size w w' := by
  obtain ⟨p, c, rfl, _⟩ := id hu
  obtain ⟨p', c', rfl, _⟩ := id hu'
  obtain ⟨N, hN⟩ : ∃ z, l.length = z := ⟨_, rfl⟩
  obtain ⟨N', hN'⟩ : ∃ z, l'.length = z := ⟨_, rfl⟩
  rw [hN] at hu ⊢
  rw [hN'] at hu' ⊢
  clear hN hN'
  obtain ⟨W2, hW2⟩ : ∃ Z, (w.alloc (.cells #[.int .i64 k, .int .u64 cn, .int .i64 tp, .int .u64 nn, .int .u64 dr, .slice p N c] 26)).alloc (.cells #[.int .i64 k', .int .u64 cn', .int .i64 tp', .int .u64 nn', .int .u64 dr', .slice p' N' c'] 26) = Z := ⟨_, rfl⟩
  have hb2 : Below w.heap.size w W2 := by rw [← hW2]; exact ((Below.refl _ _).alloc (Nat.le_refl _) _).alloc (by simp) _
  obtain ⟨A, hA⟩ : ∃ z, w.heap.size = z := ⟨_, rfl⟩
  have HB := Lib.hid hb2
  have HU := Lib.hid (conv_br (hu.below hb2))
  have HU' := Lib.hid (conv_br (hu'.below hb2))
  have h1 : W2.heap[A]? = some (.cells #[.int .i64 k, .int .u64 cn, .int .i64 tp, .int .u64 nn, .int .u64 dr, .slice p N c] 26 (0, 0)) := by rw [← hW2, Below.heap_alloc _ _ _ (by simp [hA]), ← hA]; exact World.alloc_heap_new _ _
  have h2 : W2.heap[A + 1]? = some (.cells #[.int .i64 k', .int .u64 cn', .int .i64 tp', .int .u64 nn', .int .u64 dr', .slice p' N' c'] 26 (0, 0)) := by
    have h := World.alloc_heap_new (w.alloc (.cells #[.int .i64 k, .int .u64 cn, .int .i64 tp, .int .u64 nn, .int .u64 dr, .slice p N c] 26)) (.cells #[.int .i64 k', .int .u64 cn', .int .i64 tp', .int .u64 nn', .int .u64 dr', .slice p' N' c'] 26)
    rw [hW2] at h
    simpa [hA] using h
  have a0 : W2.cell? ⟨A, 0, none⟩ = some (.int .i64 k) := by simp [World.cell?, h1]
  have b0 : W2.cell? ⟨A + 1, 0, none⟩ = some (.int .i64 k') := by simp [World.cell?, h2]
  have a1 : W2.cell? ⟨A, 1, none⟩ = some (.int .u64 cn) := by simp [World.cell?, h1]
  have b1 : W2.cell? ⟨A + 1, 1, none⟩ = some (.int .u64 cn') := by simp [World.cell?, h2]
  have a2 : W2.cell? ⟨A, 2, none⟩ = some (.int .i64 tp) := by simp [World.cell?, h1]
  have b2 : W2.cell? ⟨A + 1, 2, none⟩ = some (.int .i64 tp') := by simp [World.cell?, h2]
  have a3 : W2.cell? ⟨A, 3, none⟩ = some (.int .u64 nn) := by simp [World.cell?, h1]
  have b3 : W2.cell? ⟨A + 1, 3, none⟩ = some (.int .u64 nn') := by simp [World.cell?, h2]
  have a4 : W2.cell? ⟨A, 4, none⟩ = some (.int .u64 dr) := by simp [World.cell?, h1]
  have b4 : W2.cell? ⟨A + 1, 4, none⟩ = some (.int .u64 dr') := by simp [World.cell?, h2]
  have a5 : W2.cell? ⟨A, 5, none⟩ = some (.slice p N c) := by simp [World.cell?, h1]
  have b5 : W2.cell? ⟨A + 1, 5, none⟩ = some (.slice p' N' c') := by simp [World.cell?, h2]
  have HW := Lib.hid hW2
  have HA := Lib.hid hA
  clear hu hu' hb2 h1 h2 hW2 hA
  obtain ⟨sb, hsb⟩ : ∃ z : ByteArray, (⟨l.toArray⟩ : ByteArray) = z := ⟨_, rfl⟩
  obtain ⟨sb', hsb'⟩ : ∃ z : ByteArray, (⟨l'.toArray⟩ : ByteArray) = z := ⟨_, rfl⟩
  rw [hsb] at HU
  rw [hsb'] at HU'
  have hq : (sb.toList == sb'.toList) = (l == l') := by rw [← hsb, ← hsb', ByteArray.toList_eq, ByteArray.toList_eq]
  clear hsb hsb'
  by_cases e0 : k = k'
  · subst e0
    have q0 : (k == k) = true := beq_self_eq_true _
    by_cases e1 : cn = cn'
    · subst e1
      have q1 : (cn == cn) = true := beq_self_eq_true _
      by_cases e2 : tp = tp'
      · subst e2
        have q2 : (tp == tp) = true := beq_self_eq_true _
        by_cases e3 : nn = nn'
        · subst e3
          have q3 : (nn == nn) = true := beq_self_eq_true _
          by_cases e4 : dr = dr'
          · subst e4
            have q4 : (dr == dr) = true := beq_self_eq_true _
            obtain ⟨d, hd⟩ : ∃ z, (l == l') = z := ⟨_, rfl⟩
            rw [hd] at hq
            go_enter Tryz.func21, Tryz.ntmps21
            go_upto_region 1 with (fail)
            rw [HA.out, HW.out]
            have cu := HU.out
            have cu' := HU'.out
            go_wp2_with fail
            go_ret
            refine ⟨ret_bool ?_, by first | exact HB.out | (rw [HA.out]; exact HB.out)⟩
            rw [← hd]; cases h : (l == l') <;> simp_all
          · have q4 : (dr == dr') = false := by simpa using e4
            have E := Lib.hid e4
            clear e4
            go_enter Tryz.func21, Tryz.ntmps21
            go_upto_region 1 with (fail)
            rw [HA.out, HW.out]
            have cu := HU.out
            have cu' := HU'.out
            go_wp2_with fail
            go_ret
            refine ⟨ret_bool ?_, by first | exact HB.out | (rw [HA.out]; exact HB.out)⟩
            exact (decide_eq_false fun h => E.out h.2.2.2.2.1).symm
        · have q3 : (nn == nn') = false := by simpa using e3
          have E := Lib.hid e3
          clear e3
          go_enter Tryz.func21, Tryz.ntmps21
          go_upto_region 1 with (fail)
          rw [HA.out, HW.out]
          have cu := HU.out
          have cu' := HU'.out
          go_wp2_with fail
          go_ret
          refine ⟨ret_bool ?_, by first | exact HB.out | (rw [HA.out]; exact HB.out)⟩
          exact (decide_eq_false fun h => E.out h.2.2.2.1).symm
      · have q2 : (tp == tp') = false := by simpa using e2
        have E := Lib.hid e2
        clear e2
        go_enter Tryz.func21, Tryz.ntmps21
        go_upto_region 1 with (fail)
        rw [HA.out, HW.out]
        have cu := HU.out
        have cu' := HU'.out
        go_wp2_with fail
        go_ret
        refine ⟨ret_bool ?_, by first | exact HB.out | (rw [HA.out]; exact HB.out)⟩
        exact (decide_eq_false fun h => E.out h.2.2.1).symm
    · have q1 : (cn == cn') = false := by simpa using e1
      have E := Lib.hid e1
      clear e1
      go_enter Tryz.func21, Tryz.ntmps21
      go_upto_region 1 with (fail)
      rw [HA.out, HW.out]
      have cu := HU.out
      have cu' := HU'.out
      go_wp2_with fail
      go_ret
      refine ⟨ret_bool ?_, by first | exact HB.out | (rw [HA.out]; exact HB.out)⟩
      exact (decide_eq_false fun h => E.out h.2.1).symm
  · have q0 : (k == k') = false := by simpa using e0
    have E := Lib.hid e0
    clear e0
    go_enter Tryz.func21, Tryz.ntmps21
    go_upto_region 1 with (fail)
    rw [HA.out, HW.out]
    have cu := HU.out
    have cu' := HU'.out
    go_wp2_with fail
    go_ret
    refine ⟨ret_bool ?_, by first | exact HB.out | (rw [HA.out]; exact HB.out)⟩
    exact (decide_eq_false fun h => E.out h.1).symm
theorem sc_SameOut (k cn tp k' cn' tp' : Int) (u u' : Value) (l l' : List UInt8) (w : World) (hu : BR w u l) (hu' : BR w u' l') :
    Calls Tryz.prog 24 #[.agg #[.int .i64 k, .int .u64 cn, .int .i64 tp, u], .agg #[.int .i64 k', .int .u64 cn', .int .i64 tp', u']] w fun e w' => e = .returned (.bool (decide (k = k' ∧ cn = cn' ∧ tp = tp' ∧ l = l'))) ∧ Below w.heap.size w w' := by
  obtain ⟨p, c, rfl, _⟩ := id hu
  obtain ⟨p', c', rfl, _⟩ := id hu'
  obtain ⟨N, hN⟩ : ∃ z, l.length = z := ⟨_, rfl⟩
  obtain ⟨N', hN'⟩ : ∃ z, l'.length = z := ⟨_, rfl⟩
  rw [hN] at hu ⊢
  rw [hN'] at hu' ⊢
  clear hN hN'
  obtain ⟨W2, hW2⟩ : ∃ Z, (w.alloc (.cells #[.int .i64 k, .int .u64 cn, .int .i64 tp, .slice p N c] 29)).alloc (.cells #[.int .i64 k', .int .u64 cn', .int .i64 tp', .slice p' N' c'] 29) = Z := ⟨_, rfl⟩
  have hb2 : Below w.heap.size w W2 := by rw [← hW2]; exact ((Below.refl _ _).alloc (Nat.le_refl _) _).alloc (by simp) _
  obtain ⟨A, hA⟩ : ∃ z, w.heap.size = z := ⟨_, rfl⟩
  have HB := Lib.hid hb2
  have HU := Lib.hid (conv_br (hu.below hb2))
  have HU' := Lib.hid (conv_br (hu'.below hb2))
  have h1 : W2.heap[A]? = some (.cells #[.int .i64 k, .int .u64 cn, .int .i64 tp, .slice p N c] 29 (0, 0)) := by rw [← hW2, Below.heap_alloc _ _ _ (by simp [hA]), ← hA]; exact World.alloc_heap_new _ _
  have h2 : W2.heap[A + 1]? = some (.cells #[.int .i64 k', .int .u64 cn', .int .i64 tp', .slice p' N' c'] 29 (0, 0)) := by
    have h := World.alloc_heap_new (w.alloc (.cells #[.int .i64 k, .int .u64 cn, .int .i64 tp, .slice p N c] 29)) (.cells #[.int .i64 k', .int .u64 cn', .int .i64 tp', .slice p' N' c'] 29)
    rw [hW2] at h
    simpa [hA] using h
  have a0 : W2.cell? ⟨A, 0, none⟩ = some (.int .i64 k) := by simp [World.cell?, h1]
  have b0 : W2.cell? ⟨A + 1, 0, none⟩ = some (.int .i64 k') := by simp [World.cell?, h2]
  have a1 : W2.cell? ⟨A, 1, none⟩ = some (.int .u64 cn) := by simp [World.cell?, h1]
  have b1 : W2.cell? ⟨A + 1, 1, none⟩ = some (.int .u64 cn') := by simp [World.cell?, h2]
  have a2 : W2.cell? ⟨A, 2, none⟩ = some (.int .i64 tp) := by simp [World.cell?, h1]
  have b2 : W2.cell? ⟨A + 1, 2, none⟩ = some (.int .i64 tp') := by simp [World.cell?, h2]
  have a3 : W2.cell? ⟨A, 3, none⟩ = some (.slice p N c) := by simp [World.cell?, h1]
  have b3 : W2.cell? ⟨A + 1, 3, none⟩ = some (.slice p' N' c') := by simp [World.cell?, h2]
  have HW := Lib.hid hW2
  have HA := Lib.hid hA
  clear hu hu' hb2 h1 h2 hW2 hA
  obtain ⟨sb, hsb⟩ : ∃ z : ByteArray, (⟨l.toArray⟩ : ByteArray) = z := ⟨_, rfl⟩
  obtain ⟨sb', hsb'⟩ : ∃ z : ByteArray, (⟨l'.toArray⟩ : ByteArray) = z := ⟨_, rfl⟩
  rw [hsb] at HU
  rw [hsb'] at HU'
  have hq : (sb.toList == sb'.toList) = (l == l') := by rw [← hsb, ← hsb', ByteArray.toList_eq, ByteArray.toList_eq]
  clear hsb hsb'
  by_cases e0 : k = k'
  · subst e0
    have q0 : (k == k) = true := beq_self_eq_true _
    by_cases e1 : cn = cn'
    · subst e1
      have q1 : (cn == cn) = true := beq_self_eq_true _
      by_cases e2 : tp = tp'
      · subst e2
        have q2 : (tp == tp) = true := beq_self_eq_true _
        obtain ⟨d, hd⟩ : ∃ z, (l == l') = z := ⟨_, rfl⟩
        rw [hd] at hq
        go_enter Tryz.func24, Tryz.ntmps24
        go_upto_region 1 with (fail)
        rw [HA.out, HW.out]
        have cu := HU.out
        have cu' := HU'.out
        go_wp2_with fail
        go_ret
        refine ⟨ret_bool ?_, by first | exact HB.out | (rw [HA.out]; exact HB.out)⟩
        rw [← hd]; cases h : (l == l') <;> simp_all
      · have q2 : (tp == tp') = false := by simpa using e2
        have E := Lib.hid e2
        clear e2
        go_enter Tryz.func24, Tryz.ntmps24
        go_upto_region 1 with (fail)
        rw [HA.out, HW.out]
        have cu := HU.out
        have cu' := HU'.out
        go_wp2_with fail
        go_ret
        refine ⟨ret_bool ?_, by first | exact HB.out | (rw [HA.out]; exact HB.out)⟩
        exact (decide_eq_false fun h => E.out h.2.2.1).symm
    · have q1 : (cn == cn') = false := by simpa using e1
      have E := Lib.hid e1
      clear e1
      go_enter Tryz.func24, Tryz.ntmps24
      go_upto_region 1 with (fail)
      rw [HA.out, HW.out]
      have cu := HU.out
      have cu' := HU'.out
      go_wp2_with fail
      go_ret
      refine ⟨ret_bool ?_, by first | exact HB.out | (rw [HA.out]; exact HB.out)⟩
      exact (decide_eq_false fun h => E.out h.2.1).symm
  · have q0 : (k == k') = false := by simpa using e0
    have E := Lib.hid e0
    clear e0
    go_enter Tryz.func24, Tryz.ntmps24
    go_upto_region 1 with (fail)
    rw [HA.out, HW.out]
    have cu := HU.out
    have cu' := HU'.out
    go_wp2_with fail
    go_ret
    refine ⟨ret_bool ?_, by first | exact HB.out | (rw [HA.out]; exact HB.out)⟩
    exact (decide_eq_false fun h => E.out h.1).symm
theorem rf_SameOut (k cn tp k' cn' tp' : Int) (u u' : Value) (l l' : List UInt8) (w : World) (hu : BR w u l) (hu' : BR w u' l') :
    Calls Tryz.prog 22 #[.agg #[.int .i64 k, .int .u64 cn, .int .i64 tp, u], .agg #[.int .i64 k', .int .u64 cn', .int .i64 tp', u']] w fun e w' => e = .returned (.bool (decide (k = k' ∧ cn = cn' ∧ tp = tp' ∧ l = l'))) ∧ Below w.heap.size w w' := by
  obtain ⟨p, c, rfl, _⟩ := id hu
  obtain ⟨p', c', rfl, _⟩ := id hu'
  obtain ⟨N, hN⟩ : ∃ z, l.length = z := ⟨_, rfl⟩
  obtain ⟨N', hN'⟩ : ∃ z, l'.length = z := ⟨_, rfl⟩
  rw [hN] at hu ⊢
  rw [hN'] at hu' ⊢
  clear hN hN'
  obtain ⟨W2, hW2⟩ : ∃ Z, (w.alloc (.cells #[.int .i64 k, .int .u64 cn, .int .i64 tp, .slice p N c] 29)).alloc (.cells #[.int .i64 k', .int .u64 cn', .int .i64 tp', .slice p' N' c'] 29) = Z := ⟨_, rfl⟩
  have hb2 : Below w.heap.size w W2 := by rw [← hW2]; exact ((Below.refl _ _).alloc (Nat.le_refl _) _).alloc (by simp) _
  obtain ⟨A, hA⟩ : ∃ z, w.heap.size = z := ⟨_, rfl⟩
  have HB := Lib.hid hb2
  have HU := Lib.hid (conv_br (hu.below hb2))
  have HU' := Lib.hid (conv_br (hu'.below hb2))
  have h1 : W2.heap[A]? = some (.cells #[.int .i64 k, .int .u64 cn, .int .i64 tp, .slice p N c] 29 (0, 0)) := by rw [← hW2, Below.heap_alloc _ _ _ (by simp [hA]), ← hA]; exact World.alloc_heap_new _ _
  have h2 : W2.heap[A + 1]? = some (.cells #[.int .i64 k', .int .u64 cn', .int .i64 tp', .slice p' N' c'] 29 (0, 0)) := by
    have h := World.alloc_heap_new (w.alloc (.cells #[.int .i64 k, .int .u64 cn, .int .i64 tp, .slice p N c] 29)) (.cells #[.int .i64 k', .int .u64 cn', .int .i64 tp', .slice p' N' c'] 29)
    rw [hW2] at h
    simpa [hA] using h
  have a0 : W2.cell? ⟨A, 0, none⟩ = some (.int .i64 k) := by simp [World.cell?, h1]
  have b0 : W2.cell? ⟨A + 1, 0, none⟩ = some (.int .i64 k') := by simp [World.cell?, h2]
  have a1 : W2.cell? ⟨A, 1, none⟩ = some (.int .u64 cn) := by simp [World.cell?, h1]
  have b1 : W2.cell? ⟨A + 1, 1, none⟩ = some (.int .u64 cn') := by simp [World.cell?, h2]
  have a2 : W2.cell? ⟨A, 2, none⟩ = some (.int .i64 tp) := by simp [World.cell?, h1]
  have b2 : W2.cell? ⟨A + 1, 2, none⟩ = some (.int .i64 tp') := by simp [World.cell?, h2]
  have a3 : W2.cell? ⟨A, 3, none⟩ = some (.slice p N c) := by simp [World.cell?, h1]
  have b3 : W2.cell? ⟨A + 1, 3, none⟩ = some (.slice p' N' c') := by simp [World.cell?, h2]
  have HW := Lib.hid hW2
  have HA := Lib.hid hA
  clear hu hu' hb2 h1 h2 hW2 hA
  obtain ⟨sb, hsb⟩ : ∃ z : ByteArray, (⟨l.toArray⟩ : ByteArray) = z := ⟨_, rfl⟩
  obtain ⟨sb', hsb'⟩ : ∃ z : ByteArray, (⟨l'.toArray⟩ : ByteArray) = z := ⟨_, rfl⟩
  rw [hsb] at HU
  rw [hsb'] at HU'
  have hq : (sb.toList == sb'.toList) = (l == l') := by rw [← hsb, ← hsb', ByteArray.toList_eq, ByteArray.toList_eq]
  clear hsb hsb'
  by_cases e0 : k = k'
  · subst e0
    have q0 : (k == k) = true := beq_self_eq_true _
    by_cases e1 : cn = cn'
    · subst e1
      have q1 : (cn == cn) = true := beq_self_eq_true _
      by_cases e2 : tp = tp'
      · subst e2
        have q2 : (tp == tp) = true := beq_self_eq_true _
        obtain ⟨d, hd⟩ : ∃ z, (l == l') = z := ⟨_, rfl⟩
        rw [hd] at hq
        go_enter Tryz.func22, Tryz.ntmps22
        go_upto_region 1 with (fail)
        rw [HA.out, HW.out]
        have cu := HU.out
        have cu' := HU'.out
        go_wp2_with fail
        go_ret
        refine ⟨ret_bool ?_, by first | exact HB.out | (rw [HA.out]; exact HB.out)⟩
        rw [← hd]; cases h : (l == l') <;> simp_all
      · have q2 : (tp == tp') = false := by simpa using e2
        have E := Lib.hid e2
        clear e2
        go_enter Tryz.func22, Tryz.ntmps22
        go_upto_region 1 with (fail)
        rw [HA.out, HW.out]
        have cu := HU.out
        have cu' := HU'.out
        go_wp2_with fail
        go_ret
        refine ⟨ret_bool ?_, by first | exact HB.out | (rw [HA.out]; exact HB.out)⟩
        exact (decide_eq_false fun h => E.out h.2.2.1).symm
    · have q1 : (cn == cn') = false := by simpa using e1
      have E := Lib.hid e1
      clear e1
      go_enter Tryz.func22, Tryz.ntmps22
      go_upto_region 1 with (fail)
      rw [HA.out, HW.out]
      have cu := HU.out
      have cu' := HU'.out
      go_wp2_with fail
      go_ret
      refine ⟨ret_bool ?_, by first | exact HB.out | (rw [HA.out]; exact HB.out)⟩
      exact (decide_eq_false fun h => E.out h.2.1).symm
  · have q0 : (k == k') = false := by simpa using e0
    have E := Lib.hid e0
    clear e0
    go_enter Tryz.func22, Tryz.ntmps22
    go_upto_region 1 with (fail)
    rw [HA.out, HW.out]
    have cu := HU.out
    have cu' := HU'.out
    go_wp2_with fail
    go_ret
    refine ⟨ret_bool ?_, by first | exact HB.out | (rw [HA.out]; exact HB.out)⟩
    exact (decide_eq_false fun h => E.out h.1).symm
end Go.Proofs.YtbaakfcbakpmpaaGreatDoor

/- script: the parts of lines: what is told of a step, taken out of it, and read into it. No conditions but those that each law states. -/
namespace Go.Proofs.YtbaakfcbakpmpaaGreatDoor
set_option linter.unusedVariables false
set_option linter.unusedSimpArgs false
open Go.RowKit Go.Shelf
set_option maxHeartbeats 8000000
set_option maxRecDepth 100000
theorem slice_to (u : ByteArray) (w : World) (k : Nat) (hk : k ≤ u.size) (hu : u.size ≤ 9223372036854775807) : (Instr.slice 9 (.string u) none (some (.int .i64 (k : Int))) none).run Tryz.prog w = .ok (.string (u.extract 0 k)) w := by
  have h2 : (k : Int) ≤ u.size := by omega
  simp [go_sem, Tryz.underlying9, h2]
theorem sl_hasprefix (s t : ByteArray) (w : World) (hs : s.size ≤ 9223372036854775807) (ht : t.size ≤ 100000) :
    Calls Tryz.prog 123 #[.string s, .string t] w fun e w' => e = .returned (.bool (decide (s.data.toList.take t.size = t.data.toList))) ∧ w' = w := by
  by_cases h : t.size ≤ s.size
  · have hI : ((t.size : Int) ≤ (s.size : Int)) := by omega
    have hsl := fun W => slice_to s W t.size h hs
    have hd : ((s.extract 0 t.size).toList == t.toList) = decide (s.data.toList.take t.size = t.data.toList) := by
      rw [ByteArray.toList_eq, ByteArray.toList_eq, Lib.extract_data]
      simp
      by_cases e : List.take t.size s.data.toList = t.data.toList
      · rw [e]; simp
      · simp [e]
    obtain ⟨x, hx⟩ : ∃ z : ByteArray, s.extract 0 t.size = z := ⟨_, rfl⟩
    rw [hx] at hd
    simp only [hx] at hsl
    obtain ⟨d, hdd⟩ : ∃ d, decide (s.data.toList.take t.size = t.data.toList) = d := ⟨_, rfl⟩
    rw [hdd] at hd ⊢
    clear hx hdd
    go_enter Tryz.func123, Tryz.ntmps123
    go_wp2_with fail
    go_ret
    exact ⟨rfl, rfl⟩
  · have hI : ¬ ((t.size : Int) ≤ (s.size : Int)) := by omega
    have hd : decide (s.data.toList.take t.size = t.data.toList) = false := decide_eq_false (fun e => h (by
      have h1 := congrArg List.length e
      rw [List.length_take] at h1
      have h2 : s.data.toList.length = s.size := rfl
      have h3 : t.data.toList.length = t.size := rfl
      omega))
    rw [hd]
    clear hd
    go_enter Tryz.func123, Tryz.ntmps123
    go_wp2_with fail
    go_ret
    exact ⟨rfl, rfl⟩
theorem sl_cutprefix (s t : ByteArray) (w : World) (hs : s.size ≤ 9223372036854775807) (ht : t.size ≤ 100000) :
    Calls Tryz.prog 85 #[.string s, .string t] w fun e w' => e = .returned (.tuple #[.string (if s.data.toList.take t.size = t.data.toList then s.extract t.size s.size else s), .bool (decide (s.data.toList.take t.size = t.data.toList))]) ∧ w' = w := by
  have K := Lib.hid (sl_hasprefix s t w hs ht)
  have K2 : Hid (Calls Tryz.prog 106 #[.string s, .string t] w fun e w' => e = .returned (.tuple #[.string (if s.data.toList.take t.size = t.data.toList then s.extract t.size s.size else s), .bool (decide (s.data.toList.take t.size = t.data.toList))]) ∧ w' = w) := by
    refine Lib.hid ?_
    by_cases e : s.data.toList.take t.size = t.data.toList
    · rw [decide_eq_true e] at K ⊢
      rw [if_pos e]
      have hle : t.size ≤ s.size := by
        have h1 := congrArg List.length e
        rw [List.length_take] at h1
        have h2 : s.data.toList.length = s.size := rfl
        have h3 : t.data.toList.length = t.size := rfl
        omega
      have hsl : ∀ W, (Instr.slice 9 (.string s) (some (.int .i64 (t.size : Int))) none none).run Tryz.prog W = .ok (.string (s.extract t.size s.size)) W := fun W => by
        have h2 : (t.size : Int) ≤ s.size := by omega
        simp [go_sem, Tryz.underlying9, h2]
      clear e
      go_enter Tryz.func106, Tryz.ntmps106
      go_wp2_with fail
      refine K.out.mono ?_
      rintro e w2 ⟨rfl, hw⟩
      subst hw
      go_wp2_with fail
      simp [bodyPost, results, Tryz.results106, go_sem]
    · rw [decide_eq_false e] at K ⊢
      rw [if_neg e]
      clear e
      go_enter Tryz.func106, Tryz.ntmps106
      go_wp2_with fail
      refine K.out.mono ?_
      rintro e w2 ⟨rfl, hw⟩
      subst hw
      go_wp2_with fail
      simp [bodyPost, results, Tryz.results106, go_sem]
  obtain ⟨x, hx⟩ : ∃ z : ByteArray, (if s.data.toList.take t.size = t.data.toList then s.extract t.size s.size else s) = z := ⟨_, rfl⟩
  obtain ⟨d, hd⟩ : ∃ d, decide (s.data.toList.take t.size = t.data.toList) = d := ⟨_, rfl⟩
  rw [hx, hd] at K2 ⊢
  clear hx hd K
  go_enter Tryz.func85, Tryz.ntmps85
  go_wp2_with fail
  refine K2.out.mono ?_
  rintro e w2 ⟨rfl, hw⟩
  subst hw
  go_wp2_with fail
  simp [bodyPost, results, Tryz.results85, go_sem]
def stVal (x : Sc.St) (u : Value) : Value := .agg #[.int .i64 x.kind, .int .u64 (x.conn : Int), .int .i64 x.topic, .int .u64 (x.n : Int), .int .u64 (x.draw : Int), u]
def stObj (x : Sc.St) (u : Value) : Obj := .cells #[.int .i64 x.kind, .int .u64 (x.conn : Int), .int .i64 x.topic, .int .u64 (x.n : Int), .int .u64 (x.draw : Int), u] 26 (0, 0)
/-- a step lies in a block, from its start on -/
structure SR (w : World) (R : Nat) (x : Sc.St) (u : Value) : Prop where
  c0 : w.cell? ⟨R, 0, none⟩ = some (.int .i64 x.kind)
  c1 : w.cell? ⟨R, 1, none⟩ = some (.int .u64 (x.conn : Int))
  c2 : w.cell? ⟨R, 2, none⟩ = some (.int .i64 x.topic)
  c3 : w.cell? ⟨R, 3, none⟩ = some (.int .u64 (x.n : Int))
  c4 : w.cell? ⟨R, 4, none⟩ = some (.int .u64 (x.draw : Int))
  c5 : w.cell? ⟨R, 5, none⟩ = some u
  fr : ∀ i, w.frozen? ⟨R, i, none⟩ = false
theorem SR.of {w : World} {R : Nat} {x : Sc.St} {u : Value} (h : w.heap[R]? = some (stObj x u)) : SR w R x u := by
  unfold stObj at h
  refine ⟨?_, ?_, ?_, ?_, ?_, ?_, fun i => frozen_of_row _ _ _ _ _ h⟩ <;> simp [World.cell?, h]
theorem SR.below {w w' : World} {R : Nat} {x : Sc.St} {u : Value} (h : SR w R x u) (hb : Below w.heap.size w w') : SR w' R x u :=
  ⟨cell_below hb h.c0, cell_below hb h.c1, cell_below hb h.c2, cell_below hb h.c3, cell_below hb h.c4, cell_below hb h.c5, fun i => (hb.frozen (p := ⟨R, i, none⟩) (lt_of_cell h.c0)).trans (h.fr i)⟩
/-- where a part's number, or bytes, stand -/
def offP (p : UInt8) : Nat := if p = 78 then 3 else if p = 68 then 4 else if p = 67 then 1 else if p = 84 then 2 else 5
/-- how a part stands when it is taken out -/
def zeroP (p : UInt8) : Value := if p = 84 then .int .i64 0 else if p = 66 then .slice none 0 0 else .int .u64 0
/-- a slice's block is not older than B -/
def NewV (B : Nat) (v : Value) : Prop := ∀ g, v.ownBlock = some g → B ≤ g
/-- what reading a part tells, and what it leaves -/
def ReadOut (w : World) (R : Nat) (p : UInt8) (l : List UInt8) (x : Sc.St) (e : Ending) (w' : World) : Prop := match Sc.read1 p l x with
  | none => e = .panicked [{ v := errno 390, recovered := false }] ∧ Below w.heap.size w w'
  | some y => e = .returned (.tuple #[]) ∧ ∃ w1 v, Below w.heap.size w w1 ∧ w' = w1.setCell ⟨R, offP p, none⟩ v ∧
      (if p = 84 then v = .int .i64 y.topic else if p = 66 then (BRow w1 v y.bytes ∧ NewV R v) else if p = 78 then v = .int .u64 (y.n : Int) else if p = 68 then v = .int .u64 (y.draw : Int) else v = .int .u64 (y.conn : Int))
theorem sc_at_span (R : Nat) (w : World) : Calls Tryz.prog 78 #[.pointer (some ⟨R, 0, none⟩)] w fun e w' => e = .returned (.pointer (some ⟨R, 3, none⟩)) ∧ w' = w := by
  go_enter Tryz.func78, Tryz.ntmps78
  go_wp2
  go_ret
  exact ⟨rfl, rfl⟩
theorem sc_at_draw (R : Nat) (w : World) : Calls Tryz.prog 79 #[.pointer (some ⟨R, 0, none⟩)] w fun e w' => e = .returned (.pointer (some ⟨R, 4, none⟩)) ∧ w' = w := by
  go_enter Tryz.func79, Tryz.ntmps79
  go_wp2
  go_ret
  exact ⟨rfl, rfl⟩
theorem sc_at_conn (R : Nat) (w : World) : Calls Tryz.prog 80 #[.pointer (some ⟨R, 0, none⟩)] w fun e w' => e = .returned (.pointer (some ⟨R, 1, none⟩)) ∧ w' = w := by
  go_enter Tryz.func80, Tryz.ntmps80
  go_wp2
  go_ret
  exact ⟨rfl, rfl⟩
/-- a function that tells where a number stands -/
structure AtOk (g i : Nat) : Prop where
  eg : ∀ args W, (callFunc g args).run Tryz.prog W = .ok (.enter g args) W
  at_ : ∀ (R : Nat) (W : World), Calls Tryz.prog g #[.pointer (some ⟨R, 0, none⟩)] W fun e w' => e = .returned (.pointer (some ⟨R, i, none⟩)) ∧ w' = W
theorem at_span : AtOk 78 3 := ⟨enters_of Tryz.func78 (by kernel_rfl) rfl, sc_at_span⟩
theorem at_draw : AtOk 79 4 := ⟨enters_of Tryz.func79 (by kernel_rfl) rfl, sc_at_draw⟩
theorem at_conn : AtOk 80 1 := ⟨enters_of Tryz.func80 (by kernel_rfl) rfl, sc_at_conn⟩
def BoxAt (w : World) (b g : Nat) : Prop := w.heap[b]? = some (.cells #[.func (.func g) #[] #[]] 142 (0, 0))
theorem BoxAt.below {w w' : World} {b g : Nat} (h : BoxAt w b g) (hb : Below w.heap.size w w') : BoxAt w' b g := (hb.block _ (Array.getElem?_eq_some_iff.1 h).1).trans h
theorem sc_num1 (g i b m : Nat) (hg : AtOk g i) (x : Sc.St) (u : Value) (w : World) (hb : BoxAt w b g) (hi : ∀ W R, SR W R x u → W.cell? ⟨R, i, none⟩ = some (.int .u64 (m : Int))) (hm : m < 18446744073709551616) (hu : ∀ W R, W.heap[R]? = some (stObj x u) → SR W R x u) (ht : Tabs w) :
    Calls Tryz.prog 99 #[stVal x u, .pointer (some ⟨b, 0, none⟩)] w fun e w' => e = .returned (.string ⟨(Dp.digs 10 m).toArray⟩) ∧ Below w.heap.size w w' := by
  obtain ⟨R, hR⟩ : ∃ z, w.heap.size = z := ⟨_, rfl⟩
  obtain ⟨W1, hW1⟩ : ∃ z, w.alloc (stObj x u) = z := ⟨_, rfl⟩
  have hb1 : Below w.heap.size w W1 := by rw [← hW1]; exact (Below.refl _ _).alloc (Nat.le_refl _) _
  have hS : W1.heap[R]? = some (stObj x u) := by rw [← hW1, ← hR]; exact World.alloc_heap_new _ _
  have hc := hi W1 R (hu W1 R hS)
  have hbx := hb.below hb1
  unfold BoxAt at hbx
  have c1 : W1.cell? ⟨b, 0, none⟩ = some (.func (.func g) #[] #[]) := by simp [World.cell?, hbx]
  have HB := Lib.hid hb1
  have HW := Lib.hid hW1
  have HR := Lib.hid hR
  have K1 := Lib.hid (hg.at_ R W1)
  have K2 := Lib.hid (dec_text m W1 hm (ht.below hb1))
  have heg := hg.eg
  unfold stObj at HW
  unfold stVal
  clear hb1 hS hbx hW1 hR hb hi hu ht hg hm
  go_enter Tryz.func99, Tryz.ntmps99
  go_upto_region 1 with (fail)
  rw [HR.out, HW.out]
  go_wp2_with fail
  refine K1.out.mono ?_
  rintro e w' ⟨rfl, hw⟩
  subst w'
  go_wp2_with fail
  refine K2.out.mono ?_
  rintro e w2 ⟨rfl, hb2⟩
  have HB2 := Lib.hid (HB.out.trans (hb2.mono HB.out.size))
  clear hb2
  go_wp2_with fail
  go_ret
  exact ⟨rfl, HB2.out⟩
theorem sc_num2 (g i b R : Nat) (old : Value) (hg : AtOk g i) (w : World) (hb : BoxAt w b g) (hc : w.cell? ⟨R, i, none⟩ = some old) (hz : w.frozen? ⟨R, i, none⟩ = false) :
    Calls Tryz.prog 100 #[.pointer (some ⟨R, 0, none⟩), .pointer (some ⟨b, 0, none⟩)] w fun e w' => e = .returned (.tuple #[]) ∧ w' = w.setCell ⟨R, i, none⟩ (.int .u64 0) := by
  unfold BoxAt at hb
  have c1 : w.cell? ⟨b, 0, none⟩ = some (.func (.func g) #[] #[]) := by simp [World.cell?, hb]
  have K1 := Lib.hid (hg.at_ R w)
  have heg := hg.eg
  clear hb hg
  go_enter Tryz.func100, Tryz.ntmps100
  go_wp2_with fail
  refine K1.out.mono ?_
  rintro e w' ⟨rfl, hw⟩
  subst w'
  go_wp2_with fail
  simp [bodyPost, results, Tryz.results100, go_sem]
theorem sc_num3 (g i b R : Nat) (s : ByteArray) (old : Value) (hg : AtOk g i) (w : World) (hs : s.size ≤ 1000000) (hb : BoxAt w b g) (hc : w.cell? ⟨R, i, none⟩ = some old) (hz : w.frozen? ⟨R, i, none⟩ = false) :
    Calls Tryz.prog 101 #[.pointer (some ⟨R, 0, none⟩), .string s, .pointer (some ⟨b, 0, none⟩)] w fun e w' =>
      if Dp.parE s.data.toList = 0 then e = .returned (.tuple #[]) ∧ ∃ w1, Below w.heap.size w w1 ∧ w' = w1.setCell ⟨R, i, none⟩ (.int .u64 (Dp.parN s.data.toList)) else e = .panicked [{ v := errno 390, recovered := false }] ∧ Below w.heap.size w w' := by
  have K0 := Lib.hid (dec_parse s w hs)
  obtain ⟨N, hN⟩ : ∃ z, Dp.parN s.data.toList = z := ⟨_, rfl⟩
  obtain ⟨E, hE⟩ : ∃ z, Dp.parE s.data.toList = z := ⟨_, rfl⟩
  rw [hN, hE] at K0
  rw [hN, hE]
  have HBX := Lib.hid hb
  have heg := hg.eg
  have HG := Lib.hid hg
  have HC := Lib.hid hc
  have HZ := Lib.hid hz
  clear hb hg hc hz hN hE
  by_cases h0 : E = 0
  · subst h0
    simp only [if_true]
    go_enter Tryz.func101, Tryz.ntmps101
    go_wp2_with fail
    refine K0.out.mono ?_
    rintro e w1 ⟨rfl, hb1⟩
    have HB := Lib.hid hb1
    have hbx := HBX.out.below hb1
    unfold BoxAt at hbx
    have c1 : w1.cell? ⟨b, 0, none⟩ = some (.func (.func g) #[] #[]) := by simp [World.cell?, hbx]
    have hc1 := cell_below hb1 HC.out
    have hz1 : w1.frozen? ⟨R, i, none⟩ = false := (hb1.frozen (p := ⟨R, i, none⟩) (lt_of_cell HC.out)).trans HZ.out
    clear hb1 hbx
    have K1 := Lib.hid (HG.out.at_ R w1)
    go_wp2_with fail
    refine (sc_must 390 w1).mono ?_
    rintro e w' ⟨rfl, hw⟩
    subst w'
    go_wp2_with fail
    refine K1.out.mono ?_
    rintro e w' ⟨rfl, hw⟩
    subst w'
    go_wp2_with fail
    simp [bodyPost, results, Tryz.results101, go_sem]
    exact ⟨w1, HB.out, rfl⟩
  · simp only [if_neg h0]
    have q0 : (E == 0) = false := by simpa using h0
    clear h0
    go_enter Tryz.func101, Tryz.ntmps101
    go_wp2_with fail
    refine K0.out.mono ?_
    rintro e w1 ⟨rfl, hb1⟩
    have HB := Lib.hid hb1
    have hbx := HBX.out.below hb1
    unfold BoxAt at hbx
    have c1 : w1.cell? ⟨b, 0, none⟩ = some (.func (.func g) #[] #[]) := by simp [World.cell?, hbx]
    have hc1 := cell_below hb1 HC.out
    have hz1 : w1.frozen? ⟨R, i, none⟩ = false := (hb1.frozen (p := ⟨R, i, none⟩) (lt_of_cell HC.out)).trans HZ.out
    clear hb1 hbx
    go_wp2_with fail
    refine (sc_must_no 390 w1).mono ?_
    rintro e w' ⟨rfl, hw⟩
    subst w'
    exact ⟨rfl, rfl, HB.out⟩
theorem sc_top1 (x : Sc.St) (u : Value) (w : World) (h0 : 0 ≤ x.topic ∧ x.topic ≤ 2147483647) (ht : Tabs w) :
    Calls Tryz.prog 87 #[stVal x u] w fun e w' => e = .returned (.string ⟨(Dp.digs 10 x.topic.toNat).toArray⟩) ∧ Below w.heap.size w w' := by
  obtain ⟨R, hR⟩ : ∃ z, w.heap.size = z := ⟨_, rfl⟩
  obtain ⟨W1, hW1⟩ : ∃ z, w.alloc (stObj x u) = z := ⟨_, rfl⟩
  have hb1 : Below w.heap.size w W1 := by rw [← hW1]; exact (Below.refl _ _).alloc (Nat.le_refl _) _
  have hS : W1.heap[R]? = some (stObj x u) := by rw [← hW1, ← hR]; exact World.alloc_heap_new _ _
  have hc := (SR.of hS).c2
  have HB := Lib.hid hb1
  have HW := Lib.hid hW1
  have HR := Lib.hid hR
  have K2 := dec_text x.topic.toNat W1 (by omega) (ht.below hb1)
  rw [show ((x.topic.toNat : Nat) : Int) = x.topic by omega] at K2
  have K2 := Lib.hid K2
  have hcv : ∀ W, (convert 3 23 (.int .i64 x.topic)).run Tryz.prog W = .ok (.int .u64 x.topic) W := fun W => by
    simp [go_sem, convert, Tryz.underlying3, Tryz.underlying23, IntKind.wrap, IntKind.bits, IntKind.signed]
    omega
  unfold stObj at HW
  unfold stVal
  clear hb1 hS hW1 hR ht h0
  obtain ⟨k, hk⟩ : ∃ z, x.topic = z := ⟨_, rfl⟩
  rw [hk] at hc hcv HW K2 ⊢
  go_enter Tryz.func87, Tryz.ntmps87
  go_upto_region 1 with (fail)
  rw [HR.out, HW.out]
  go_wp2_with fail
  refine K2.out.mono ?_
  rintro e w2 ⟨rfl, hb2⟩
  have HB2 := Lib.hid (HB.out.trans (hb2.mono HB.out.size))
  clear hb2
  go_wp2_with fail
  go_ret
  exact ⟨rfl, HB2.out⟩
theorem sc_top2 (R : Nat) (old : Value) (w : World) (hc : w.cell? ⟨R, 2, none⟩ = some old) (hz : w.frozen? ⟨R, 2, none⟩ = false) :
    Calls Tryz.prog 89 #[.pointer (some ⟨R, 0, none⟩)] w fun e w' => e = .returned (.tuple #[]) ∧ w' = w.setCell ⟨R, 2, none⟩ (.int .i64 0) := by
  go_enter Tryz.func89, Tryz.ntmps89
  go_wp2_with fail
  simp [bodyPost, results, Tryz.results89, go_sem]
theorem sc_top3 (R : Nat) (s : ByteArray) (old : Value) (w : World) (hs : s.size ≤ 1000000) (hc : w.cell? ⟨R, 2, none⟩ = some old) (hz : w.frozen? ⟨R, 2, none⟩ = false) :
    Calls Tryz.prog 90 #[.pointer (some ⟨R, 0, none⟩), .string s] w fun e w' =>
      if Dp.parE s.data.toList = 0 ∧ Dp.parN s.data.toList ≤ 2147483647 then e = .returned (.tuple #[]) ∧ ∃ w1, Below w.heap.size w w1 ∧ w' = w1.setCell ⟨R, 2, none⟩ (.int .i64 (Dp.parN s.data.toList)) else e = .panicked [{ v := errno 390, recovered := false }] ∧ Below w.heap.size w w' := by
  have K0 := Lib.hid (dec_parse s w hs)
  have hN0 : Dp.parE s.data.toList = 0 → 0 ≤ Dp.parN s.data.toList := fun h => (Dp.digs_par h).2.1
  obtain ⟨N, hN⟩ : ∃ z, Dp.parN s.data.toList = z := ⟨_, rfl⟩
  obtain ⟨E, hE⟩ : ∃ z, Dp.parE s.data.toList = z := ⟨_, rfl⟩
  rw [hN, hE] at K0 hN0
  rw [hN, hE]
  have HC := Lib.hid hc
  have HZ := Lib.hid hz
  clear hc hz hN hE
  by_cases h0 : E = 0
  · subst h0
    have hN1 := hN0 rfl
    clear hN0
    by_cases h1 : N ≤ 2147483647
    · simp only [h1, and_self, if_true]
      have hcv : ∀ W, (convert 23 3 (.int .u64 N)).run Tryz.prog W = .ok (.int .i64 N) W := fun W => by
        simp [go_sem, convert, Tryz.underlying3, Tryz.underlying23, IntKind.wrap, IntKind.bits, IntKind.signed]
        omega
      go_enter Tryz.func90, Tryz.ntmps90
      go_wp2_with fail
      refine K0.out.mono ?_
      rintro e w1 ⟨rfl, hb1⟩
      have HB := Lib.hid hb1
      have hc1 := cell_below hb1 HC.out
      have hz1 : w1.frozen? ⟨R, 2, none⟩ = false := (hb1.frozen (p := ⟨R, 2, none⟩) (lt_of_cell HC.out)).trans HZ.out
      clear hb1
      go_wp2_with fail
      refine (sc_must 390 w1).mono ?_
      rintro e w' ⟨rfl, hw⟩
      subst w'
      go_wp2_with fail
      simp [bodyPost, results, Tryz.results90, go_sem]
      exact ⟨w1, HB.out, rfl⟩
    · simp only [h1, and_false, if_false]
      have h3 : decide (N ≤ 2147483647) = false := decide_eq_false h1
      go_enter Tryz.func90, Tryz.ntmps90
      go_wp2_with fail
      refine K0.out.mono ?_
      rintro e w1 ⟨rfl, hb1⟩
      have HB := Lib.hid hb1
      clear hb1
      go_wp2_with fail
      refine (sc_must_no 390 w1).mono ?_
      rintro e w' ⟨rfl, hw⟩
      subst w'
      exact ⟨rfl, rfl, HB.out⟩
  · simp only [h0, false_and, if_false]
    have q0 : (E == 0) = false := by simpa using h0
    clear h0 hN0
    go_enter Tryz.func90, Tryz.ntmps90
    go_wp2_with fail
    refine K0.out.mono ?_
    rintro e w1 ⟨rfl, hb1⟩
    have HB := Lib.hid hb1
    clear hb1
    go_wp2_with fail
    refine (sc_must_no 390 w1).mono ?_
    rintro e w' ⟨rfl, hw⟩
    subst w'
    exact ⟨rfl, rfl, HB.out⟩
theorem sc_byt1 (x : Sc.St) (u : Value) (w : World) (hu : BR w u x.bytes) (hl : x.bytes.length ≤ 100000) (ht : Tabs w) :
    Calls Tryz.prog 81 #[stVal x u] w fun e w' => e = .returned (.string ⟨(61 :: Gt.enc x.bytes).toArray⟩) ∧ Below w.heap.size w w' := by
  obtain ⟨p, c, rfl, _⟩ := id hu
  obtain ⟨N, hN⟩ : ∃ z, x.bytes.length = z := ⟨_, rfl⟩
  rw [hN] at hu ⊢
  obtain ⟨R, hR⟩ : ∃ z, w.heap.size = z := ⟨_, rfl⟩
  obtain ⟨W1, hW1⟩ : ∃ z, w.alloc (stObj x (.slice p N c)) = z := ⟨_, rfl⟩
  have hb1 : Below w.heap.size w W1 := by rw [← hW1]; exact (Below.refl _ _).alloc (Nat.le_refl _) _
  have hS : W1.heap[R]? = some (stObj x (.slice p N c)) := by rw [← hW1, ← hR]; exact World.alloc_heap_new _ _
  have hc := (SR.of hS).c5
  have hcv := conv_br (hu.below hb1)
  have HB := Lib.hid hb1
  have HW := Lib.hid hW1
  have HR := Lib.hid hR
  have K2 := tg_Encode ⟨x.bytes.toArray⟩ W1 (by simpa [ByteArray.size] using hl) (ht.below hb1)
  rw [show (⟨x.bytes.toArray⟩ : ByteArray).data.toList = x.bytes from rfl] at K2
  have hel := (Gt.enc_length x.bytes).2
  obtain ⟨eb, heb⟩ : ∃ z : ByteArray, (⟨(Gt.enc x.bytes).toArray⟩ : ByteArray) = z := ⟨_, rfl⟩
  obtain ⟨sb, hsb⟩ : ∃ z : ByteArray, (⟨x.bytes.toArray⟩ : ByteArray) = z := ⟨_, rfl⟩
  have hes : eb.size ≤ 300000 := by rw [← heb]; simp [ByteArray.size]; omega
  have HJ := Lib.hid (show (⟨#[61]⟩ : ByteArray) ++ eb = ⟨(61 :: Gt.enc x.bytes).toArray⟩ by rw [← heb]; apply ByteArray.ext; apply Array.ext'; simp)
  rw [heb, hsb] at K2
  rw [hsb] at hcv
  have K2 := Lib.hid K2
  unfold stObj at HW
  unfold stVal
  clear hb1 hS hW1 hR ht hu heb hsb hel hl hN
  go_enter Tryz.func81, Tryz.ntmps81
  go_upto_region 1 with (fail)
  rw [HR.out, HW.out]
  go_wp2_with fail
  refine K2.out.mono ?_
  rintro e w2 ⟨rfl, hb2⟩
  have HB2 := Lib.hid (HB.out.trans (hb2.mono HB.out.size))
  clear hb2
  go_wp2_with fail
  go_ret
  exact ⟨by rw [← HJ.out]; rfl, HB2.out⟩
theorem sc_byt2 (R : Nat) (old : Value) (w : World) (hc : w.cell? ⟨R, 5, none⟩ = some old) (hz : w.frozen? ⟨R, 5, none⟩ = false) :
    Calls Tryz.prog 83 #[.pointer (some ⟨R, 0, none⟩)] w fun e w' => e = .returned (.tuple #[]) ∧ w' = w.setCell ⟨R, 5, none⟩ (.slice none 0 0) := by
  go_enter Tryz.func83, Tryz.ntmps83
  go_wp2_with fail
  simp [bodyPost, results, Tryz.results83, go_sem]
/-- a word that is read as bytes -/
def bytesOf (l : List UInt8) : Option (List UInt8) := match l with
  | 61 :: t => (match Gt.dec false t with
    | some b => if Gt.enc b = t then some b else none
    | none => none)
  | _ => none
theorem bytes_no {s : ByteArray} (h : s.data.toList.take 1 ≠ [61]) : bytesOf s.data.toList = none := by
  match hs : s.data.toList, h with
  | [], _ => rfl
  | c :: t, h =>
    unfold bytesOf
    split
    · rename_i t' heq
      rw [heq] at h
      exact absurd rfl h
    · rfl
theorem sc_byt3 (R : Nat) (s : ByteArray) (old : Value) (w : World) (hs : s.size ≤ 100000) (hc : w.cell? ⟨R, 5, none⟩ = some old) (hz : w.frozen? ⟨R, 5, none⟩ = false) (ht : Tabs w) :
    Calls Tryz.prog 84 #[.pointer (some ⟨R, 0, none⟩), .string s] w fun e w' => match bytesOf s.data.toList with
      | some b => e = .returned (.tuple #[]) ∧ ∃ w1 v, Below w.heap.size w w1 ∧ w' = w1.setCell ⟨R, 5, none⟩ v ∧ BRow w1 v b ∧ NewV R v
      | none => e = .panicked [{ v := errno 390, recovered := false }] ∧ Below w.heap.size w w' := by
  have HC := Lib.hid hc
  have HZ := Lib.hid hz
  have HT := Lib.hid ht
  clear hc hz ht
  have K0 := fun W => sl_cutprefix s ⟨#[61]⟩ W (by omega) (by decide)
  rw [show (⟨#[61]⟩ : ByteArray).size = 1 from rfl, show (⟨#[61]⟩ : ByteArray).data.toList = [61] from rfl] at K0
  by_cases hp : s.data.toList.take 1 = [61]
  · rw [if_pos hp, decide_eq_true hp] at K0
    obtain ⟨t, hst⟩ : ∃ t, s.data.toList = 61 :: t := by
      match hs : s.data.toList, hp with
      | c :: t, h => exact ⟨t, by have : c = 61 := by simpa using h
                                  rw [this]⟩
    have htb : (s.extract 1 s.size).data.toList = t := by rw [ext_drop, hst]; rfl
    obtain ⟨tb, htb2⟩ : ∃ z, s.extract 1 s.size = z := ⟨_, rfl⟩
    rw [htb2] at K0 htb
    have hts : tb.size ≤ 100000 := by
      have h1 : tb.data.toList.length = tb.size := rfl
      have h2 : s.data.toList.length = s.size := rfl
      rw [htb] at h1
      rw [hst] at h2
      simp at h2
      omega
    have K1 := fun W => tg_Decode tb false W (by omega)
    rw [htb] at K1
    have K0 := Lib.hid K0
    have HTB := Lib.hid htb
    rw [hst]
    unfold bytesOf
    simp only
    clear hst htb htb2 hp
    cases hd : Gt.dec false t with
    | none =>
      rw [hd] at K1
      unfold decOut at K1
      simp only at K1
      have K1 := Lib.hid K1
      simp only
      clear hd
      go_enter Tryz.func84, Tryz.ntmps84
      go_wp2_with fail
      refine (K0.out w).mono ?_
      rintro e w' ⟨rfl, hw⟩
      subst w'
      go_wp2_with fail
      refine (K1.out w).mono ?_
      rintro e w1 ⟨rfl, hb1⟩
      have HB1 := Lib.hid hb1
      clear hb1
      go_wp2_with fail
      refine (sc_must_no 390 w1).mono ?_
      rintro e w' ⟨rfl, hw⟩
      subst w'
      exact ⟨rfl, rfl, HB1.out⟩
    | some b =>
      rw [hd] at K1
      unfold decOut at K1
      simp only at K1
      have hbl : b.length ≤ 100000 := by
        have h1 := Gt.dec_length false t.length t b (Nat.le_refl _) hd
        have h2 : tb.data.toList.length = tb.size := rfl
        rw [HTB.out] at h2
        omega
      have K2 := fun W (h : Tabs W) => tg_Encode ⟨b.toArray⟩ W (by simpa [ByteArray.size] using hbl) h
      rw [show (⟨b.toArray⟩ : ByteArray).data.toList = b from rfl] at K2
      obtain ⟨bb, hbb⟩ : ∃ z : ByteArray, (⟨b.toArray⟩ : ByteArray) = z := ⟨_, rfl⟩
      obtain ⟨eb, heb⟩ : ∃ z : ByteArray, (⟨(Gt.enc b).toArray⟩ : ByteArray) = z := ⟨_, rfl⟩
      have hq : (eb.toList == tb.toList) = (Gt.enc b == t) := by
        rw [ByteArray.toList_eq, ByteArray.toList_eq, HTB.out, ← heb]
      have HBL := Lib.hid (show bb.data.toList = b by rw [← hbb])
      rw [hbb] at K1
      rw [hbb, heb] at K2
      have K1 := Lib.hid K1
      have K2 := Lib.hid K2
      simp only
      clear hd hbb heb hbl
      by_cases he : Gt.enc b = t
      · have hq2 : (eb.toList == tb.toList) = true := by rw [hq]; simpa using he
        rw [if_pos he]
        simp only
        clear hq he
        go_enter Tryz.func84, Tryz.ntmps84
        go_wp2_with fail
        refine (K0.out w).mono ?_
        rintro e w' ⟨rfl, hw⟩
        subst w'
        go_wp2_with fail
        refine (K1.out w).mono ?_
        rintro e w1 ⟨rfl, hb1⟩
        have HB1 := Lib.hid hb1
        clear hb1
        go_wp2_with fail
        refine (K2.out w1 (HT.out.below HB1.out)).mono ?_
        rintro e w2 ⟨rfl, hb2⟩
        have HB2 := Lib.hid (HB1.out.trans (hb2.mono HB1.out.size))
        clear hb2
        go_wp2_with fail
        refine (sc_must 390 w2).mono ?_
        rintro e w' ⟨rfl, hw⟩
        subst w'
        obtain ⟨w3, hw3⟩ : ∃ z, Lib.bytesWorld w2 5 bb = z := ⟨_, rfl⟩
        have hb3 : Below w2.heap.size w2 w3 := by rw [← hw3]; exact below_bytesWorld _ _ _ _ (Nat.le_refl _)
        have hcv := Lib.run_convert_string_bytes (P := Tryz.prog) w2 9 24 5 bb Tryz.underlying9 Tryz.underlying24 Tryz.underlying5
        have hge := grownCap_ge w2 bb.size 0 5
        obtain ⟨cp, hcp⟩ : ∃ z, grownCap w2 bb.size 0 5 = z := ⟨_, rfl⟩
        obtain ⟨G, hG⟩ : ∃ z, w2.heap.size = z := ⟨_, rfl⟩
        have HBV := Lib.hid (show BRow w3 (.slice (some ⟨G, 0, none⟩) bb.size cp) b from by
          rw [← hw3, ← HBL.out]
          exact ⟨_, cp, rfl, by rw [← hcp]; exact hge, .inr ⟨G, 0, rfl, fun j hj => by rw [Nat.zero_add]; have := Lib.bytesWorld_cell w2 5 bb j hj; rw [hG] at this; exact this⟩⟩)
        rw [hw3, hcp, hG] at hcv
        have HNV := Lib.hid (show NewV R (.slice (some ⟨G, 0, none⟩) bb.size cp) from fun g hg => by
          have h1 : G = g := by simpa [Value.ownBlock] using hg
          have h2 := lt_of_cell HC.out
          have h3 := HB2.out.size
          rw [← h1, ← hG]
          exact Nat.le_of_lt (Nat.lt_of_lt_of_le h2 h3))
        have HB3 := Lib.hid (HB2.out.trans (hb3.mono HB2.out.size))
        have hc1 := cell_below HB3.out HC.out
        have hz1 : w3.frozen? ⟨R, 5, none⟩ = false := (HB3.out.frozen (p := ⟨R, 5, none⟩) (lt_of_cell HC.out)).trans HZ.out
        clear hw3 hb3 hge hcp hG
        go_wp2_with fail
        simp [bodyPost, results, Tryz.results84, go_sem]
        exact ⟨w3, HB3.out, _, rfl, HBV.out, HNV.out⟩
      · have hq2 : (eb.toList == tb.toList) = false := by rw [hq]; simpa using he
        rw [if_neg he]
        simp only
        clear hq he
        go_enter Tryz.func84, Tryz.ntmps84
        go_wp2_with fail
        refine (K0.out w).mono ?_
        rintro e w' ⟨rfl, hw⟩
        subst w'
        go_wp2_with fail
        refine (K1.out w).mono ?_
        rintro e w1 ⟨rfl, hb1⟩
        have HB1 := Lib.hid hb1
        clear hb1
        go_wp2_with fail
        refine (K2.out w1 (HT.out.below HB1.out)).mono ?_
        rintro e w2 ⟨rfl, hb2⟩
        have HB2 := Lib.hid (HB1.out.trans (hb2.mono HB1.out.size))
        clear hb2
        go_wp2_with fail
        refine (sc_must_no 390 w2).mono ?_
        rintro e w' ⟨rfl, hw⟩
        subst w'
        exact ⟨rfl, rfl, HB2.out⟩
  · rw [if_neg hp, decide_eq_false hp] at K0
    have K0 := Lib.hid K0
    rw [bytes_no hp]
    simp only
    have K1 := fun W => tg_Decode s false W (by omega)
    clear hp
    cases hd : Gt.dec false s.data.toList with
    | none =>
      rw [hd] at K1
      unfold decOut at K1
      simp only at K1
      have K1 := Lib.hid K1
      clear hd
      go_enter Tryz.func84, Tryz.ntmps84
      go_wp2_with fail
      refine (K0.out w).mono ?_
      rintro e w' ⟨rfl, hw⟩
      subst w'
      go_wp2_with fail
      refine (K1.out w).mono ?_
      rintro e w1 ⟨rfl, hb1⟩
      have HB1 := Lib.hid hb1
      clear hb1
      go_wp2_with fail
      refine (sc_must_no 390 w1).mono ?_
      rintro e w' ⟨rfl, hw⟩
      subst w'
      exact ⟨rfl, rfl, HB1.out⟩
    | some b =>
      rw [hd] at K1
      unfold decOut at K1
      simp only at K1
      have K1 := Lib.hid K1
      clear hd
      go_enter Tryz.func84, Tryz.ntmps84
      go_wp2_with fail
      refine (K0.out w).mono ?_
      rintro e w' ⟨rfl, hw⟩
      subst w'
      go_wp2_with fail
      refine (K1.out w).mono ?_
      rintro e w1 ⟨rfl, hb1⟩
      have HB1 := Lib.hid hb1
      clear hb1
      go_wp2_with fail
      refine (sc_must_no 390 w1).mono ?_
      rintro e w' ⟨rfl, hw⟩
      subst w'
      exact ⟨rfl, rfl, HB1.out⟩
end Go.Proofs.YtbaakfcbakpmpaaGreatDoor

/- script: parts as they lie in memory, and what they do. No conditions but those that each law states. -/
namespace Go.Proofs.YtbaakfcbakpmpaaGreatDoor
set_option linter.unusedVariables false
set_option linter.unusedSimpArgs false
open Go.RowKit Go.Shelf
set_option maxHeartbeats 8000000
set_option maxRecDepth 100000
def numV (b : Nat) : Value := .agg #[.func (.func 99) #[] #[.pointer (some ⟨b, 0, none⟩)], .func (.func 100) #[] #[.pointer (some ⟨b, 0, none⟩)], .func (.func 101) #[] #[.pointer (some ⟨b, 0, none⟩)]]
def topV : Value := .agg #[.func (.func 87) #[] #[], .func (.func 89) #[] #[], .func (.func 90) #[] #[]]
def bytV : Value := .agg #[.func (.func 81) #[] #[], .func (.func 83) #[] #[], .func (.func 84) #[] #[]]
/-- which function tells where a number stands -/
def atF (p : UInt8) : Nat := if p = 78 then 78 else if p = 68 then 79 else 80
/-- a part, as it lies in memory -/
def PartAt (W : World) (v : Value) (p : UInt8) : Prop :=
  ((p = 78 ∨ p = 68 ∨ p = 67) ∧ ∃ b, v = numV b ∧ BoxAt W b (atF p)) ∨ (p = 84 ∧ v = topV) ∨ (p = 66 ∧ v = bytV)
theorem PartAt.below {W W' : World} {v : Value} {p : UInt8} (h : PartAt W v p) (hb : Below W.heap.size W W') : PartAt W' v p := by
  rcases h with ⟨hp, b, h1, h2⟩ | h | h
  · exact .inl ⟨hp, b, h1, h2.below hb⟩
  · exact .inr (.inl h)
  · exact .inr (.inr h)
theorem BoxAt.setCell {W : World} {b g R i : Nat} {v y : Value} (h : BoxAt W b g) (hR : W.cell? ⟨R, 0, none⟩ = some v) (hv : ∀ f a c, v ≠ .func f a c) : BoxAt (W.setCell ⟨R, i, none⟩ y) b g := by
  have hne : b ≠ R := by
    intro e
    subst e
    unfold BoxAt at h
    simp [World.cell?, h] at hR
    exact hv _ _ _ hR.symm
  exact (Below.heap_setCell _ _ _ _ hne).trans h
theorem BoxAt.setOther {W : World} {b g A : Nat} (h : BoxAt W b g) (hne : b ≠ A) (i : Nat) (y : Value) : BoxAt (W.setCell ⟨A, i, none⟩ y) b g := (Below.heap_setCell _ _ _ _ hne).trans h
theorem PartAt.setCell {W : World} {v x y : Value} {p : UInt8} {R i : Nat} (h : PartAt W v p) (hR : W.cell? ⟨R, 0, none⟩ = some x) (hx : ∀ f a c, x ≠ .func f a c) : PartAt (W.setCell ⟨R, i, none⟩ y) v p := by
  rcases h with ⟨hp, b, h1, h2⟩ | h | h
  · exact .inl ⟨hp, b, h1, h2.setCell hR hx⟩
  · exact .inr (.inl h)
  · exact .inr (.inr h)
def EntersF (f : Nat) : Prop := ∀ args W, (callFunc f args).run Tryz.prog W = .ok (.enter f args) W
/-- what a part does -/
structure PartOk (W : World) (p : UInt8) (f1 f2 f3 : Nat) (cap : Array Value) : Prop where
  e1 : EntersF f1
  e2 : EntersF f2
  e3 : EntersF f3
  tell : ∀ (x : Sc.St) (u : Value), BR W u x.bytes → x.bytes.length ≤ 100000 → x.fine → Tabs W → Calls Tryz.prog f1 (#[stVal x u] ++ cap) W fun e w' => e = .returned (.string ⟨(Sc.tell x p).toArray⟩) ∧ Below W.heap.size W w'
  clear : ∀ (R : Nat) (x : Sc.St) (u : Value), SR W R x u → Calls Tryz.prog f2 (#[.pointer (some ⟨R, 0, none⟩)] ++ cap) W fun e w' => e = .returned (.tuple #[]) ∧ w' = W.setCell ⟨R, offP p, none⟩ (zeroP p)
  read : ∀ (R : Nat) (x : Sc.St) (u : Value) (s : ByteArray), s.size ≤ 100000 → SR W R x u → Tabs W → Calls Tryz.prog f3 (#[.pointer (some ⟨R, 0, none⟩), .string s] ++ cap) W (ReadOut W R p s.data.toList x)
theorem atF_ok {p : UInt8} (hp : p = 78 ∨ p = 68 ∨ p = 67) : AtOk (atF p) (offP p) := by
  rcases hp with rfl | rfl | rfl
  · exact at_span
  · exact at_draw
  · exact at_conn
theorem SR.at {w : World} {R : Nat} {x : Sc.St} {u : Value} (h : SR w R x u) (p : UInt8) : ∃ v, w.cell? ⟨R, offP p, none⟩ = some v := by
  unfold offP
  split
  · exact ⟨_, h.c3⟩
  · split
    · exact ⟨_, h.c4⟩
    · split
      · exact ⟨_, h.c1⟩
      · split
        · exact ⟨_, h.c2⟩
        · exact ⟨_, h.c5⟩
theorem read1_66 (l : List UInt8) (x : Sc.St) : Sc.read1 66 l x = (bytesOf l).map fun b => { x with bytes := b } := by
  unfold Sc.read1 bytesOf
  rw [if_pos rfl]
  match l with
  | [] => rfl
  | c :: t =>
    by_cases hc : c = 61
    · subst hc
      simp only
      cases Gt.dec false t with
      | none => rfl
      | some b =>
        simp only
        split <;> rfl
    · split
      · rename_i heq
        exact absurd (by injection heq) hc
      · split
        · rename_i heq
          exact absurd (by injection heq) hc
        · rfl
theorem PartAt.ok {W : World} {v : Value} {p : UInt8} (h : PartAt W v p) : ∃ f1 f2 f3 cap, v = .agg #[.func (.func f1) #[] cap, .func (.func f2) #[] cap, .func (.func f3) #[] cap] ∧ PartOk W p f1 f2 f3 cap := by
  rcases h with ⟨hp, b, rfl, hb⟩ | ⟨rfl, rfl⟩ | ⟨rfl, rfl⟩
  · have hg := atF_ok hp
    refine ⟨_, _, _, _, rfl, enters_of Tryz.func99 (by kernel_rfl) rfl, enters_of Tryz.func100 (by kernel_rfl) rfl, enters_of Tryz.func101 (by kernel_rfl) rfl, ?_, ?_, ?_⟩
    · intro x u hu hl hx ht
      obtain ⟨⟨x1, x2, x3⟩, x4⟩ := hx
      rcases hp with rfl | rfl | rfl
      · exact sc_num1 _ 3 b x.n hg x u W hb (fun W R h => h.c3) x2 (fun W R h => SR.of h) ht
      · exact sc_num1 _ 4 b x.draw hg x u W hb (fun W R h => h.c4) x3 (fun W R h => SR.of h) ht
      · exact sc_num1 _ 1 b x.conn hg x u W hb (fun W R h => h.c1) x1 (fun W R h => SR.of h) ht
    · intro R x u hS
      obtain ⟨old, hc⟩ := hS.at p
      have hz : zeroP p = .int .u64 0 := by rcases hp with rfl | rfl | rfl <;> rfl
      rw [hz]
      exact sc_num2 _ _ b R old hg W hb hc (hS.fr _)
    · intro R x u s hs hS ht
      obtain ⟨old, hc⟩ := hS.at p
      refine (sc_num3 _ _ b R s old hg W (by omega) hb hc (hS.fr _)).mono ?_
      intro e w' h
      unfold ReadOut
      by_cases h0 : Dp.parE s.data.toList = 0
      · rw [if_pos h0] at h
        obtain ⟨rfl, w1, hb1, rfl⟩ := h
        obtain ⟨v, hv⟩ : ∃ v : Nat, Dp.parN s.data.toList = v := ⟨(Dp.parN s.data.toList).toNat, by have := (Dp.digs_par h0).2.1; omega⟩
        rw [hv]
        rcases hp with rfl | rfl | rfl
        · simp only [Sc.read1, if_neg (show ¬ (78 : UInt8) = 66 by decide), if_pos h0, if_neg (show ¬ (78 : UInt8) = 84 by decide), if_true, hv]
          first | exact ⟨trivial, w1, _, hb1, rfl, rfl⟩ | exact ⟨rfl, w1, _, hb1, rfl, rfl⟩
        · simp only [Sc.read1, if_neg (show ¬ (68 : UInt8) = 66 by decide), if_pos h0, if_neg (show ¬ (68 : UInt8) = 84 by decide), if_neg (show ¬ (68 : UInt8) = 78 by decide), if_true, hv]
          first | exact ⟨trivial, w1, _, hb1, rfl, rfl⟩ | exact ⟨rfl, w1, _, hb1, rfl, rfl⟩
        · simp only [Sc.read1, if_neg (show ¬ (67 : UInt8) = 66 by decide), if_pos h0, if_neg (show ¬ (67 : UInt8) = 84 by decide), if_neg (show ¬ (67 : UInt8) = 78 by decide), if_neg (show ¬ (67 : UInt8) = 68 by decide), hv]
          first | exact ⟨trivial, w1, _, hb1, rfl, rfl⟩ | exact ⟨rfl, w1, _, hb1, rfl, rfl⟩
      · rw [if_neg h0] at h
        have hn : Sc.read1 p s.data.toList x = none := by
          unfold Sc.read1
          rw [if_neg (show ¬ p = 66 by rcases hp with rfl | rfl | rfl <;> decide), if_neg h0]
        rw [hn]
        exact h
  · refine ⟨_, _, _, _, rfl, enters_of Tryz.func87 (by kernel_rfl) rfl, enters_of Tryz.func89 (by kernel_rfl) rfl, enters_of Tryz.func90 (by kernel_rfl) rfl, ?_, ?_, ?_⟩
    · intro x u hu hl hx ht
      exact sc_top1 x u W hx.2 ht
    · intro R x u hS
      exact sc_top2 R _ W hS.c2 (hS.fr _)
    · intro R x u s hs hS ht
      refine (sc_top3 R s _ W (by omega) hS.c2 (hS.fr _)).mono ?_
      intro e w' h
      unfold ReadOut Sc.read1
      rw [if_neg (show ¬ (84 : UInt8) = 66 by decide)]
      by_cases h0 : Dp.parE s.data.toList = 0
      · by_cases h1 : Dp.parN s.data.toList ≤ 2147483647
        · rw [if_pos ⟨h0, h1⟩] at h
          simp only [if_pos h0, if_true, if_pos h1]
          obtain ⟨rfl, w1, hb1, rfl⟩ := h
          first | exact ⟨trivial, w1, _, hb1, rfl, rfl⟩ | exact ⟨rfl, w1, _, hb1, rfl, rfl⟩
        · rw [if_neg (fun hh => h1 hh.2)] at h
          simp only [if_pos h0, if_true, if_neg h1]
          exact h
      · rw [if_neg (fun hh => h0 hh.1)] at h
        simp only [if_neg h0]
        exact h
  · refine ⟨_, _, _, _, rfl, enters_of Tryz.func81 (by kernel_rfl) rfl, enters_of Tryz.func83 (by kernel_rfl) rfl, enters_of Tryz.func84 (by kernel_rfl) rfl, ?_, ?_, ?_⟩
    · intro x u hu hl hx ht
      exact sc_byt1 x u W hu hl ht
    · intro R x u hS
      exact sc_byt2 R _ W hS.c5 (hS.fr _)
    · intro R x u s hs hS ht
      refine (sc_byt3 R s _ W hs hS.c5 (hS.fr _) ht).mono ?_
      intro e w' h
      unfold ReadOut
      rw [read1_66]
      cases hb : bytesOf s.data.toList with
      | none =>
        rw [hb] at h
        exact h
      | some b =>
        rw [hb] at h
        obtain ⟨rfl, w1, v, hb1, rfl, hv⟩ := h
        exact ⟨rfl, w1, v, hb1, rfl, hv⟩
theorem sc_number (g : Nat) (w : World) : Calls Tryz.prog 77 #[.func (.func g) #[] #[]] w fun e w' => ∃ b, e = .returned (numV b) ∧ BoxAt w' b g ∧ w.heap.size ≤ b ∧ Below w.heap.size w w' := by
  have hmf : ∀ (fn : Fn) (first cap : Array Value) (w : World), (Instr.makeFunc fn first cap).run Tryz.prog w = .ok (.func fn first cap) w := fun _ _ _ _ => rfl
  go_enter Tryz.func77, Tryz.ntmps77
  go_wp2_with fail
  obtain ⟨A, hA⟩ : ∃ z, w.heap.size = z := ⟨_, rfl⟩
  rw [hA]
  obtain ⟨X, hX⟩ : ∃ z, ((w.alloc (.cells #[.func (.func g) #[] #[]] 142)).alloc (.cells #[.func (.func 99) #[] #[.pointer (some ⟨A, 0, none⟩)], .func (.func 100) #[] #[.pointer (some ⟨A, 0, none⟩)], .func (.func 101) #[] #[.pointer (some ⟨A, 0, none⟩)]] 124)) = z := ⟨_, rfl⟩
  have h1 : X.heap[A]? = some (.cells #[.func (.func g) #[] #[]] 142 (0, 0)) := by rw [← hX, Below.heap_alloc _ _ _ (by simp [hA]), ← hA]; exact World.alloc_heap_new _ _
  have h2 : X.heap[A + 1]? = some (.cells #[.func (.func 99) #[] #[.pointer (some ⟨A, 0, none⟩)], .func (.func 100) #[] #[.pointer (some ⟨A, 0, none⟩)], .func (.func 101) #[] #[.pointer (some ⟨A, 0, none⟩)]] 124 (0, 0)) := by
    rw [← hX]
    have h := World.alloc_heap_new (w.alloc (.cells #[.func (.func g) #[] #[]] 142)) (.cells #[.func (.func 99) #[] #[.pointer (some ⟨A, 0, none⟩)], .func (.func 100) #[] #[.pointer (some ⟨A, 0, none⟩)], .func (.func 101) #[] #[.pointer (some ⟨A, 0, none⟩)]] 124)
    simpa [hA] using h
  have hb : Below w.heap.size w X := by rw [← hX]; exact ((Below.refl _ _).alloc (Nat.le_refl _) _).alloc (by simp) _
  have c0 : X.cell? ⟨A + 1, 0, none⟩ = some (.func (.func 99) #[] #[.pointer (some ⟨A, 0, none⟩)]) := by simp [World.cell?, h2]
  have c1 : X.cell? ⟨A + 1, 1, none⟩ = some (.func (.func 100) #[] #[.pointer (some ⟨A, 0, none⟩)]) := by simp [World.cell?, h2]
  have c2 : X.cell? ⟨A + 1, 2, none⟩ = some (.func (.func 101) #[] #[.pointer (some ⟨A, 0, none⟩)]) := by simp [World.cell?, h2]
  rw [hX]
  clear hX h2 hmf
  simp [bodyPost, results, Tryz.results77, go_sem, c0, c1, c2]
  exact ⟨A, rfl, h1, by omega, by rw [← hA]; exact hb⟩
theorem sc_span (w : World) : Calls Tryz.prog 64 #[] w fun e w' => ∃ b, e = .returned (numV b) ∧ BoxAt w' b (atF 78) ∧ w.heap.size ≤ b ∧ Below w.heap.size w w' := by
  have K := Lib.hid (sc_number 78)
  go_enter Tryz.func64, Tryz.ntmps64
  go_wp2_with fail
  refine (K.out _).mono ?_
  rintro e w2 ⟨b, rfl, hbx, hle, hb⟩
  obtain ⟨A, hA⟩ : ∃ z, w.heap.size = z := ⟨_, rfl⟩
  obtain ⟨W1, hW1⟩ : ∃ z, w.alloc (.cells #[.nilFunc, .nilFunc, .nilFunc] 124) = z := ⟨_, rfl⟩
  rw [hW1] at hle hb
  have h1 : W1.heap[A]? = some (.cells #[.nilFunc, .nilFunc, .nilFunc] 124 (0, 0)) := by rw [← hW1, ← hA]; exact World.alloc_heap_new _ _
  have hz : W1.heap.size = A + 1 := by rw [← hW1, ← hA]; simp
  have hb1 : Below w.heap.size w W1 := by rw [← hW1]; exact (Below.refl _ _).alloc (Nat.le_refl _) _
  have h2 := (hb.block _ (Array.getElem?_eq_some_iff.1 h1).1).trans h1
  have k0 : w2.cell? ⟨A, 0, none⟩ = some .nilFunc := by simp [World.cell?, h2]
  have k1 : w2.cell? ⟨A, 1, none⟩ = some .nilFunc := by simp [World.cell?, h2]
  have k2 : w2.cell? ⟨A, 2, none⟩ = some .nilFunc := by simp [World.cell?, h2]
  have z0 : w2.frozen? ⟨A, 0, none⟩ = false := frozen_of_row _ _ _ _ _ h2
  have z1 : w2.frozen? ⟨A, 1, none⟩ = false := frozen_of_row _ _ _ _ _ h2
  have z2 : w2.frozen? ⟨A, 2, none⟩ = false := frozen_of_row _ _ _ _ _ h2
  unfold numV
  obtain ⟨v1, hv1⟩ : ∃ z : Value, .func (.func 99) #[] #[.pointer (some ⟨b, 0, none⟩)] = z := ⟨_, rfl⟩
  obtain ⟨v2, hv2⟩ : ∃ z : Value, .func (.func 100) #[] #[.pointer (some ⟨b, 0, none⟩)] = z := ⟨_, rfl⟩
  obtain ⟨v3, hv3⟩ : ∃ z : Value, .func (.func 101) #[] #[.pointer (some ⟨b, 0, none⟩)] = z := ⟨_, rfl⟩
  have hXH : (((w2.setCell ⟨A, 0, none⟩ (.func (.func 99) #[] #[.pointer (some ⟨b, 0, none⟩)])).setCell ⟨A, 1, none⟩ (.func (.func 100) #[] #[.pointer (some ⟨b, 0, none⟩)])).setCell ⟨A, 2, none⟩ (.func (.func 101) #[] #[.pointer (some ⟨b, 0, none⟩)])).heap[A]? = some (.cells #[.func (.func 99) #[] #[.pointer (some ⟨b, 0, none⟩)], .func (.func 100) #[] #[.pointer (some ⟨b, 0, none⟩)], .func (.func 101) #[] #[.pointer (some ⟨b, 0, none⟩)]] 124 (0, 0)) := by
    have g1 := heap_setCell_same w2 A 0 _ _ (.func (.func 99) #[] #[.pointer (some ⟨b, 0, none⟩)]) h2
    have g2 := heap_setCell_same _ A 1 _ _ (.func (.func 100) #[] #[.pointer (some ⟨b, 0, none⟩)]) g1
    have g3 := heap_setCell_same _ A 2 _ _ (.func (.func 101) #[] #[.pointer (some ⟨b, 0, none⟩)]) g2
    simpa using g3
  have hne : b ≠ A := by omega
  have hbx2 := ((hbx.setOther hne 0 (.func (.func 99) #[] #[.pointer (some ⟨b, 0, none⟩)])).setOther hne 1 (.func (.func 100) #[] #[.pointer (some ⟨b, 0, none⟩)])).setOther hne 2 (.func (.func 101) #[] #[.pointer (some ⟨b, 0, none⟩)])
  have hbb : Below w.heap.size w (((w2.setCell ⟨A, 0, none⟩ (.func (.func 99) #[] #[.pointer (some ⟨b, 0, none⟩)])).setCell ⟨A, 1, none⟩ (.func (.func 100) #[] #[.pointer (some ⟨b, 0, none⟩)])).setCell ⟨A, 2, none⟩ (.func (.func 101) #[] #[.pointer (some ⟨b, 0, none⟩)])) :=
    (((hb1.trans (hb.mono hb1.size)).setCell (p := ⟨A, 0, none⟩) (by rw [hA]; exact Nat.le_refl _) _).setCell (p := ⟨A, 1, none⟩) (by rw [hA]; exact Nat.le_refl _) _).setCell (p := ⟨A, 2, none⟩) (by rw [hA]; exact Nat.le_refl _) _
  have HBX := Lib.hid hbx2
  have HXH := Lib.hid hXH
  have HBB := Lib.hid hbb
  have HLE := Lib.hid (show w.heap.size ≤ b by omega)
  rw [hA]
  clear hbx hbx2 hXH hbb h1 h2 hb hb1 hle hz hne hW1 hv1 hv2 hv3
  go_wp2_with fail
  obtain ⟨X, hX⟩ : ∃ X, (((w2.setCell ⟨A, 0, none⟩ (.func (.func 99) #[] #[.pointer (some ⟨b, 0, none⟩)])).setCell ⟨A, 1, none⟩ (.func (.func 100) #[] #[.pointer (some ⟨b, 0, none⟩)])).setCell ⟨A, 2, none⟩ (.func (.func 101) #[] #[.pointer (some ⟨b, 0, none⟩)])) = X := ⟨_, rfl⟩
  rw [hX] at HBX HXH HBB ⊢
  have c0 : X.cell? ⟨A, 0, none⟩ = some (.func (.func 99) #[] #[.pointer (some ⟨b, 0, none⟩)]) := by simp [World.cell?, HXH.out]
  have c1 : X.cell? ⟨A, 1, none⟩ = some (.func (.func 100) #[] #[.pointer (some ⟨b, 0, none⟩)]) := by simp [World.cell?, HXH.out]
  have c2 : X.cell? ⟨A, 2, none⟩ = some (.func (.func 101) #[] #[.pointer (some ⟨b, 0, none⟩)]) := by simp [World.cell?, HXH.out]
  clear hX k0 k1 k2 z0 z1 z2
  simp [bodyPost, results, Tryz.results64, go_sem, c0, c1, c2]
  exact ⟨b, rfl, HBX.out, HLE.out, HBB.out⟩
theorem sc_draw (w : World) : Calls Tryz.prog 65 #[] w fun e w' => ∃ b, e = .returned (numV b) ∧ BoxAt w' b (atF 68) ∧ w.heap.size ≤ b ∧ Below w.heap.size w w' := by
  have K := Lib.hid (sc_number 79)
  go_enter Tryz.func65, Tryz.ntmps65
  go_wp2_with fail
  refine (K.out _).mono ?_
  rintro e w2 ⟨b, rfl, hbx, hle, hb⟩
  obtain ⟨A, hA⟩ : ∃ z, w.heap.size = z := ⟨_, rfl⟩
  obtain ⟨W1, hW1⟩ : ∃ z, w.alloc (.cells #[.nilFunc, .nilFunc, .nilFunc] 124) = z := ⟨_, rfl⟩
  rw [hW1] at hle hb
  have h1 : W1.heap[A]? = some (.cells #[.nilFunc, .nilFunc, .nilFunc] 124 (0, 0)) := by rw [← hW1, ← hA]; exact World.alloc_heap_new _ _
  have hz : W1.heap.size = A + 1 := by rw [← hW1, ← hA]; simp
  have hb1 : Below w.heap.size w W1 := by rw [← hW1]; exact (Below.refl _ _).alloc (Nat.le_refl _) _
  have h2 := (hb.block _ (Array.getElem?_eq_some_iff.1 h1).1).trans h1
  have k0 : w2.cell? ⟨A, 0, none⟩ = some .nilFunc := by simp [World.cell?, h2]
  have k1 : w2.cell? ⟨A, 1, none⟩ = some .nilFunc := by simp [World.cell?, h2]
  have k2 : w2.cell? ⟨A, 2, none⟩ = some .nilFunc := by simp [World.cell?, h2]
  have z0 : w2.frozen? ⟨A, 0, none⟩ = false := frozen_of_row _ _ _ _ _ h2
  have z1 : w2.frozen? ⟨A, 1, none⟩ = false := frozen_of_row _ _ _ _ _ h2
  have z2 : w2.frozen? ⟨A, 2, none⟩ = false := frozen_of_row _ _ _ _ _ h2
  unfold numV
  obtain ⟨v1, hv1⟩ : ∃ z : Value, .func (.func 99) #[] #[.pointer (some ⟨b, 0, none⟩)] = z := ⟨_, rfl⟩
  obtain ⟨v2, hv2⟩ : ∃ z : Value, .func (.func 100) #[] #[.pointer (some ⟨b, 0, none⟩)] = z := ⟨_, rfl⟩
  obtain ⟨v3, hv3⟩ : ∃ z : Value, .func (.func 101) #[] #[.pointer (some ⟨b, 0, none⟩)] = z := ⟨_, rfl⟩
  have hXH : (((w2.setCell ⟨A, 0, none⟩ (.func (.func 99) #[] #[.pointer (some ⟨b, 0, none⟩)])).setCell ⟨A, 1, none⟩ (.func (.func 100) #[] #[.pointer (some ⟨b, 0, none⟩)])).setCell ⟨A, 2, none⟩ (.func (.func 101) #[] #[.pointer (some ⟨b, 0, none⟩)])).heap[A]? = some (.cells #[.func (.func 99) #[] #[.pointer (some ⟨b, 0, none⟩)], .func (.func 100) #[] #[.pointer (some ⟨b, 0, none⟩)], .func (.func 101) #[] #[.pointer (some ⟨b, 0, none⟩)]] 124 (0, 0)) := by
    have g1 := heap_setCell_same w2 A 0 _ _ (.func (.func 99) #[] #[.pointer (some ⟨b, 0, none⟩)]) h2
    have g2 := heap_setCell_same _ A 1 _ _ (.func (.func 100) #[] #[.pointer (some ⟨b, 0, none⟩)]) g1
    have g3 := heap_setCell_same _ A 2 _ _ (.func (.func 101) #[] #[.pointer (some ⟨b, 0, none⟩)]) g2
    simpa using g3
  have hne : b ≠ A := by omega
  have hbx2 := ((hbx.setOther hne 0 (.func (.func 99) #[] #[.pointer (some ⟨b, 0, none⟩)])).setOther hne 1 (.func (.func 100) #[] #[.pointer (some ⟨b, 0, none⟩)])).setOther hne 2 (.func (.func 101) #[] #[.pointer (some ⟨b, 0, none⟩)])
  have hbb : Below w.heap.size w (((w2.setCell ⟨A, 0, none⟩ (.func (.func 99) #[] #[.pointer (some ⟨b, 0, none⟩)])).setCell ⟨A, 1, none⟩ (.func (.func 100) #[] #[.pointer (some ⟨b, 0, none⟩)])).setCell ⟨A, 2, none⟩ (.func (.func 101) #[] #[.pointer (some ⟨b, 0, none⟩)])) :=
    (((hb1.trans (hb.mono hb1.size)).setCell (p := ⟨A, 0, none⟩) (by rw [hA]; exact Nat.le_refl _) _).setCell (p := ⟨A, 1, none⟩) (by rw [hA]; exact Nat.le_refl _) _).setCell (p := ⟨A, 2, none⟩) (by rw [hA]; exact Nat.le_refl _) _
  have HBX := Lib.hid hbx2
  have HXH := Lib.hid hXH
  have HBB := Lib.hid hbb
  have HLE := Lib.hid (show w.heap.size ≤ b by omega)
  rw [hA]
  clear hbx hbx2 hXH hbb h1 h2 hb hb1 hle hz hne hW1 hv1 hv2 hv3
  go_wp2_with fail
  obtain ⟨X, hX⟩ : ∃ X, (((w2.setCell ⟨A, 0, none⟩ (.func (.func 99) #[] #[.pointer (some ⟨b, 0, none⟩)])).setCell ⟨A, 1, none⟩ (.func (.func 100) #[] #[.pointer (some ⟨b, 0, none⟩)])).setCell ⟨A, 2, none⟩ (.func (.func 101) #[] #[.pointer (some ⟨b, 0, none⟩)])) = X := ⟨_, rfl⟩
  rw [hX] at HBX HXH HBB ⊢
  have c0 : X.cell? ⟨A, 0, none⟩ = some (.func (.func 99) #[] #[.pointer (some ⟨b, 0, none⟩)]) := by simp [World.cell?, HXH.out]
  have c1 : X.cell? ⟨A, 1, none⟩ = some (.func (.func 100) #[] #[.pointer (some ⟨b, 0, none⟩)]) := by simp [World.cell?, HXH.out]
  have c2 : X.cell? ⟨A, 2, none⟩ = some (.func (.func 101) #[] #[.pointer (some ⟨b, 0, none⟩)]) := by simp [World.cell?, HXH.out]
  clear hX k0 k1 k2 z0 z1 z2
  simp [bodyPost, results, Tryz.results65, go_sem, c0, c1, c2]
  exact ⟨b, rfl, HBX.out, HLE.out, HBB.out⟩
theorem sc_conn (w : World) : Calls Tryz.prog 66 #[] w fun e w' => ∃ b, e = .returned (numV b) ∧ BoxAt w' b (atF 67) ∧ w.heap.size ≤ b ∧ Below w.heap.size w w' := by
  have K := Lib.hid (sc_number 80)
  go_enter Tryz.func66, Tryz.ntmps66
  go_wp2_with fail
  refine (K.out _).mono ?_
  rintro e w2 ⟨b, rfl, hbx, hle, hb⟩
  obtain ⟨A, hA⟩ : ∃ z, w.heap.size = z := ⟨_, rfl⟩
  obtain ⟨W1, hW1⟩ : ∃ z, w.alloc (.cells #[.nilFunc, .nilFunc, .nilFunc] 124) = z := ⟨_, rfl⟩
  rw [hW1] at hle hb
  have h1 : W1.heap[A]? = some (.cells #[.nilFunc, .nilFunc, .nilFunc] 124 (0, 0)) := by rw [← hW1, ← hA]; exact World.alloc_heap_new _ _
  have hz : W1.heap.size = A + 1 := by rw [← hW1, ← hA]; simp
  have hb1 : Below w.heap.size w W1 := by rw [← hW1]; exact (Below.refl _ _).alloc (Nat.le_refl _) _
  have h2 := (hb.block _ (Array.getElem?_eq_some_iff.1 h1).1).trans h1
  have k0 : w2.cell? ⟨A, 0, none⟩ = some .nilFunc := by simp [World.cell?, h2]
  have k1 : w2.cell? ⟨A, 1, none⟩ = some .nilFunc := by simp [World.cell?, h2]
  have k2 : w2.cell? ⟨A, 2, none⟩ = some .nilFunc := by simp [World.cell?, h2]
  have z0 : w2.frozen? ⟨A, 0, none⟩ = false := frozen_of_row _ _ _ _ _ h2
  have z1 : w2.frozen? ⟨A, 1, none⟩ = false := frozen_of_row _ _ _ _ _ h2
  have z2 : w2.frozen? ⟨A, 2, none⟩ = false := frozen_of_row _ _ _ _ _ h2
  unfold numV
  obtain ⟨v1, hv1⟩ : ∃ z : Value, .func (.func 99) #[] #[.pointer (some ⟨b, 0, none⟩)] = z := ⟨_, rfl⟩
  obtain ⟨v2, hv2⟩ : ∃ z : Value, .func (.func 100) #[] #[.pointer (some ⟨b, 0, none⟩)] = z := ⟨_, rfl⟩
  obtain ⟨v3, hv3⟩ : ∃ z : Value, .func (.func 101) #[] #[.pointer (some ⟨b, 0, none⟩)] = z := ⟨_, rfl⟩
  have hXH : (((w2.setCell ⟨A, 0, none⟩ (.func (.func 99) #[] #[.pointer (some ⟨b, 0, none⟩)])).setCell ⟨A, 1, none⟩ (.func (.func 100) #[] #[.pointer (some ⟨b, 0, none⟩)])).setCell ⟨A, 2, none⟩ (.func (.func 101) #[] #[.pointer (some ⟨b, 0, none⟩)])).heap[A]? = some (.cells #[.func (.func 99) #[] #[.pointer (some ⟨b, 0, none⟩)], .func (.func 100) #[] #[.pointer (some ⟨b, 0, none⟩)], .func (.func 101) #[] #[.pointer (some ⟨b, 0, none⟩)]] 124 (0, 0)) := by
    have g1 := heap_setCell_same w2 A 0 _ _ (.func (.func 99) #[] #[.pointer (some ⟨b, 0, none⟩)]) h2
    have g2 := heap_setCell_same _ A 1 _ _ (.func (.func 100) #[] #[.pointer (some ⟨b, 0, none⟩)]) g1
    have g3 := heap_setCell_same _ A 2 _ _ (.func (.func 101) #[] #[.pointer (some ⟨b, 0, none⟩)]) g2
    simpa using g3
  have hne : b ≠ A := by omega
  have hbx2 := ((hbx.setOther hne 0 (.func (.func 99) #[] #[.pointer (some ⟨b, 0, none⟩)])).setOther hne 1 (.func (.func 100) #[] #[.pointer (some ⟨b, 0, none⟩)])).setOther hne 2 (.func (.func 101) #[] #[.pointer (some ⟨b, 0, none⟩)])
  have hbb : Below w.heap.size w (((w2.setCell ⟨A, 0, none⟩ (.func (.func 99) #[] #[.pointer (some ⟨b, 0, none⟩)])).setCell ⟨A, 1, none⟩ (.func (.func 100) #[] #[.pointer (some ⟨b, 0, none⟩)])).setCell ⟨A, 2, none⟩ (.func (.func 101) #[] #[.pointer (some ⟨b, 0, none⟩)])) :=
    (((hb1.trans (hb.mono hb1.size)).setCell (p := ⟨A, 0, none⟩) (by rw [hA]; exact Nat.le_refl _) _).setCell (p := ⟨A, 1, none⟩) (by rw [hA]; exact Nat.le_refl _) _).setCell (p := ⟨A, 2, none⟩) (by rw [hA]; exact Nat.le_refl _) _
  have HBX := Lib.hid hbx2
  have HXH := Lib.hid hXH
  have HBB := Lib.hid hbb
  have HLE := Lib.hid (show w.heap.size ≤ b by omega)
  rw [hA]
  clear hbx hbx2 hXH hbb h1 h2 hb hb1 hle hz hne hW1 hv1 hv2 hv3
  go_wp2_with fail
  obtain ⟨X, hX⟩ : ∃ X, (((w2.setCell ⟨A, 0, none⟩ (.func (.func 99) #[] #[.pointer (some ⟨b, 0, none⟩)])).setCell ⟨A, 1, none⟩ (.func (.func 100) #[] #[.pointer (some ⟨b, 0, none⟩)])).setCell ⟨A, 2, none⟩ (.func (.func 101) #[] #[.pointer (some ⟨b, 0, none⟩)])) = X := ⟨_, rfl⟩
  rw [hX] at HBX HXH HBB ⊢
  have c0 : X.cell? ⟨A, 0, none⟩ = some (.func (.func 99) #[] #[.pointer (some ⟨b, 0, none⟩)]) := by simp [World.cell?, HXH.out]
  have c1 : X.cell? ⟨A, 1, none⟩ = some (.func (.func 100) #[] #[.pointer (some ⟨b, 0, none⟩)]) := by simp [World.cell?, HXH.out]
  have c2 : X.cell? ⟨A, 2, none⟩ = some (.func (.func 101) #[] #[.pointer (some ⟨b, 0, none⟩)]) := by simp [World.cell?, HXH.out]
  clear hX k0 k1 k2 z0 z1 z2
  simp [bodyPost, results, Tryz.results66, go_sem, c0, c1, c2]
  exact ⟨b, rfl, HBX.out, HLE.out, HBB.out⟩
theorem sc_topic (w : World) : Calls Tryz.prog 68 #[] w fun e w' => e = .returned topV ∧ Below w.heap.size w w' := by
  go_enter Tryz.func68, Tryz.ntmps68
  go_wp2_with fail
  obtain ⟨A, hA⟩ : ∃ z, w.heap.size = z := ⟨_, rfl⟩
  rw [hA]
  obtain ⟨X, hX⟩ : ∃ z, w.alloc (.cells #[.func (.func 87) #[] #[], .func (.func 89) #[] #[], .func (.func 90) #[] #[]] 124) = z := ⟨_, rfl⟩
  have h1 : X.heap[A]? = some (.cells #[.func (.func 87) #[] #[], .func (.func 89) #[] #[], .func (.func 90) #[] #[]] 124 (0, 0)) := by rw [← hX, ← hA]; exact World.alloc_heap_new _ _
  have hb : Below w.heap.size w X := by rw [← hX]; exact (Below.refl _ _).alloc (Nat.le_refl _) _
  have c0 : X.cell? ⟨A, 0, none⟩ = some (.func (.func 87) #[] #[]) := by simp [World.cell?, h1]
  have c1 : X.cell? ⟨A, 1, none⟩ = some (.func (.func 89) #[] #[]) := by simp [World.cell?, h1]
  have c2 : X.cell? ⟨A, 2, none⟩ = some (.func (.func 90) #[] #[]) := by simp [World.cell?, h1]
  rw [hX]
  clear hX h1
  simp [bodyPost, results, Tryz.results68, go_sem, c0, c1, c2]
  exact ⟨rfl, by rw [← hA]; exact hb⟩
theorem sc_bytes (w : World) : Calls Tryz.prog 67 #[] w fun e w' => e = .returned bytV ∧ Below w.heap.size w w' := by
  go_enter Tryz.func67, Tryz.ntmps67
  go_wp2_with fail
  obtain ⟨A, hA⟩ : ∃ z, w.heap.size = z := ⟨_, rfl⟩
  rw [hA]
  obtain ⟨X, hX⟩ : ∃ z, w.alloc (.cells #[.func (.func 81) #[] #[], .func (.func 83) #[] #[], .func (.func 84) #[] #[]] 124) = z := ⟨_, rfl⟩
  have h1 : X.heap[A]? = some (.cells #[.func (.func 81) #[] #[], .func (.func 83) #[] #[], .func (.func 84) #[] #[]] 124 (0, 0)) := by rw [← hX, ← hA]; exact World.alloc_heap_new _ _
  have hb : Below w.heap.size w X := by rw [← hX]; exact (Below.refl _ _).alloc (Nat.le_refl _) _
  have c0 : X.cell? ⟨A, 0, none⟩ = some (.func (.func 81) #[] #[]) := by simp [World.cell?, h1]
  have c1 : X.cell? ⟨A, 1, none⟩ = some (.func (.func 83) #[] #[]) := by simp [World.cell?, h1]
  have c2 : X.cell? ⟨A, 2, none⟩ = some (.func (.func 84) #[] #[]) := by simp [World.cell?, h1]
  rw [hX]
  clear hX h1
  simp [bodyPost, results, Tryz.results67, go_sem, c0, c1, c2]
  exact ⟨rfl, by rw [← hA]; exact hb⟩
end Go.Proofs.YtbaakfcbakpmpaaGreatDoor
