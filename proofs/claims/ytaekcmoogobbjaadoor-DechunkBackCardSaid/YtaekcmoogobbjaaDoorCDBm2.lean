/- Texts of this claim, one behind the other: Rr, Ru, Rw, Ry, Rz, N2, N3, N4, N5, N6, N7. -/
import Derived.OrdersIn
import Derived.TacticsIn
import Derived.Lib.QuietBelow
import Derived.Test.YtaekcmoogobbjaaDoorCDBm1
import Derived.Defers
import Derived.Recover
import Derived.BigCall
import Derived.BigQuiet
import Derived.Laws.AppendOwn
import Derived.Lib.SmallJoins
/- A region that draws its order, within a round of a range over a function: the plain laws lifted, and the call of yield behind operations in whatever order. No condition but those that each lemma states. -/
namespace Go.Proofs.YtaekcmoogobbjaaDoor
set_option linter.unusedVariables false
set_option linter.unusedSimpArgs false
open Go.RowKit
set_option maxHeartbeats 2000000
def noDefer (ops : Array Oper) : Bool := ops.all fun o => match o.op with
  | .defer _ => false
  | _ => true
theorem noDefer_at {ops : Array Oper} (h : noDefer ops = true) {i : Nat} {o : Oper} (ho : ops[i]? = some o) : ∀ c, o.op ≠ .defer c := by
  intro c hc
  have h1 := (Array.all_eq_true_iff_forall_mem.1 h) o (Array.mem_of_getElem? ho)
  rw [hc] at h1
  cases h1
/-- an operation of a round, out of the plain one -/
theorem opR {P : Program} {l n : Nat} {o : Oper} {a : Act} {w : World} {K : Act → World → Prop} {Q : Exit → Act → World → Prop} (hd : ∀ c, o.op ≠ .defer c) (h : o.wp P a w K Q) :
    o.wpIn (Fence.wide.inRound l) n P a w K Q := by
  refine ⟨fun _ _ => trivial, ?_⟩
  rw [Fence.inRound_round, Oper.semAt_some l _ _ hd]
  unfold Oper.wp at h
  generalize (execOp a.eval o).run P w = r at h ⊢
  cases r with
  | ok x w' =>
    cases x <;> simp only [Oper.upon, Oper.uponIn] at h ⊢ <;>
      first
        | exact h
        | exact ⟨(fun e => by cases e), CallsIn.inRound l (callsIn_wide.2 h)⟩
        | exact ⟨(fun e => by cases e), fun c cs _ => let ⟨v, w', r, s⟩ := h c cs; ⟨v, w', r, stepsIn_wide.2 s⟩⟩
  | halt x w' => cases x <;> simp only [Oper.upon, Oper.uponIn] at h ⊢ <;> exact h
section
variable {P : Program} {ops : Array Oper} {Q' : Exit → Act → World → Prop} {md : Region.Mode} {C : World → Prop} {l n : Nat}
theorem wpOpR_of_qOp {i : Nat} {a : Act} {K : Act → Prop} {K' : Act → World → Prop} {w : World} (hd : noDefer ops = true) (hC : C w) (h : ∀ a w', C w' → K a → K' a w') (hh : qOp P ops C i K a) : wpOpIn (Fence.wide.inRound l) n P ops Q' i K' a w := by
  unfold qOp at hh
  unfold wpOpIn
  split
  · rename_i ho; simp only [ho] at hh; exact h _ _ hC hh
  · rename_i o ho
    simp only [ho] at hh
    split
    · rename_i hw; simp only [hw, if_true] at hh; exact opR (noDefer_at hd ho) (Oper.wp_of_quiet hC h hh)
    · rename_i hw; simp only [hw] at hh; exact ⟨fun _ _ => trivial, h _ _ hC hh⟩
theorem wpAnyR_of_quiet {Q : Act → Prop} (hd : noDefer ops = true) (hQ : ∀ a w, C w → Q a → Q' .normal a w) : ∀ (fuel : Nat) (listed : Array Bool) (a : Act) (w : World), C w →
    wpAnyQ P md ops C Q fuel listed a → wpAnyIn (Fence.wide.inRound l) n P md ops Q' fuel listed a w
  | 0, _, _, _, hw, h => ⟨h.1, hQ _ _ hw h.2⟩
  | fuel + 1, _, _, _, hw, h => ⟨fun h0 => hQ _ _ hw (h.1 h0), fun i hi => wpOpR_of_qOp hd hw (fun a' w' hw' => wpAnyR_of_quiet hd hQ fuel _ a' w' hw') (h.2 i hi)⟩
theorem wpR_region_quiet {id : Nat} {Q : Exit → Act → World → Prop} {a : Act} {w : World} (hm : P.follows .mixedOrders = true) (hd : noDefer ops = true) (hB : Region.lexB .any ops = true) (hC : C { w with drawn := w.drawn + 1 })
    (h : wpQuiet P ops C (fun a' => ∀ w', C w' → Q .normal a' w') ops.toList a) : (Code.region id ops true).wpIn (Fence.wide.inRound l) n P Q a w := by
  simp only [Region.lexB, Bool.and_eq_true] at hB
  refine wpIn_region_any hm (wpAnyR_of_quiet (Q := fun a' => ∀ w', C w' → Q .normal a' w') hd (fun _ w' hw' h => h w' hw') _ _ _ _ hC ?_)
  have := wpAnyQ_lex (C := C) (md := .any) hB.1 ops.toList 0 (Array.replicate ops.size false) a (by simp) (by simpa using hB.2) h
  simpa using this
/-- callees that make memory behind what there is -/
theorem wpR_region_below {id : Nat} {Q : Exit → Act → World → Prop} {a : Act} {w : World} {ls : List Oper} (hm : P.follows .mixedOrders = true) (hd : noDefer ls.toArray = true) (hB : Region.lexB .any ls.toArray = true)
    (h : wpQuiet P ls.toArray (fun w' => ∃ p : Regrown, w' = Go.Sort.grow (redrawn w p.d) p.os) (fun a' => ∀ w', (∃ p : Regrown, w' = Go.Sort.grow (redrawn w p.d) p.os) → Q .normal a' w') ls a) : (Code.region id ls.toArray true).wpIn (Fence.wide.inRound l) n P Q a w :=
  wpR_region_quiet (C := fun w' => ∃ p : Regrown, w' = Go.Sort.grow (redrawn w p.d) p.os) hm hd hB ⟨⟨w.drawn + 1, #[]⟩, by rw [Go.Sort.grow_empty]; rfl⟩ (by simpa using h)
end
section
variable {P : Program} {ops : Array Oper} {Q : Exit → Act → World → Prop} {md : Region.Mode} {F : Fence} {n : Nat}
theorem wpAnyIn_inv (hb : backB md ops = true) (Inv : (Nat → Bool) → Act → World → Prop)
    (hstep : ∀ (f : Nat → Bool) (a : Act) (w : World) (i : Nat) (o : Oper), ops[i]? = some o → f i = false → (∀ e ∈ o.after, Region.binds md e = true → f e.on = true) → Inv f a w →
      o.wpIn F n P a w (Inv (fun j => if j = i then true else f j)) Q)
    (hdone : ∀ (f : Nat → Bool) (a : Act) (w : World), (∀ i, i < ops.size → f i = true) → Inv f a w → Q .normal a w) :
    ∀ (fuel : Nat) (listed : Array Bool) (a : Act) (w : World), listed.size = ops.size → listed.toList.count false ≤ fuel → Inv (fun i => listed.getD i false) a w → wpAnyIn F n P md ops Q fuel listed a w := by
  intro fuel
  induction fuel with
  | zero =>
    intro listed a w hs hc hI
    have hr : Region.ready md ops listed = [] := by
      cases hr : Region.ready md ops listed with
      | nil => rfl
      | cons i r =>
        obtain ⟨o, ho, hl, hi, _⟩ := ready_mem (md := md) hs (i := i) (by rw [hr]; exact List.mem_cons_self)
        have h1 : false ∈ listed.toList := by
          simp only [Array.getD, hi, dite_true] at hl
          have h2 : listed[i] ∈ listed.toList := Array.mem_toList_iff.2 (Array.getElem_mem hi)
          have h3 : listed[i] = false := hl
          rwa [h3] at h2
        have := List.count_pos_iff.2 h1
        omega
    exact ⟨hr, hdone _ a w (ready_all hb hs hr) hI⟩
  | succ fuel ih =>
    intro listed a w hs hc hI
    refine ⟨fun hr => hdone _ a w (ready_all hb hs hr) hI, fun i hi => ?_⟩
    obtain ⟨o, ho, hl, hil, hpre⟩ := ready_mem hs hi
    have hg := (back_of hb ho).1
    have h1 := hstep _ a w i o ho hl hpre hI
    unfold wpOpIn
    simp only [ho]
    rw [if_pos (by simp [Region.wanted, hg])]
    refine Oper.wpIn_mono (fun a' w' hI' => ?_) h1
    refine ih _ a' w' (by simp [hs]) ?_ ?_
    · have h3 : listed.toList[i]'(by simpa using hil) = false := by
        simp only [Array.getD, hil, dite_true] at hl
        simpa using hl
      rw [Array.toList_setIfInBounds, List.count_set (h := by simpa using hil), h3]
      have h4 : 0 < listed.toList.count false := List.count_pos_iff.2 (by rw [← h3]; exact List.getElem_mem _)
      rw [if_pos (by rfl), if_neg (by decide)]
      omega
    · refine cast (congrArg (fun g => Inv g a' w') (funext fun j => ?_)) hI'
      by_cases hj : j = i
      · subst hj
        simp [Array.getD, hil]
      · rw [if_neg hj]
        simp only [Array.getD, Array.size_setIfInBounds]
        by_cases hjl : j < listed.size
        · simp [hjl, Array.getElem_setIfInBounds, Ne.symm hj]
        · simp [hjl]
theorem region_inv_in {id : Nat} {a : Act} {w : World} (hm : P.follows .mixedOrders = true) (hb : backB .any ops = true) (Inv : (Nat → Bool) → Act → World → Prop) (h0 : Inv (fun _ => false) a w.drew)
    (hstep : ∀ (f : Nat → Bool) (a : Act) (w : World) (i : Nat) (o : Oper), ops[i]? = some o → f i = false → (∀ e ∈ o.after, Region.binds .any e = true → f e.on = true) → Inv f a w →
      o.wpIn F n P a w (Inv (fun j => if j = i then true else f j)) Q)
    (hdone : ∀ (f : Nat → Bool) (a : Act) (w : World), (∀ i, i < ops.size → f i = true) → Inv f a w → Q .normal a w) : (Code.region id ops true).wpIn F n P Q a w := by
  refine wpIn_region_any hm (wpAnyIn_inv hb Inv hstep hdone _ _ a _ (by simp) ?_ ?_)
  · refine Nat.le_trans List.count_le_length ?_
    simp
  · refine cast (congrArg (fun g => Inv g a w.drew) (funext fun j => ?_)) h0
    by_cases hj : j < ops.size <;> simp [Array.getD, hj]
/-! what stands ahead of an operation, however far -/
def edgesOf (md : Region.Mode) (ops : Array Oper) (i : Nat) : List Nat := match ops[i]? with
  | some o => (o.after.toList.filter (Region.binds md)).map (·.on)
  | none => []
def ancOf (md : Region.Mode) (ops : Array Oper) : Nat → Nat → List Nat
  | 0, _ => []
  | k + 1, i => (edgesOf md ops i).flatMap fun j => j :: ancOf md ops k j
def ShutF (md : Region.Mode) (ops : Array Oper) (f : Nat → Bool) : Prop := ∀ i, f i = true → ∀ j ∈ edgesOf md ops i, f j = true
theorem anc_true {f : Nat → Bool} (hc : ShutF md ops f) : ∀ (k i : Nat), (∀ j ∈ edgesOf md ops i, f j = true) → ∀ j ∈ ancOf md ops k i, f j = true
  | 0, _, _, j, hj => by cases hj
  | k + 1, i, h, j, hj => by
    obtain ⟨x, hx, hj⟩ := List.mem_flatMap.1 hj
    rcases List.mem_cons.1 hj with rfl | hj
    · exact h _ hx
    · exact anc_true hc k x (hc x (h x hx)) j hj
theorem edges_of {f : Nat → Bool} {i : Nat} {o : Oper} (ho : ops[i]? = some o) (h : ∀ e ∈ o.after, Region.binds md e = true → f e.on = true) : ∀ j ∈ edgesOf md ops i, f j = true := by
  intro j hj
  unfold edgesOf at hj
  rw [ho] at hj
  obtain ⟨e, he, rfl⟩ := List.mem_map.1 hj
  obtain ⟨h1, h2⟩ := List.mem_filter.1 he
  exact h e (Array.mem_toList_iff.1 h1) h2
/-- the call of yield at place m, one operation behind it; ahead of it m operations in whatever order, each by what its slot holds -/
theorem region_yield {id l : Nat} {a0 : Act} {w0 : World} (m : Nat) (slot : Nat → Nat) (Fs : Nat → World → Value → Prop) (T : Act → World → Prop) (hm : P.follows .mixedOrders = true) (hb : backB .any ops = true) (hd : noDefer ops = true)
    (hsz : ops.size = m + 2) (hanc : ((List.range m).all fun j => (ancOf .any ops m m).contains j) = true) (hlast : (edgesOf .any ops (m + 1)).contains m = true)
    (hs : ∀ i, slot i < a0.tmps.size) (hinj : ∀ i j, i < m → j < m → slot i = slot j → i = j) (hF : ∀ i w w' v, Fs i w v → Below w.heap.size w w' → Fs i w' v)
    (hdst : ∀ i o, i < m → ops[i]? = some o → o.dst = some (slot i))
    (hstep : ∀ (f : Nat → Bool) (a : Act) (w : World) (i : Nat) (o : Oper), i < m → ops[i]? = some o → (∀ e ∈ o.after, Region.binds .any e = true → Fs e.on w (a.tmps.getD (slot e.on) undef)) → Below w0.heap.size w0 w →
      (∀ j, (∀ i, i < m → slot i ≠ j) → a.tmps.getD j undef = a0.tmps.getD j undef) → o.wp P a w (fun a' w' => ∃ v, a' = a.put o.dst v ∧ Fs i w' v ∧ Below w.heap.size w w') Q)
    (hyield : ∀ (vs : Nat → Value) (w : World) (o : Oper), ops[m]? = some o → Below w0.heap.size w0 w → (∀ i, i < m → Fs i w (vs i)) →
      o.wpIn (Fence.wide.inRound l) n P { a0 with tmps := fillN slot vs m a0.tmps } w T Q)
    (htail : ∀ (a : Act) (w : World) (o : Oper), ops[m + 1]? = some o → T a w → o.wpIn (Fence.wide.inRound l) n P a w (fun a' w' => Q .normal a' w') Q) :
    (Code.region id ops true).wpIn (Fence.wide.inRound l) n P Q a0 w0 := by
  refine region_inv_in hm hb (fun f a w => ShutF .any ops f ∧ (f m = false → f (m + 1) = false ∧ Stand a0 w0 m slot Fs f a w) ∧ (f m = true → f (m + 1) = false → T a w) ∧ (f (m + 1) = true → Q .normal a w))
    ⟨(fun i h => by cases h), (fun _ => ⟨rfl, rfl, rfl, (fun _ _ => rfl), ⟨rfl, rfl, rfl, Nat.le_refl _, (fun _ _ => rfl)⟩, (fun _ _ h => by cases h)⟩), (fun h => by cases h), (fun h => by cases h)⟩ ?_ ?_
  · rintro f a w i o ho hf hpre ⟨hc, h1, h2, h3⟩
    have hi := (Array.getElem?_eq_some_iff.1 ho).1
    have hee := edges_of ho hpre
    have hc' : ShutF .any ops (fun j => if j = i then true else f j) := by
      intro x hx y hy
      show (if y = i then true else f y) = true
      by_cases hyi : y = i
      · rw [if_pos hyi]
      · rw [if_neg hyi]
        by_cases hxi : x = i
        · subst hxi; exact hee y hy
        · exact hc x (by simpa [hxi] using hx) y hy
    have hpres : ∀ {g : Nat → Bool}, ShutF .any ops g → (∀ j ∈ edgesOf .any ops m, g j = true) → ∀ j, j < m → g j = true := fun hg he j hj => by
      have h4 := List.all_eq_true.1 hanc j (List.mem_range.2 hj)
      exact anc_true hg m m he j (by simpa using h4)
    by_cases him : i = m
    · subst him
      obtain ⟨h4, hI⟩ := h1 hf
      have hall := hpres hc hee
      have e : a = { a0 with tmps := fillN slot (fun j => a.tmps.getD (slot j) undef) i a0.tmps } := by
        have h5 : a.tmps = fillN slot (fun j => a.tmps.getD (slot j) undef) i a0.tmps := by
          refine ext_getD (by rw [fillN_size, hI.size]) (fun j => ?_)
          by_cases hj : ∃ k, k < i ∧ slot k = j
          · obtain ⟨k, hk, rfl⟩ := hj
            rw [fillN_at slot _ _ hs _ hinj k hk]
          · rw [fillN_get slot _ _ hs _ j (fun k hk e => hj ⟨k, hk, e⟩), hI.rest j (fun k hk e => hj ⟨k, hk, e⟩)]
        obtain ⟨t, d⟩ := a
        have h6 := hI.defers
        simp only at h5 h6
        rw [← h5, h6]
      have h7 := hyield (fun j => a.tmps.getD (slot j) undef) w o ho hI.bel (fun j hj => hI.have_ j hj (hall j hj))
      rw [← e] at h7
      refine Oper.wpIn_mono (fun a' w' hT => ⟨hc', fun h => by simp at h, fun _ _ => hT, fun h => ?_⟩) h7
      have h' : (if i + 1 = i then true else f (i + 1)) = true := h
      rw [if_neg (by omega), h4] at h'
      cases h'
    · by_cases hit : i = m + 1
      · subst hit
        have hfm : f m = true := hee m (by simpa using hlast)
        refine Oper.wpIn_mono (fun a' w' hT => ⟨hc', fun h => ?_, fun _ h => by simp at h, fun _ => hT⟩) (htail a w o ho (h2 hfm hf))
        have h' : (if m = m + 1 then true else f m) = false := h
        rw [if_neg (by omega), hfm] at h'
        cases h'
      · have hlt : i < m := by omega
        have hfm : f m = false := by
          cases hfm : f m with
          | false => rfl
          | true =>
            have := hpres hc (hc m hfm) i hlt
            rw [hf] at this
            cases this
        obtain ⟨h4, hI⟩ := h1 hfm
        refine Oper.wpIn_mono ?_ (opR (noDefer_at hd ho) (hstep f a w i o hlt ho (fun e he hbd => hI.have_ e.on (by have := (back_of hb ho).2 e he hbd; omega) (hpre e he hbd)) hI.bel hI.rest))
        rintro a' w' ⟨v, rfl, hv, hbw⟩
        rw [hdst i o hlt ho]
        have hsl : slot i < a.tmps.size := by rw [hI.size]; exact hs i
        refine ⟨hc', fun _ => ⟨by show (if m + 1 = i then true else f (m + 1)) = false; rw [if_neg (by omega)]; exact h4, hI.defers, by rw [← hI.size]; exact Array.size_setIfInBounds .., fun j hj => ?_, hI.bel.trans (hbw.mono hI.bel.size), fun j hj hfj => ?_⟩, fun h => ?_, fun h => ?_⟩
        · show (a.tmps.setIfInBounds (slot i) v).getD j undef = _
          rw [getD_set _ _ _ _ hsl, if_neg (Ne.symm (hj i hlt))]
          exact hI.rest j hj
        · show Fs j w' ((a.tmps.setIfInBounds (slot i) v).getD (slot j) undef)
          rw [getD_set _ _ _ _ hsl]
          by_cases hji : j = i
          · subst hji; rw [if_pos rfl]; exact hv
          · rw [if_neg (fun e => hji (hinj j i hj hlt e))]
            have h2 : f j = true := by simpa [hji] using hfj
            exact hF j w w' _ (hI.have_ j hj h2) hbw
        · have h' : (if m = i then true else f m) = true := h
          rw [if_neg (Ne.symm him), hfm] at h'; cases h'
        · have h' : (if m + 1 = i then true else f (m + 1)) = true := h
          rw [if_neg (Ne.symm hit), h4] at h'; cases h'
  · rintro f a w hall ⟨_, _, _, h3⟩
    exact h3 (hall (m + 1) (by omega))
/-- the call of yield within a round of the iterator's own loop -/
theorem op_yield {l l' k : Nat} {o : Oper} {a : Act} {w : World} {K : Act → World → Prop} {R : Ending → World → Prop} (t : Nat) (xs : Array Operand) (ty : Array TypeId) (args : Array Value) (ho : o.op = Op.call { callee := .value (.tmp t), args := xs, argTypes := ty })
    (ht : a.tmps.getD t undef = .func (.yield l') #[] #[]) (hx : xs.map a.eval = args) (h : YieldAt Fence.wide k P l' args w R) (hR : ∀ e w', R e w' → ∃ b, e = .returned (.bool b) ∧ K (a.put o.dst (.bool b)) w') :
    o.wpIn (Fence.wide.inRound l) n P a w K Q := by
  obtain ⟨fn, tmps, assign, body, hy, hr⟩ := h
  refine ⟨fun _ _ => trivial, ?_⟩
  rw [Fence.inRound_round, Oper.semAt_some l _ _ (fun c h => by rw [ho] at h; cases h)]
  have ht2 : a.tmps[t]?.getD undef = .func (.yield l') #[] #[] := by rw [← Array.getD_eq_getD_getElem?]; exact ht
  have e : (execOp a.eval o).run P w = .ok (.round l' fn tmps assign body) w := by
    unfold execOp
    simp [ho, resolve, invoke, ht2, hx, hy, go_sem]
  rw [e]
  refine ⟨(fun h => by cases h), ?_⟩
  refine RoundIn.mono (F := Fence.wide) (roundIn_any _ hr) ?_
  intro z w' hz
  obtain ⟨b, rfl, hk⟩ := hR z w' hz
  exact hk
end
end Go.Proofs.YtaekcmoogobbjaaDoor

/- A drawn region whose last operation waits for all others, where the world is told by a relation of its own. -/
namespace Go.Proofs.YtaekcmoogobbjaaDoor
set_option linter.unusedVariables false
set_option linter.unusedSimpArgs false
open Go.RowKit
section
variable {P : Program} {ops : Array Oper} {Q : Exit → Act → World → Prop}
theorem region_last2 {id : Nat} {a0 : Act} {w0 : World} (m : Nat) (slot : Nat → Nat) (F : Nat → World → Value → Prop) (T : (Nat → Bool) → World → Prop) (hm : P.follows .mixedOrders = true) (hb : backB .any ops = true)
    (hsz : ops.size = m + 1) (hanc : ((List.range m).all fun j => (ancOf .any ops m m).contains j) = true)
    (hs : ∀ i, slot i < a0.tmps.size) (hinj : ∀ i j, i < m → j < m → slot i = slot j → i = j) (h0 : T (fun _ => false) w0.drew)
    (hdst : ∀ i o, i < m → ops[i]? = some o → o.dst = some (slot i))
    (hstep : ∀ (f : Nat → Bool) (a : Act) (w : World) (i : Nat) (o : Oper), i < m → ops[i]? = some o → f i = false → (∀ e ∈ o.after, Region.binds .any e = true → f e.on = true ∧ F e.on w (a.tmps.getD (slot e.on) undef)) → T f w →
      (∀ j, (∀ i, i < m → slot i ≠ j) → a.tmps.getD j undef = a0.tmps.getD j undef) →
      o.wp P a w (fun a' w' => ∃ v, a' = a.put o.dst v ∧ F i w' v ∧ T (fun j => if j = i then true else f j) w' ∧ ∀ j v', f j = true → F j w v' → F j w' v') Q)
    (hlast : ∀ (f : Nat → Bool) (vs : Nat → Value) (w : World) (o : Oper), ops[m]? = some o → (∀ i, i < m → f i = true) → T f w → (∀ i, i < m → F i w (vs i)) →
      o.wp P { a0 with tmps := fillN slot vs m a0.tmps } w (fun a' w' => Q .normal a' w') Q) :
    (Code.region id ops true).wp P Q a0 w0 := by
  refine region_inv hm hb (fun f a w => ShutF .any ops f ∧ (f m = false → Stand2 a0 m slot F T f a w) ∧ (f m = true → Q .normal a w))
    ⟨(fun i h => by cases h), (fun _ => ⟨rfl, rfl, (fun _ _ => rfl), (fun _ _ _ => rfl), h0, (fun _ _ h => by cases h)⟩), (fun h => by cases h)⟩ ?_ ?_
  · rintro f a w i o ho hf hpre ⟨hc, h1, h2⟩
    have hi := (Array.getElem?_eq_some_iff.1 ho).1
    have hee := edges_of ho hpre
    have hc' : ShutF .any ops (fun j => if j = i then true else f j) := by
      intro x hx y hy
      show (if y = i then true else f y) = true
      by_cases hyi : y = i
      · rw [if_pos hyi]
      · rw [if_neg hyi]
        by_cases hxi : x = i
        · subst hxi; exact hee y hy
        · exact hc x (by simpa [hxi] using hx) y hy
    have hpres : ∀ {g : Nat → Bool}, ShutF .any ops g → (∀ j ∈ edgesOf .any ops m, g j = true) → ∀ j, j < m → g j = true := fun hg he j hj => by
      have h4 := List.all_eq_true.1 hanc j (List.mem_range.2 hj)
      exact anc_true hg m m he j (by simpa using h4)
    by_cases him : i = m
    · subst him
      have hI := h1 hf
      have hall := hpres hc hee
      have e : a = { a0 with tmps := fillN slot (fun j => a.tmps.getD (slot j) undef) i a0.tmps } := by
        have h5 : a.tmps = fillN slot (fun j => a.tmps.getD (slot j) undef) i a0.tmps := by
          refine ext_getD (by rw [fillN_size, hI.size]) (fun j => ?_)
          by_cases hj : ∃ k, k < i ∧ slot k = j
          · obtain ⟨k, hk, rfl⟩ := hj
            rw [fillN_at slot _ _ hs _ hinj k hk]
          · rw [fillN_get slot _ _ hs _ j (fun k hk e => hj ⟨k, hk, e⟩), hI.rest j (fun k hk e => hj ⟨k, hk, e⟩)]
        obtain ⟨t, d⟩ := a
        have h6 := hI.defers
        simp only at h5 h6
        rw [← h5, h6]
      have h7 := hlast f (fun j => a.tmps.getD (slot j) undef) w o ho hall hI.told (fun j hj => hI.have_ j hj (hall j hj))
      rw [← e] at h7
      exact Oper.wp_mono (fun a' w' hT => ⟨hc', fun h => by simp at h, fun _ => hT⟩) h7
    · have hlt : i < m := by omega
      have hfm : f m = false := by
        cases hfm : f m with
        | false => rfl
        | true =>
          have := hpres hc (hc m hfm) i hlt
          rw [hf] at this
          cases this
      have hI := h1 hfm
      refine Oper.wp_mono ?_ (hstep f a w i o hlt ho hf (fun e he hbd => ⟨hpre e he hbd, hI.have_ e.on (by have := (back_of hb ho).2 e he hbd; omega) (hpre e he hbd)⟩) hI.told hI.rest)
      rintro a' w' ⟨v, rfl, hv, ht, hst⟩
      rw [hdst i o hlt ho]
      have hsl : slot i < a.tmps.size := by rw [hI.size]; exact hs i
      refine ⟨hc', fun _ => ⟨hI.defers, by rw [← hI.size]; exact Array.size_setIfInBounds .., fun j hj => ?_, fun j hj hfj => ?_, ht, fun j hj hfj => ?_⟩, fun h => ?_⟩
      · show (a.tmps.setIfInBounds (slot i) v).getD j undef = _
        rw [getD_set _ _ _ _ hsl, if_neg (Ne.symm (hj i hlt))]
        exact hI.rest j hj
      · show (a.tmps.setIfInBounds (slot i) v).getD (slot j) undef = _
        have hji : j ≠ i := fun e => by simp [e] at hfj
        rw [getD_set _ _ _ _ hsl, if_neg (fun e => hji (hinj j i hj hlt e))]
        exact hI.yet j hj (by simpa [hji] using hfj)
      · show F j w' ((a.tmps.setIfInBounds (slot i) v).getD (slot j) undef)
        rw [getD_set _ _ _ _ hsl]
        by_cases hji : j = i
        · subst hji; rw [if_pos rfl]; exact hv
        · rw [if_neg (fun e => hji (hinj j i hj hlt e))]
          have h2 : f j = true := by simpa [hji] using hfj
          exact hst j _ h2 (hI.have_ j hj h2)
      · have h' : (if m = i then true else f m) = true := h
        rw [if_neg (Ne.symm him), hfm] at h'; cases h'
  · rintro f a w hall ⟨_, _, h3⟩
    exact h3 (hall m (by omega))
end
end Go.Proofs.YtaekcmoogobbjaaDoor

/- Steps of drawn regions: an operation that leaves the world, a call, a call of two. -/
namespace Go.Proofs.YtaekcmoogobbjaaDoor
set_option linter.unusedVariables false
set_option linter.unusedSimpArgs false
open Go.RowKit
theorem rg_ev {a : Act} {t : Nat} {v : Value} (h : a.tmps.getD t undef = v) : a.tmps[t]?.getD undef = v := by rw [← Array.getD_eq_getD_getElem?]; exact h
theorem rg_same {P : Program} {o : Oper} {a : Act} {w : World} {Q : Exit → Act → World → Prop} {F : World → Value → Prop} (v : Value) (h : o.wp P a w (fun a' w' => a' = a.put o.dst v ∧ w' = w) Q) (hF : F w v) :
    o.wp P a w (fun a' w' => ∃ v, a' = a.put o.dst v ∧ F w' v ∧ Below w.heap.size w w') Q := by
  refine Oper.wp_mono ?_ h
  rintro a' w' ⟨rfl, rfl⟩
  exact ⟨v, rfl, hF, Below.refl _ _⟩
theorem rg_same2 {P : Program} {o : Oper} {a : Act} {w : World} {Q : Exit → Act → World → Prop} {F : Nat → World → Value → Prop} {T : (Nat → Bool) → World → Prop} {f : Nat → Bool} {i : Nat} (v : Value)
    (h : o.wp P a w (fun a' w' => a' = a.put o.dst v ∧ w' = w) Q) (hF : F i w v) (hT : T (fun j => if j = i then true else f j) w) :
    o.wp P a w (fun a' w' => ∃ v, a' = a.put o.dst v ∧ F i w' v ∧ T (fun j => if j = i then true else f j) w' ∧ ∀ j v', f j = true → F j w v' → F j w' v') Q := by
  refine Oper.wp_mono ?_ h
  rintro a' w' ⟨rfl, rfl⟩
  exact ⟨v, rfl, hF, hT, fun _ _ _ h => h⟩
theorem rg_call {P : Program} {o : Oper} {a : Act} {w : World} {K : Act → World → Prop} {Q : Exit → Act → World → Prop} (t k : Nat) (ty : Array TypeId) (v : Value) (R : Ending → World → Prop) (ho : o.op = Op.call { callee := .value (.func k), args := #[.tmp t], argTypes := ty }) (hv : a.tmps.getD t undef = v)
    (eg : ∀ args w, (callFunc k args).run P w = .ok (.enter k args) w) (hc : Calls P k #[v] w R) (hR : ∀ e w', R e w' → ∃ r, e = .returned r ∧ K (a.put o.dst r) w') : o.wp P a w K Q := by
  have e := rg_ev hv
  have e2 : a.eval (.func k) = .func (.func k) #[] #[] := rfl
  unfold Oper.wp execOp
  simp [ho, resolve, invoke, e2, e, eg, go_sem]
  refine hc.mono ?_
  intro z w' hz
  obtain ⟨r, rfl, hk⟩ := hR z w' hz
  exact hk
theorem rg_callc {P : Program} {o : Oper} {a : Act} {w : World} {K : Act → World → Prop} {Q : Exit → Act → World → Prop} (t k : Nat) (ty : Array TypeId) (v c : Value) (R : Ending → World → Prop) (ho : o.op = Op.call { callee := .value (.func k), args := #[.tmp t, .const c], argTypes := ty }) (hv : a.tmps.getD t undef = v)
    (eg : ∀ args w, (callFunc k args).run P w = .ok (.enter k args) w) (hc : Calls P k #[v, c] w R) (hR : ∀ e w', R e w' → ∃ r, e = .returned r ∧ K (a.put o.dst r) w') : o.wp P a w K Q := by
  have e := rg_ev hv
  have e2 : a.eval (.func k) = .func (.func k) #[] #[] := rfl
  have e3 : a.eval (.const c) = c := rfl
  unfold Oper.wp execOp
  simp [ho, resolve, invoke, e2, e3, e, eg, go_sem]
  refine hc.mono ?_
  intro z w' hz
  obtain ⟨r, rfl, hk⟩ := hR z w' hz
  exact hk
theorem rg_call2 {P : Program} {o : Oper} {a : Act} {w : World} {K : Act → World → Prop} {Q : Exit → Act → World → Prop} (s t k : Nat) (ty : Array TypeId) (u v : Value) (R : Ending → World → Prop) (ho : o.op = Op.call { callee := .value (.func k), args := #[.tmp s, .tmp t], argTypes := ty }) (hu : a.tmps.getD s undef = u) (hv : a.tmps.getD t undef = v)
    (eg : ∀ args w, (callFunc k args).run P w = .ok (.enter k args) w) (hc : Calls P k #[u, v] w R) (hR : ∀ e w', R e w' → ∃ r, e = .returned r ∧ K (a.put o.dst r) w') : o.wp P a w K Q := by
  have e := rg_ev hv
  have e1 := rg_ev hu
  have e2 : a.eval (.func k) = .func (.func k) #[] #[] := rfl
  unfold Oper.wp execOp
  simp [ho, resolve, invoke, e2, e, e1, eg, go_sem]
  refine hc.mono ?_
  intro z w' hz
  obtain ⟨r, rfl, hk⟩ := hR z w' hz
  exact hk
end Go.Proofs.YtaekcmoogobbjaaDoor

/- As region_last3, where what a slot holds may hang on which operations are done. -/
namespace Go.Proofs.YtaekcmoogobbjaaDoor
set_option linter.unusedVariables false
set_option linter.unusedSimpArgs false
open Go.RowKit
structure Stand3 (a0 : Act) (m : Nat) (slot : Nat → Nat) (F : (Nat → Bool) → Nat → World → Value → Prop) (T : (Nat → Bool) → World → Prop) (f : Nat → Bool) (a : Act) (w : World) : Prop where
  defers : a.defers = a0.defers
  size : a.tmps.size = a0.tmps.size
  rest : ∀ j, (∀ i, i < m → slot i ≠ j) → a.tmps.getD j undef = a0.tmps.getD j undef
  yet : ∀ i, i < m → f i = false → a.tmps.getD (slot i) undef = a0.tmps.getD (slot i) undef
  told : T f w
  have_ : ∀ i, i < m → f i = true → F f i w (a.tmps.getD (slot i) undef)
theorem rg_same3 {P : Program} {o : Oper} {a : Act} {w : World} {Q : Exit → Act → World → Prop} {F : (Nat → Bool) → Nat → World → Value → Prop} {T : (Nat → Bool) → World → Prop} {f : Nat → Bool} {i : Nat} (v : Value)
    (h : o.wp P a w (fun a' w' => a' = a.put o.dst v ∧ w' = w) Q) (hF : F (fun j => if j = i then true else f j) i w v) (hT : T (fun j => if j = i then true else f j) w) (hM : ∀ j v', F f j w v' → F (fun j => if j = i then true else f j) j w v') :
    o.wp P a w (fun a' w' => ∃ v, a' = a.put o.dst v ∧ F (fun j => if j = i then true else f j) i w' v ∧ T (fun j => if j = i then true else f j) w' ∧ ∀ j v', f j = true → F f j w v' → F (fun j => if j = i then true else f j) j w' v') Q := by
  refine Oper.wp_mono ?_ h
  rintro a' w' ⟨rfl, rfl⟩
  exact ⟨v, rfl, hF, hT, fun j v' _ h => hM j v' h⟩
section
variable {P : Program} {ops : Array Oper} {Q : Exit → Act → World → Prop}
theorem region_last3 {id : Nat} {a0 : Act} {w0 : World} (m : Nat) (slot : Nat → Nat) (F : (Nat → Bool) → Nat → World → Value → Prop) (T : (Nat → Bool) → World → Prop) (hm : P.follows .mixedOrders = true) (hb : backB .any ops = true)
    (hsz : ops.size = m + 1) (hanc : ((List.range m).all fun j => (ancOf .any ops m m).contains j) = true)
    (hs : ∀ i, slot i < a0.tmps.size) (hinj : ∀ i j, i < m → j < m → slot i = slot j → i = j) (h0 : T (fun _ => false) w0.drew)
    (hdst : ∀ i o, i < m → ops[i]? = some o → o.dst = some (slot i))
    (hstep : ∀ (f : Nat → Bool) (a : Act) (w : World) (i : Nat) (o : Oper), i < m → ops[i]? = some o → f i = false → (∀ e ∈ o.after, Region.binds .any e = true → f e.on = true ∧ F f e.on w (a.tmps.getD (slot e.on) undef)) → T f w →
      (∀ j, (∀ i, i < m → slot i ≠ j) → a.tmps.getD j undef = a0.tmps.getD j undef) →
      o.wp P a w (fun a' w' => ∃ v, a' = a.put o.dst v ∧ F (fun j => if j = i then true else f j) i w' v ∧ T (fun j => if j = i then true else f j) w' ∧ ∀ j v', f j = true → F f j w v' → F (fun j => if j = i then true else f j) j w' v') Q)
    (hlast : ∀ (f : Nat → Bool) (vs : Nat → Value) (w : World) (o : Oper), ops[m]? = some o → (∀ i, i < m → f i = true) → T f w → (∀ i, i < m → F f i w (vs i)) →
      o.wp P { a0 with tmps := fillN slot vs m a0.tmps } w (fun a' w' => Q .normal a' w') Q) :
    (Code.region id ops true).wp P Q a0 w0 := by
  refine region_inv hm hb (fun f a w => ShutF .any ops f ∧ (f m = false → Stand3 a0 m slot F T f a w) ∧ (f m = true → Q .normal a w))
    ⟨(fun i h => by cases h), (fun _ => ⟨rfl, rfl, (fun _ _ => rfl), (fun _ _ _ => rfl), h0, (fun _ _ h => by cases h)⟩), (fun h => by cases h)⟩ ?_ ?_
  · rintro f a w i o ho hf hpre ⟨hc, h1, h2⟩
    have hi := (Array.getElem?_eq_some_iff.1 ho).1
    have hee := edges_of ho hpre
    have hc' : ShutF .any ops (fun j => if j = i then true else f j) := by
      intro x hx y hy
      show (if y = i then true else f y) = true
      by_cases hyi : y = i
      · rw [if_pos hyi]
      · rw [if_neg hyi]
        by_cases hxi : x = i
        · subst hxi; exact hee y hy
        · exact hc x (by simpa [hxi] using hx) y hy
    have hpres : ∀ {g : Nat → Bool}, ShutF .any ops g → (∀ j ∈ edgesOf .any ops m, g j = true) → ∀ j, j < m → g j = true := fun hg he j hj => by
      have h4 := List.all_eq_true.1 hanc j (List.mem_range.2 hj)
      exact anc_true hg m m he j (by simpa using h4)
    by_cases him : i = m
    · subst him
      have hI := h1 hf
      have hall := hpres hc hee
      have e : a = { a0 with tmps := fillN slot (fun j => a.tmps.getD (slot j) undef) i a0.tmps } := by
        have h5 : a.tmps = fillN slot (fun j => a.tmps.getD (slot j) undef) i a0.tmps := by
          refine ext_getD (by rw [fillN_size, hI.size]) (fun j => ?_)
          by_cases hj : ∃ k, k < i ∧ slot k = j
          · obtain ⟨k, hk, rfl⟩ := hj
            rw [fillN_at slot _ _ hs _ hinj k hk]
          · rw [fillN_get slot _ _ hs _ j (fun k hk e => hj ⟨k, hk, e⟩), hI.rest j (fun k hk e => hj ⟨k, hk, e⟩)]
        obtain ⟨t, d⟩ := a
        have h6 := hI.defers
        simp only at h5 h6
        rw [← h5, h6]
      have h7 := hlast f (fun j => a.tmps.getD (slot j) undef) w o ho hall hI.told (fun j hj => hI.have_ j hj (hall j hj))
      rw [← e] at h7
      exact Oper.wp_mono (fun a' w' hT => ⟨hc', fun h => by simp at h, fun _ => hT⟩) h7
    · have hlt : i < m := by omega
      have hfm : f m = false := by
        cases hfm : f m with
        | false => rfl
        | true =>
          have := hpres hc (hc m hfm) i hlt
          rw [hf] at this
          cases this
      have hI := h1 hfm
      refine Oper.wp_mono ?_ (hstep f a w i o hlt ho hf (fun e he hbd => ⟨hpre e he hbd, hI.have_ e.on (by have := (back_of hb ho).2 e he hbd; omega) (hpre e he hbd)⟩) hI.told hI.rest)
      rintro a' w' ⟨v, rfl, hv, ht, hst⟩
      rw [hdst i o hlt ho]
      have hsl : slot i < a.tmps.size := by rw [hI.size]; exact hs i
      refine ⟨hc', fun _ => ⟨hI.defers, by rw [← hI.size]; exact Array.size_setIfInBounds .., fun j hj => ?_, fun j hj hfj => ?_, ht, fun j hj hfj => ?_⟩, fun h => ?_⟩
      · show (a.tmps.setIfInBounds (slot i) v).getD j undef = _
        rw [getD_set _ _ _ _ hsl, if_neg (Ne.symm (hj i hlt))]
        exact hI.rest j hj
      · show (a.tmps.setIfInBounds (slot i) v).getD (slot j) undef = _
        have hji : j ≠ i := fun e => by simp [e] at hfj
        rw [getD_set _ _ _ _ hsl, if_neg (fun e => hji (hinj j i hj hlt e))]
        exact hI.yet j hj (by simpa [hji] using hfj)
      · show F (fun j => if j = i then true else f j) j w' ((a.tmps.setIfInBounds (slot i) v).getD (slot j) undef)
        rw [getD_set _ _ _ _ hsl]
        by_cases hji : j = i
        · subst hji; rw [if_pos rfl]; exact hv
        · rw [if_neg (fun e => hji (hinj j i hj hlt e))]
          have h2 : f j = true := by simpa [hji] using hfj
          exact hst j _ h2 (hI.have_ j hj h2)
      · have h' : (if m = i then true else f m) = true := h
        rw [if_neg (Ne.symm him), hfm] at h'; cases h'
  · rintro f a w hall ⟨_, _, h3⟩
    exact h3 (hall m (by omega))
end
end Go.Proofs.YtaekcmoogobbjaaDoor

/- A drawn region by what its slots hold (which may hang on what is done), where some operations fill no slot: such a one names a slot of none of the others. -/
namespace Go.Proofs.YtaekcmoogobbjaaDoor
set_option linter.unusedVariables false
set_option linter.unusedSimpArgs false
open Go.RowKit
section
variable {P : Program} {ops : Array Oper} {Q : Exit → Act → World → Prop}
theorem region_slots4 {id : Nat} {a0 : Act} {w0 : World} (slot : Nat → Nat) (F : (Nat → Bool) → Nat → World → Value → Prop) (T : (Nat → Bool) → World → Prop) (hm : P.follows .mixedOrders = true) (hb : backB .any ops = true)
    (hs : ∀ i, slot i < a0.tmps.size) (hinj : ∀ i j, i < ops.size → j < ops.size → slot i = slot j → i = j) (h0 : T (fun _ => false) w0.drew)
    (hdst : ∀ i o, ops[i]? = some o → o.dst = some (slot i) ∨ o.dst = none)
    (hstep : ∀ (f : Nat → Bool) (a : Act) (w : World) (i : Nat) (o : Oper), ops[i]? = some o → f i = false → (∀ e ∈ o.after, Region.binds .any e = true → f e.on = true ∧ F f e.on w (a.tmps.getD (slot e.on) undef)) → T f w →
      (∀ j, (∀ i, i < ops.size → slot i ≠ j) → a.tmps.getD j undef = a0.tmps.getD j undef) →
      o.wp P a w (fun a' w' => ∃ v, a' = a.put o.dst v ∧ (o.dst = none → v = a0.tmps.getD (slot i) undef) ∧ F (fun j => if j = i then true else f j) i w' v ∧ T (fun j => if j = i then true else f j) w' ∧ ∀ j, f j = true → F f j w (a.tmps.getD (slot j) undef) → F (fun j => if j = i then true else f j) j w' (a.tmps.getD (slot j) undef)) Q)
    (hdone : ∀ (f : Nat → Bool) (vs : Nat → Value) (w : World), (∀ i, i < ops.size → f i = true) → T f w → (∀ i, i < ops.size → F f i w (vs i)) → Q .normal { a0 with tmps := fillN slot vs ops.size a0.tmps } w) : (Code.region id ops true).wp P Q a0 w0 := by
  refine region_inv hm hb (Stand3 a0 ops.size slot F T) ⟨rfl, rfl, fun _ _ => rfl, fun _ _ _ => rfl, h0, fun _ _ h => by cases h⟩ ?_ ?_
  · intro f a w i o ho hf hpre hI
    have hi := (Array.getElem?_eq_some_iff.1 ho).1
    refine Oper.wp_mono ?_ (hstep f a w i o ho hf (fun e he hbd => ⟨hpre e he hbd, hI.have_ e.on (by have := (back_of hb ho).2 e he hbd; omega) (hpre e he hbd)⟩) hI.told hI.rest)
    rintro a' w' ⟨v, rfl, hno, hv, ht, hst⟩
    rcases hdst i o ho with hd | hd
    · rw [hd]
      have hsl : slot i < a.tmps.size := by rw [hI.size]; exact hs i
      refine ⟨hI.defers, by rw [← hI.size]; exact Array.size_setIfInBounds .., fun j hj => ?_, fun j hj hfj => ?_, ht, fun j hj hfj => ?_⟩
      · show (a.tmps.setIfInBounds (slot i) v).getD j undef = _
        rw [getD_set _ _ _ _ hsl, if_neg (Ne.symm (hj i hi))]
        exact hI.rest j hj
      · show (a.tmps.setIfInBounds (slot i) v).getD (slot j) undef = _
        have hji : j ≠ i := fun e => by simp [e] at hfj
        rw [getD_set _ _ _ _ hsl, if_neg (fun e => hji (hinj j i hj hi e))]
        exact hI.yet j hj (by simpa [hji] using hfj)
      · show F (fun j => if j = i then true else f j) j w' ((a.tmps.setIfInBounds (slot i) v).getD (slot j) undef)
        rw [getD_set _ _ _ _ hsl]
        by_cases hji : j = i
        · subst hji; rw [if_pos rfl]; exact hv
        · rw [if_neg (fun e => hji (hinj j i hj hi e))]
          have h2 : f j = true := by simpa [hji] using hfj
          exact hst j h2 (hI.have_ j hj h2)
    · rw [hd]
      refine ⟨hI.defers, hI.size, hI.rest, fun j hj hfj => ?_, ht, fun j hj hfj => ?_⟩
      · have hji : j ≠ i := fun e => by simp [e] at hfj
        exact hI.yet j hj (by simpa [hji] using hfj)
      · show F (fun j => if j = i then true else f j) j w' (a.tmps.getD (slot j) undef)
        by_cases hji : j = i
        · subst hji
          rw [hI.yet j hj hf, ← hno hd]
          exact hv
        · have h2 : f j = true := by simpa [hji] using hfj
          exact hst j h2 (hI.have_ j hj h2)
  · intro f a w hall hI
    have e : a = { a0 with tmps := fillN slot (fun i => a.tmps.getD (slot i) undef) ops.size a0.tmps } := by
      have h1 : a.tmps = fillN slot (fun i => a.tmps.getD (slot i) undef) ops.size a0.tmps := by
        refine ext_getD (by rw [fillN_size, hI.size]) (fun j => ?_)
        by_cases hj : ∃ i, i < ops.size ∧ slot i = j
        · obtain ⟨i, hi, rfl⟩ := hj
          rw [fillN_at slot _ _ hs _ hinj i hi]
        · rw [fillN_get slot _ _ hs _ j (fun i hi e => hj ⟨i, hi, e⟩), hI.rest j (fun i hi e => hj ⟨i, hi, e⟩)]
      obtain ⟨t, d⟩ := a
      have h2 := hI.defers
      simp only at h1 h2
      rw [← h1, h2]
    rw [e]
    exact hdone f _ w hall hI.told (fun i hi => hI.have_ i hi (hall i hi))
/-- the same, with a relation between two slots' values -/
theorem region_slots5 {id : Nat} {a0 : Act} {w0 : World} (slot : Nat → Nat) (F : (Nat → Bool) → Nat → World → Value → Prop) (T : (Nat → Bool) → World → Prop) (p q : Nat) (R : Value → Value → Prop) (hp : p < ops.size) (hq : q < ops.size) (hRr : ∀ v, p = q → R v v) (hdp : (∀ o, ops[p]? = some o → o.dst ≠ none) ∧ ∀ o, ops[q]? = some o → o.dst ≠ none) (hm : P.follows .mixedOrders = true) (hb : backB .any ops = true)
    (hs : ∀ i, slot i < a0.tmps.size) (hinj : ∀ i j, i < ops.size → j < ops.size → slot i = slot j → i = j) (h0 : T (fun _ => false) w0.drew)
    (hdst : ∀ i o, ops[i]? = some o → o.dst = some (slot i) ∨ o.dst = none)
    (hstep : ∀ (f : Nat → Bool) (a : Act) (w : World) (i : Nat) (o : Oper), ops[i]? = some o → f i = false → (∀ e ∈ o.after, Region.binds .any e = true → f e.on = true ∧ F f e.on w (a.tmps.getD (slot e.on) undef)) → T f w →
      (∀ j, (∀ i, i < ops.size → slot i ≠ j) → a.tmps.getD j undef = a0.tmps.getD j undef) →
      o.wp P a w (fun a' w' => ∃ v, a' = a.put o.dst v ∧ (o.dst = none → v = a0.tmps.getD (slot i) undef) ∧ F (fun j => if j = i then true else f j) i w' v ∧ T (fun j => if j = i then true else f j) w' ∧ (i = q → f p = true → R (a.tmps.getD (slot p) undef) v) ∧ (i = p → f q = true → R v (a.tmps.getD (slot q) undef)) ∧ ∀ j, f j = true → F f j w (a.tmps.getD (slot j) undef) → F (fun j => if j = i then true else f j) j w' (a.tmps.getD (slot j) undef)) Q)
    (hdone : ∀ (f : Nat → Bool) (vs : Nat → Value) (w : World), (∀ i, i < ops.size → f i = true) → T f w → (∀ i, i < ops.size → F f i w (vs i)) → R (vs p) (vs q) → Q .normal { a0 with tmps := fillN slot vs ops.size a0.tmps } w) : (Code.region id ops true).wp P Q a0 w0 := by
  refine region_inv hm hb (fun f a w => Stand3 a0 ops.size slot F T f a w ∧ (f p = true → f q = true → R (a.tmps.getD (slot p) undef) (a.tmps.getD (slot q) undef))) ⟨⟨rfl, rfl, fun _ _ => rfl, fun _ _ _ => rfl, h0, fun _ _ h => by cases h⟩, fun h => by cases h⟩ ?_ ?_
  · rintro f a w i o ho hf hpre ⟨hI, hG⟩
    have hi := (Array.getElem?_eq_some_iff.1 ho).1
    refine Oper.wp_mono ?_ (hstep f a w i o ho hf (fun e he hbd => ⟨hpre e he hbd, hI.have_ e.on (by have := (back_of hb ho).2 e he hbd; omega) (hpre e he hbd)⟩) hI.told hI.rest)
    rintro a' w' ⟨v, rfl, hno, hv, ht, hR1, hR2, hst⟩
    rcases hdst i o ho with hd | hd
    · rw [hd]
      have hsl : slot i < a.tmps.size := by rw [hI.size]; exact hs i
      refine ⟨⟨hI.defers, by rw [← hI.size]; exact Array.size_setIfInBounds .., fun j hj => ?_, fun j hj hfj => ?_, ht, fun j hj hfj => ?_⟩, fun hfp hfq => ?_⟩
      · show (a.tmps.setIfInBounds (slot i) v).getD j undef = _
        rw [getD_set _ _ _ _ hsl, if_neg (Ne.symm (hj i hi))]
        exact hI.rest j hj
      · show (a.tmps.setIfInBounds (slot i) v).getD (slot j) undef = _
        have hji : j ≠ i := fun e => by simp [e] at hfj
        rw [getD_set _ _ _ _ hsl, if_neg (fun e => hji (hinj j i hj hi e))]
        exact hI.yet j hj (by simpa [hji] using hfj)
      · show F (fun j => if j = i then true else f j) j w' ((a.tmps.setIfInBounds (slot i) v).getD (slot j) undef)
        rw [getD_set _ _ _ _ hsl]
        by_cases hji : j = i
        · subst hji; rw [if_pos rfl]; exact hv
        · rw [if_neg (fun e => hji (hinj j i hj hi e))]
          have h2 : f j = true := by simpa [hji] using hfj
          exact hst j h2 (hI.have_ j hj h2)
      · show R ((a.tmps.setIfInBounds (slot i) v).getD (slot p) undef) ((a.tmps.setIfInBounds (slot i) v).getD (slot q) undef)
        rw [getD_set _ _ _ _ hsl, getD_set _ _ _ _ hsl]
        by_cases hip : i = p
        · subst hip
          by_cases hiq : i = q
          · subst hiq
            rw [if_pos rfl]
            exact hRr v rfl
          · rw [if_pos rfl, if_neg (fun e => hiq (hinj i q hi hq e.symm))]
            exact hR2 rfl (by simpa [Ne.symm hiq] using hfq)
        · by_cases hiq : i = q
          · subst hiq
            rw [if_pos rfl, if_neg (fun e => hip (hinj i p hi hp e.symm))]
            exact hR1 rfl (by simpa [Ne.symm hip] using hfp)
          · rw [if_neg (fun e => hip (hinj i p hi hp e.symm)), if_neg (fun e => hiq (hinj i q hi hq e.symm))]
            exact hG (by simpa [Ne.symm hip] using hfp) (by simpa [Ne.symm hiq] using hfq)
    · rw [hd]
      refine ⟨⟨hI.defers, hI.size, hI.rest, fun j hj hfj => ?_, ht, fun j hj hfj => ?_⟩, fun hfp hfq => ?_⟩
      · have hji : j ≠ i := fun e => by simp [e] at hfj
        exact hI.yet j hj (by simpa [hji] using hfj)
      · show F (fun j => if j = i then true else f j) j w' (a.tmps.getD (slot j) undef)
        by_cases hji : j = i
        · subst hji
          rw [hI.yet j hj hf, ← hno hd]
          exact hv
        · have h2 : f j = true := by simpa [hji] using hfj
          exact hst j h2 (hI.have_ j hj h2)
      · show R (a.tmps.getD (slot p) undef) (a.tmps.getD (slot q) undef)
        have hip : p ≠ i := fun e => (hdp.1 o (by rw [e]; exact ho)) hd
        have hiq : q ≠ i := fun e => (hdp.2 o (by rw [e]; exact ho)) hd
        exact hG (by simpa [hip] using hfp) (by simpa [hiq] using hfq)
  · rintro f a w hall ⟨hI, hG⟩
    have e : a = { a0 with tmps := fillN slot (fun i => a.tmps.getD (slot i) undef) ops.size a0.tmps } := by
      have h1 : a.tmps = fillN slot (fun i => a.tmps.getD (slot i) undef) ops.size a0.tmps := by
        refine ext_getD (by rw [fillN_size, hI.size]) (fun j => ?_)
        by_cases hj : ∃ i, i < ops.size ∧ slot i = j
        · obtain ⟨i, hi, rfl⟩ := hj
          rw [fillN_at slot _ _ hs _ hinj i hi]
        · rw [fillN_get slot _ _ hs _ j (fun i hi e => hj ⟨i, hi, e⟩), hI.rest j (fun i hi e => hj ⟨i, hi, e⟩)]
      obtain ⟨t, d⟩ := a
      have h2 := hI.defers
      simp only at h1 h2
      rw [← h1, h2]
    rw [e]
    exact hdone f _ w hall hI.told (fun i hi => hI.have_ i hi (hall i hi)) (hG (hall p hp) (hall q hq))
theorem rg_same4 {o : Oper} {a a0 : Act} {w : World} {slot : Nat → Nat} {F : (Nat → Bool) → Nat → World → Value → Prop} {T : (Nat → Bool) → World → Prop} {f : Nat → Bool} {i : Nat} (v : Value)
    (h : o.wp P a w (fun a' w' => a' = a.put o.dst v ∧ w' = w) Q) (hd : o.dst ≠ none) (hF : F (fun j => if j = i then true else f j) i w v) (hT : T (fun j => if j = i then true else f j) w) (hM : ∀ j v', F f j w v' → F (fun j => if j = i then true else f j) j w v') :
    o.wp P a w (fun a' w' => ∃ v, a' = a.put o.dst v ∧ (o.dst = none → v = a0.tmps.getD (slot i) undef) ∧ F (fun j => if j = i then true else f j) i w' v ∧ T (fun j => if j = i then true else f j) w' ∧ ∀ j, f j = true → F f j w (a.tmps.getD (slot j) undef) → F (fun j => if j = i then true else f j) j w' (a.tmps.getD (slot j) undef)) Q := by
  refine Oper.wp_mono ?_ h
  rintro a' w' ⟨rfl, rfl⟩
  exact ⟨v, rfl, fun h => absurd h hd, hF, hT, fun j _ h => hM j _ h⟩
theorem rg_same5 {o : Oper} {a a0 : Act} {w : World} {slot : Nat → Nat} {F : (Nat → Bool) → Nat → World → Value → Prop} {T : (Nat → Bool) → World → Prop} {p q : Nat} {R : Value → Value → Prop} {f : Nat → Bool} {i : Nat} (hiq : i ≠ q) (hip : i ≠ p)
    (h : o.wp P a w (fun a' w' => ∃ v, a' = a.put o.dst v ∧ (o.dst = none → v = a0.tmps.getD (slot i) undef) ∧ F (fun j => if j = i then true else f j) i w' v ∧ T (fun j => if j = i then true else f j) w' ∧ ∀ j, f j = true → F f j w (a.tmps.getD (slot j) undef) → F (fun j => if j = i then true else f j) j w' (a.tmps.getD (slot j) undef)) Q) :
    o.wp P a w (fun a' w' => ∃ v, a' = a.put o.dst v ∧ (o.dst = none → v = a0.tmps.getD (slot i) undef) ∧ F (fun j => if j = i then true else f j) i w' v ∧ T (fun j => if j = i then true else f j) w' ∧ (i = q → f p = true → R (a.tmps.getD (slot p) undef) v) ∧ (i = p → f q = true → R v (a.tmps.getD (slot q) undef)) ∧ ∀ j, f j = true → F f j w (a.tmps.getD (slot j) undef) → F (fun j => if j = i then true else f j) j w' (a.tmps.getD (slot j) undef)) Q := by
  refine Oper.wp_mono ?_ h
  rintro a' w' ⟨v, h1, h2, h3, h4, h5⟩
  exact ⟨v, h1, h2, h3, h4, fun e => absurd e hiq, fun e => absurd e hip, h5⟩
end
end Go.Proofs.YtaekcmoogobbjaaDoor

/- dechunk: must gives up; caught, of a frame that returns and of one that panics; hex digits cut off, a text cut at a colon. -/
namespace Go.Proofs.YtaekcmoogobbjaaDoor
set_option linter.unusedVariables false
set_option linter.unusedSimpArgs false
open Go.RowKit Go.Shelf
set_option maxHeartbeats 2000000
/-- what is given up with -/
def errno (n : Int) : Value := .iface 25 (.int .i64 n)
theorem dc_must (n : Int) (w : World) :
    Calls Tryd.prog 45 #[.bool true, .int .i64 n] w fun e w' => e = .returned (.tuple #[]) ∧ w' = w := by
  go_enter Tryd.func45, Tryd.ntmps45
  go_wp2
  all_goals first | contradiction | simp [bodyPost, results, Tryd.results45, go_sem]
theorem dc_must_no (n : Int) (w : World) :
    Calls Tryd.prog 45 #[.bool false, .int .i64 n] w fun e w' => e = .panicked [{ v := errno n, recovered := false }] ∧ w' = w := by
  go_enter Tryd.func45, Tryd.ntmps45
  go_wp2
  all_goals first | contradiction | simp [errno, bodyPost]
/-- must, in one form -/
def musts (b : Bool) (n : Int) : Ending := if b then .returned (.tuple #[]) else .panicked [{ v := errno n, recovered := false }]
theorem dc_musts (b : Bool) (n : Int) (w : World) :
    Calls Tryd.prog 45 #[.bool b, .int .i64 n] w fun e w' => e = musts b n ∧ w' = w := by
  cases b
  · exact dc_must_no n w
  · exact dc_must n w
theorem dc_caught_idle (p : Addr) (w : World) :
    CallsD Tryd.prog 25 #[.pointer (some p)] .returning w fun e u' w' => e = .returned (.tuple #[]) ∧ u' = .returning ∧ w' = w := by
  refine callsD_of_wpS Tryd.func25 rfl fun c₀ cs hu => ?_
  apply wpS_seq
  apply wpS_region
  simp [wpOpsS, go_sem, recoverD, hu, Tryd.ntmps25, Exit.thenS]
  apply wpS_seq
  apply wpS_region
  simp [wpOpsS, go_sem, recoverD, hu, Exit.thenS]
  refine wpS_cond (t := false) (by simp [Act.eval, Array.replicate]) ?_
  simp only [Bool.false_eq_true, if_false]
  refine wpS_of_wp (wp_skip ?_)
  cases c₀
  simp_all [bodyPostS, results, Tryd.results25]
theorem errno_is (v : Value) (W : World) : (Instr.typeAssert (.iface 25 v) 20 25 true).run Tryd.prog W = .ok (.tuple #[v, .bool true]) W := by
  simp [Instr.typeAssert, go_sem, Tryd.underlying25, Result.andThen]
set_option maxRecDepth 100000 in
theorem dc_caught (p : Addr) (n : Int) (older : List PanicEntry) (w : World) (old : Value) (hc : w.cell? p = some old) (hz : w.frozen? p = false) :
    CallsD Tryd.prog 25 #[.pointer (some p)] (.panicking ({ v := errno n, recovered := false } :: older)) w fun e u' w' =>
      e = .returned (.tuple #[]) ∧ u' = .panicking ({ v := errno n, recovered := true } :: older) ∧ w' = w.setCell p (.int .i64 n) := by
  refine callsD_of_wpS Tryd.func25 rfl fun c₀ cs hu => ?_
  apply wpS_seq
  apply wpS_region
  simp [wpOpsS, go_sem, recoverD, hu, Tryd.ntmps25, Exit.thenS]
  apply wpS_seq
  apply wpS_region
  simp [wpOpsS, go_sem, recoverD, hu, Exit.thenS, errno]
  refine wpS_cond (t := true) (by simp [Act.eval, Array.replicate]) ?_
  simp only [if_true]
  refine wpS_of_wp ?_
  simp [Array.replicate, List.replicate, List.setIfInBounds_toArray]
  have hta : ∀ (v : Value) (W : World), (Instr.typeAssert (.iface 25 v) 20 25 true).run Tryd.prog W = .ok (.tuple #[v, .bool true]) W := errno_is
  go_wp2
  simp [bodyPostS, results, Tryd.results25, go_sem]
theorem str_TrimLeft (s : ByteArray) (w : World) :
    Calls Tryd.prog 43 #[.string s, .string ⟨#[48, 49, 50, 51, 52, 53, 54, 55, 56, 57, 97, 98, 99, 100, 101, 102, 65, 66, 67, 68, 69, 70]⟩] w fun e w' => e = .returned (.string ⟨(Dn.restS s.data.toList).toArray⟩) ∧ Below w.heap.size w w' :=
  Any.strings_TrimLeft_laid Tryd.lays161 (by kernel_rfl) s ⟨#[48, 49, 50, 51, 52, 53, 54, 55, 56, 57, 97, 98, 99, 100, 101, 102, 65, 66, 67, 68, 69, 70]⟩ w (by decide) (ascii_of_all (by decide))
theorem ix_no {l : List UInt8} {c : UInt8} (h : c ∉ l) : Lib.indexByte l c = -1 := by
  induction l with
  | nil => rfl
  | cons b l ih =>
    simp only [List.mem_cons, not_or] at h
    unfold Lib.indexByte
    rw [ih h.2, if_neg (by simpa using Ne.symm h.1)]
    rfl
theorem ix_yes {l : List UInt8} {c : UInt8} (h : c ∈ l) : Lib.indexByte l c = ((l.takeWhile fun d => d != c).length : Int) ∧ (l.takeWhile fun d => d != c).length < l.length := by
  induction l with
  | nil => simp at h
  | cons b l ih =>
    unfold Lib.indexByte
    by_cases hb : b = c
    · subst hb
      simp
    · have hm : c ∈ l := by
        rcases List.mem_cons.1 h with h | h
        · exact absurd h.symm hb
        · exact h
      obtain ⟨h1, h2⟩ := ih hm
      rw [if_neg (by simpa using hb), h1, List.takeWhile_cons_of_pos (by simpa using hb), if_neg (by simp)]
      simp only [List.length_cons]
      omega
theorem tw_take {l : List UInt8} {p : UInt8 → Bool} : l.takeWhile p = l.take (l.takeWhile p).length := by
  induction l with
  | nil => rfl
  | cons b l ih =>
    by_cases h : p b = true
    · rw [List.takeWhile_cons_of_pos h, List.length_cons, List.take_succ_cons, ← ih]
    · rw [List.takeWhile_cons_of_neg h]; rfl
theorem sl_Cut (s : ByteArray) (w : World) (hs : s.size ≤ 1000000) :
    Calls Tryd.prog 59 #[.string s, .string ⟨#[58]⟩] w fun e w' => ∃ r : ByteArray, e = .returned (.tuple #[.string ⟨(if (58 : UInt8) ∈ s.data.toList then s.data.toList.takeWhile (fun c => c != 58) else s.data.toList).toArray⟩, .string r, .bool (decide ((58 : UInt8) ∈ s.data.toList))]) ∧ Below w.heap.size w w' := by
  have K := Lib.hid (fun W => Tryd.stringslite_Index_one s 58 W)
  have hsz : s.size = s.data.toList.length := rfl
  by_cases h : (58 : UInt8) ∈ s.data.toList
  · obtain ⟨h1, h2⟩ := ix_yes h
    obtain ⟨k, hk⟩ : ∃ k, (s.data.toList.takeWhile fun c => c != 58).length = k := ⟨_, rfl⟩
    rw [hk] at h1 h2
    rw [h1] at K
    have hk2 : k < s.size := by rw [hsz]; exact h2
    have HT := Lib.hid (show s.data.toList.takeWhile (fun c => c != 58) = (s.extract 0 k).data.toList by rw [Lib.extract_data, tw_take, hk]; simp)
    have HH := Lib.hid h
    clear h h1 h2 hk hsz
    go_enter Tryd.func59, Tryd.ntmps59
    go_wp2_with fail
    refine (K.out w).mono ?_
    rintro e w' ⟨rfl, rfl⟩
    go_wp2_with fail
    go_quiet (fail)
    go_wp2_with fail
    simp [bodyPost, results, Tryd.results59, go_sem]
    exact ⟨by rw [HT.out], ⟨rfl, rfl, rfl, Nat.le_refl _, fun _ _ => rfl⟩⟩
  · have h1 := ix_no h
    rw [h1] at K
    have HH := Lib.hid h
    clear h h1 hsz
    go_enter Tryd.func59, Tryd.ntmps59
    go_wp2_with fail
    refine (K.out w).mono ?_
    rintro e w' ⟨rfl, rfl⟩
    go_wp2_with fail
    simp [bodyPost, results, Tryd.results59, go_sem]
    exact Below.refl _ _
theorem str_Cut (s : ByteArray) (w : World) (hs : s.size ≤ 1000000) :
    Calls Tryd.prog 47 #[.string s, .string ⟨#[58]⟩] w fun e w' => ∃ r : ByteArray, e = .returned (.tuple #[.string ⟨(if (58 : UInt8) ∈ s.data.toList then s.data.toList.takeWhile (fun c => c != 58) else s.data.toList).toArray⟩, .string r, .bool (decide ((58 : UInt8) ∈ s.data.toList))]) ∧ Below w.heap.size w w' := by
  have K := Lib.hid (sl_Cut s w hs)
  obtain ⟨x, hx⟩ : ∃ z : ByteArray, (⟨(if (58 : UInt8) ∈ s.data.toList then s.data.toList.takeWhile (fun c => c != 58) else s.data.toList).toArray⟩ : ByteArray) = z := ⟨_, rfl⟩
  obtain ⟨b, hb⟩ : ∃ z, decide ((58 : UInt8) ∈ s.data.toList) = z := ⟨_, rfl⟩
  rw [hx, hb] at K
  rw [hx, hb]
  clear hx hb
  go_enter Tryd.func47, Tryd.ntmps47
  go_wp2_with fail
  refine K.out.mono ?_
  rintro e w' ⟨r, rfl, hbb⟩
  have HBB := Lib.hid hbb
  clear hbb
  go_wp2_with fail
  simp [bodyPost, results, Tryd.results47, go_sem]
  exact HBB.out
end Go.Proofs.YtaekcmoogobbjaaDoor

/- dechunk: a decoder in memory; a byte put to its line; the line told. -/
namespace Go.Proofs.YtaekcmoogobbjaaDoor
set_option linter.unusedVariables false
set_option linter.unusedSimpArgs false
set_option linter.unusedSectionVars false
open Go.RowKit Go.Shelf
set_option maxHeartbeats 4000000
set_option maxRecDepth 100000
/-- append to an owned row: the new row lies where it lay, or in a new block -/
theorem run_append_blk {P : Program} {w : World} (base : Nat) (t ty e : TypeId) (i : TypeInfo) (z : Value) (size bytes : Nat) (ht : P.underlying t = some (.slice e)) (hi : P.info? e = some i) (hz : i.zero = some z)
    (hsize : i.size = size) (hby : i.bytes = bytes) (hzs : z.cells.size = size) (hsz : 0 < size) (v : Value) (n : Nat) (xs : List Value) (hown : w.ownsRow base e size v n xs)
    (a : Addr) (m c : Nat) (news : List Value) (hl : news.length = m * size) (hnews : ∀ j u, news[j]? = some u → w.cell? (a.add j) = some u) (h1 : ∀ u ∈ news, u.oneCell' = true)
    (h63 : n + m ≤ maxLen) (hbytes : (n + m) * bytes ≤ 140737488355328) (hbase : base ≤ w.heap.size) :
    ∃ v' w', (Builtin.append_ #[t, t] ty #[v, .slice (some a) m c]).run P w = .ok v' w' ∧ w'.ownsRow base e size v' (n + m) (xs ++ news) ∧ w.grownBy w' v.ownBlock ∧ (v'.ownBlock = v.ownBlock ∨ v'.ownBlock = some w.heap.size) := by
  obtain ⟨v', w', hr, h2, h3, h4⟩ := run_append_own (P := P) w base t ty e i z size bytes ht hi hz hsize hby hzs hsz v n xs hown a m c news hl hnews h1 h63 hbytes hbase
  refine ⟨v', w', hr, h2, h3, ?_⟩
  subst hsize
  subst hby
  have hsm : n + m ≤ 9223372036854775807 := by simp only [maxLen] at h63; omega
  have hcopy := hown
  rcases hcopy.2 with ⟨rfl, rfl⟩ | ⟨g, cap, cur, rfl, hbg, hg, hnc, hcm, hcs, htake⟩
  · by_cases hm : m = 0
    · subst hm
      have := h4.2 ⟨rfl, rfl⟩
      subst this
      exact .inl rfl
    · have h5 := run_append_nil (P := P) w t ty e i z ht hi hz a m c news hl hnews (by omega) (by omega) (by have hb := hbytes; simp only [Nat.zero_add] at hb; omega)
      rw [hr] at h5
      cases h5
      exact .inr rfl
  · by_cases hroom : n + m ≤ cap
    · have h5 := run_append_room (P := P) w t ty e i ht hi g n cap cur hg a m c news hl hnews h1 hroom (by rw [hl, hcs, ← Nat.add_mul]; exact Nat.mul_le_mul_right _ hroom)
      rw [hr] at h5
      cases h5
      exact .inl rfl
    · have h5 := run_append_grow (P := P) w t ty e i z ht hi hz ⟨g, 0, none⟩ n cap xs hown.1 (hown.cells (g := g) rfl) a m c news hl hnews (by omega) (by omega) (growslice_fits (by omega) hbytes)
      rw [hr] at h5
      cases h5
      exact .inr rfl
theorem wpList_append_blk {P : Program} {w : World} {ops : Array Oper} {rest : List Oper} {o : Oper} {a : Act} {Q : Exit → Act → World → Prop} (hgd : o.guard = none) (s x : Operand) (t : TypeId)
    (ho : o.op = .call { callee := .builtin .append, args := #[s, x], argTypes := #[t, t] })
    (base : Nat) (e : TypeId) (i : TypeInfo) (z : Value) (size bytes : Nat) (ht : P.underlying t = some (.slice e)) (hi : P.info? e = some i) (hz : i.zero = some z)
    (hsize : i.size = size) (hby : i.bytes = bytes) (hzs : z.cells.size = size) (hsz : 0 < size)
    (v : Value) (n : Nat) (xs : List Value) (hs : a.eval s = v) (hown : w.ownsRow base e size v n xs)
    (ad : Addr) (m c : Nat) (news : List Value) (hx : a.eval x = .slice (some ad) m c) (hl : news.length = m * size) (hnews : ∀ j u, news[j]? = some u → w.cell? (ad.add j) = some u) (h1 : ∀ u ∈ news, u.oneCell' = true)
    (h63 : n + m ≤ maxLen) (hbytes : (n + m) * bytes ≤ 140737488355328) (hbase : base ≤ w.heap.size)
    (h : ∀ v' w', w'.ownsRow base e size v' (n + m) (xs ++ news) → w.grownBy w' v.ownBlock → (v'.ownBlock = v.ownBlock ∨ v'.ownBlock = some w.heap.size) → wpList P ops Q rest (a.put o.dst v') w') : wpList P ops Q (o :: rest) a w := by
  obtain ⟨v', w', hr, h2, h3, h4⟩ := run_append_blk (P := P) (w := w) base t o.type e i z size bytes ht hi hz hsize hby hzs hsz v n xs hown ad m c news hl hnews h1 h63 hbytes hbase
  refine wpList_plain hgd fun K hK' => ?_
  unfold Oper.wp execOp
  simp only [ho, resolve, invoke, builtin, Sem.run_bind, Sem.run_pure, Result.andThen_ok, List.map_toArray, List.map_cons, List.map_nil, hs, hx, hr]
  exact hK' _ _ (h v' w' h2 h3 h4)
/-- two rows lie apart -/
def apart (a b : Value) : Prop := ∀ k, a.ownBlock = some k → b.ownBlock ≠ some k
/-- a decoder's cells -/
def dcC (cap : Nat) (s : Dn.St) (vt vo ve vu : Value) : Array Value := #[.int .i64 cap, vt, .bool s.cr, .int .i64 s.pt, .int .i64 s.left, .int .i64 s.many, vo, ve, vu, .int .i64 s.why]
/-- blocks that others hold, and what is in them -/
class Gst where
  g : Nat → Option Obj
/-- what a row becomes: it lies where it lay, or in a new block -/
def nw (v v' : Value) (N : Nat) : Prop := v'.ownBlock = v.ownBlock ∨ ∀ k, v'.ownBlock = some k → N ≤ k
theorem nw.refl (v : Value) (N : Nat) : nw v v N := .inl rfl
theorem nw.nil (v : Value) (N : Nat) : nw v (.slice none 0 0) N := .inr fun k h => by cases h
theorem nw.blk {v v' : Value} {N : Nat} (h : v'.ownBlock = v.ownBlock ∨ v'.ownBlock = some N) : nw v v' N := h.imp id fun e k h => by rw [e] at h; cases h; exact Nat.le_refl _
theorem nw.ex {v v' : Value} {N : Nat} (h : v'.ownBlock = v.ownBlock ∨ ∃ k, v'.ownBlock = some k ∧ N ≤ k) : nw v v' N := h.imp id fun ⟨k, e, hk⟩ j h => by rw [e] at h; cases h; exact hk
theorem apart_nw {a b b' : Value} {N : Nat} (h : apart a b) (hn : nw b b' N) (ha : ∀ k, a.ownBlock = some k → k < N) : apart a b' := by
  intro k h1 h2
  rcases hn with e | e
  · exact h k h1 (by rw [← e]; exact h2)
  · have := e k h2; have := ha k h1; omega
theorem own_types {w : World} {B n m s1 s2 : Nat} {e1 e2 : TypeId} {a b : Value} {xs ys : List Value} (ha : w.ownsRow B e1 s1 a n xs) (hb : w.ownsRow B e2 s2 b m ys) (he : e1 ≠ e2) : b.ownBlock = none ∨ b.ownBlock ≠ a.ownBlock := by
  rcases hb.2 with ⟨rfl, _⟩ | ⟨g, cap, cur, rfl, _, hg, _⟩
  · exact .inl rfl
  · refine .inr fun h => ?_
    rcases ha.2 with ⟨rfl, _⟩ | ⟨g2, cap2, cur2, rfl, _, hg2, _⟩
    · cases h
    · have h3 : g = g2 := by simpa [Value.ownBlock] using h
      subst h3
      rw [hg] at hg2
      cases hg2
      exact he rfl
theorem own_same {w w' : World} {base size n : Nat} {e : TypeId} {v : Value} {xs : List Value} (h : w.ownsRow base e size v n xs) (hb : ∀ k, v.ownBlock = some k → w'.heap[k]? = w.heap[k]?) : w'.ownsRow base e size v n xs := by
  refine ⟨h.1, h.2.imp id ?_⟩
  rintro ⟨g, cap, cur, rfl, e2, e3, e4⟩
  exact ⟨g, cap, cur, rfl, e2, (hb g rfl).trans e3, e4⟩
variable [Gst]
/-- what others hold, and the rows of the chunks that ended -/
structure Gu (w : World) (D : Nat) (vt vo ve vu : Value) (xs : List Value) (L : List (List UInt8)) : Prop where
  gd : ∀ k o, Gst.g k = some o → w.heap[k]? = some o ∧ k ≠ D ∧ vt.ownBlock ≠ some k ∧ vo.ownBlock ≠ some k ∧ ve.ownBlock ≠ some k ∧ vu.ownBlock ≠ some k
  len : xs.length = L.length
  ed : ∀ i, i < L.length → ∃ v, xs[i]? = some v ∧ w.ownsRow (D + 1) 5 1 v (L.getD i []).length ((L.getD i []).map by8) ∧ apart v vt ∧ apart v vo ∧ apart v vu
theorem Gu.oth {w w' : World} {D n : Nat} {vt vo ve vu vt' vo' ve' vu' : Value} {xs ys : List Value} {L : List (List UInt8)} (h : Gu w D vt vo ve vu xs L) (hve : w.ownsRow (D + 1) 22 1 ve n ys)
    (hk : ∀ k, k < w.heap.size → k ≠ D → vt.ownBlock ≠ some k → vo.ownBlock ≠ some k → ve.ownBlock ≠ some k → vu.ownBlock ≠ some k → w'.heap[k]? = w.heap[k]?)
    (n1 : nw vt vt' w.heap.size) (n2 : nw vo vo' w.heap.size) (n3 : nw ve ve' w.heap.size) (n4 : nw vu vu' w.heap.size) : Gu w' D vt' vo' ve' vu' xs L := by
  refine ⟨fun k o hg => ?_, h.len, fun i hi => ?_⟩
  · obtain ⟨h1, h2, h3, h4, h5, h6⟩ := h.gd k o hg
    have hl := (Array.getElem?_eq_some_iff.1 h1).1
    have f : ∀ {v v' : Value}, nw v v' w.heap.size → v.ownBlock ≠ some k → v'.ownBlock ≠ some k := fun hn hv e => by
      rcases hn with e2 | e2
      · exact hv (by rw [← e2]; exact e)
      · have := e2 k e; omega
    exact ⟨(hk k hl h2 h3 h4 h5 h6).trans h1, h2, f n1 h3, f n2 h4, f n3 h5, f n4 h6⟩
  · obtain ⟨v, h1, h2, h3, h4, h5⟩ := h.ed i hi
    have hlt : ∀ k, v.ownBlock = some k → k < w.heap.size := fun k hk => (h2.lt k hk).2
    refine ⟨v, h1, own_same h2 (fun k e => hk k (hlt k e) (by have := (h2.lt k e).1; omega) (fun e2 => h3 k e e2) (fun e2 => h4 k e e2) (fun e2 => ?_) (fun e2 => h5 k e e2)), apart_nw h3 n1 hlt, apart_nw h4 n2 hlt, apart_nw h5 n4 hlt⟩
    rcases own_types h2 hve (by decide) with h6 | h6
    · rw [h6] at e2; cases e2
    · exact h6 (e2.trans e.symm)
theorem Gu.push {w : World} {D : Nat} {vt vo ve vu : Value} {xs : List Value} {L : List (List UInt8)} {U : List UInt8} (h : Gu w D vt vo ve vu xs L) (hu : w.ownsRow (D + 1) 5 1 vu U.length (U.map by8)) (h1 : apart vt vu) (h2 : apart vo vu) :
    Gu w D vt vo ve (.slice none 0 0) (xs ++ [vu]) (L ++ [U]) := by
  refine ⟨fun k o hg => ?_, by simp [h.len], fun i hi => ?_⟩
  · obtain ⟨a, b, c, d, e, f⟩ := h.gd k o hg
    exact ⟨a, b, c, d, e, fun h => by cases h⟩
  · by_cases hl : i < L.length
    · obtain ⟨v, a, b, c, d, e⟩ := h.ed i hl
      refine ⟨v, by rw [List.getElem?_append_left (by rw [h.len]; exact hl)]; exact a, ?_, c, d, fun k _ h => by cases h⟩
      rw [List.getD_eq_getElem?_getD, List.getElem?_append_left hl, ← List.getD_eq_getElem?_getD]
      exact b
    · have hi2 : i = L.length := by simp at hi; omega
      subst hi2
      refine ⟨vu, by rw [List.getElem?_append_right (by rw [h.len]; exact Nat.le_refl _), h.len, Nat.sub_self]; rfl, ?_, fun k a b => h1 k b a, fun k a b => h2 k b a, fun k _ h => by cases h⟩
      rw [List.getD_eq_getElem?_getD, List.getElem?_append_right (Nat.le_refl _), Nat.sub_self]
      exact hu
/-- a decoder in memory -/
structure DAt (w : World) (D cap : Nat) (s : Dn.St) (vt vo ve vu : Value) : Prop where
  cells : w.heap[D]? = some (.cells (dcC cap s vt vo ve vu) 50 (0, 0))
  rt : w.ownsRow (D + 1) 5 1 vt s.line.length (s.line.map by8)
  ro : w.ownsRow (D + 1) 5 1 vo s.out.length (s.out.map by8)
  ru : w.ownsRow (D + 1) 5 1 vu s.under.length (s.under.map by8)
  re : ∃ xs, w.ownsRow (D + 1) 22 1 ve s.ended.length xs ∧ Gu w D vt vo ve vu xs s.ended
  to : apart vt vo
  tu : apart vt vu
  ou : apart vo vu
def DD (w : World) (D cap : Nat) (s : Dn.St) : Prop := ∃ vt vo ve vu, DAt w D cap s vt vo ve vu
theorem own_bel {w w' : World} {base size n : Nat} {e : TypeId} {v : Value} {xs : List Value} (h : w.ownsRow base e size v n xs) (hb : Below w.heap.size w w') : w'.ownsRow base e size v n xs := by
  refine ⟨h.1, h.2.imp id ?_⟩
  rintro ⟨g, cap, cur, e1, e2, e3, e4⟩
  exact ⟨g, cap, cur, e1, e2, (hb.block _ (Array.getElem?_eq_some_iff.1 e3).1).trans e3, e4⟩
theorem apart_or {a b : Value} (h : apart a b) : b.ownBlock = none ∨ b.ownBlock ≠ a.ownBlock := by
  cases hb : b.ownBlock with
  | none => exact .inl rfl
  | some k => exact .inr fun e => h k e.symm hb
theorem apart.symm {a b : Value} (h : apart a b) : apart b a := fun k h1 h2 => h k h2 h1
theorem apart_grown {a a' b : Value} {N : Nat} (h : apart a b) (hn : a'.ownBlock = a.ownBlock ∨ a'.ownBlock = some N) (hb : ∀ k, b.ownBlock = some k → k < N) : apart a' b := by
  intro k h1 h2
  rcases hn with e | e
  · exact h k (by rw [← e]; exact h1) h2
  · rw [e] at h1
    have := hb k h2
    cases h1
    omega
theorem DAt.below {w w' : World} {D cap : Nat} {s : Dn.St} {vt vo ve vu : Value} (h : DAt w D cap s vt vo ve vu) (hb : Below w.heap.size w w') : DAt w' D cap s vt vo ve vu :=
  ⟨(hb.block _ (Array.getElem?_eq_some_iff.1 h.cells).1).trans h.cells, own_bel h.rt hb, own_bel h.ro hb, own_bel h.ru hb, by obtain ⟨xs, h1, h2⟩ := h.re; exact ⟨xs, own_bel h1 hb, h2.oth h1 (fun k hk _ _ _ _ _ => hb.block k hk) (nw.refl _ _) (nw.refl _ _) (nw.refl _ _) (nw.refl _ _)⟩, h.to, h.tu, h.ou⟩
theorem DD.below {w w' : World} {D cap : Nat} {s : Dn.St} (h : DD w D cap s) (hb : Below w.heap.size w w') : DD w' D cap s := by
  obtain ⟨vt, vo, ve, vu, h1⟩ := h
  exact ⟨vt, vo, ve, vu, h1.below hb⟩
/-- what put ends with -/
def putEnd (w' : World) (D cap : Nat) (s : Dn.St) (e : Ending) : Dn.Put → Prop
  | .bad n => e = .panicked [{ v := errno n, recovered := false }] ∧ DD w' D cap s
  | .more l b => e = .returned (.bool false) ∧ DD w' D cap { s with line := l, cr := b }
  | .full => e = .returned (.bool true) ∧ DD w' D cap s
/-- a cell of the decoder's own, stored -/
theorem DAt.set {w : World} {D cap : Nat} {s s' : Dn.St} {vt vo ve vu : Value} (h : DAt w D cap s vt vo ve vu) (i : Nat) (u : Value) (hc : (dcC cap s vt vo ve vu).setIfInBounds i u = dcC cap s' vt vo ve vu)
    (h1 : s'.line = s.line) (h2 : s'.out = s.out) (h3 : s'.under = s.under) (h4 : s'.ended = s.ended) : DAt (w.setCell ⟨D, i, none⟩ u) D cap s' vt vo ve vu := by
  obtain ⟨xs, hx, hgu⟩ := h.re
  have hs := heap_setCell_same _ _ i _ _ u h.cells
  rw [hc] at hs
  refine ⟨hs, ?_, ?_, ?_, ⟨xs, ?_, h4 ▸ hgu.oth hx (fun k _ hk _ _ _ _ => Below.heap_setCell _ _ _ _ hk) (nw.refl _ _) (nw.refl _ _) (nw.refl _ _) (nw.refl _ _)⟩, h.to, h.tu, h.ou⟩
  · rw [h1]; exact ownsRow_setCell_below (a := ⟨D, i, none⟩) h.rt (Nat.lt_succ_self D) _
  · rw [h2]; exact ownsRow_setCell_below (a := ⟨D, i, none⟩) h.ro (Nat.lt_succ_self D) _
  · rw [h3]; exact ownsRow_setCell_below (a := ⟨D, i, none⟩) h.ru (Nat.lt_succ_self D) _
  · rw [h4]; exact ownsRow_setCell_below (a := ⟨D, i, none⟩) hx (Nat.lt_succ_self D) _
/-- a byte behind the line -/
theorem DAt.text {w w5 : World} {D cap : Nat} {s : Dn.St} {vt vo ve vu vt' : Value} {c : UInt8} (h : DAt w D cap s vt vo ve vu) (hown : w5.ownsRow (D + 1) 5 1 vt' (s.line.length + 1) (s.line.map by8 ++ [by8 c]))
    (hg : w.grownBy w5 vt.ownBlock) (hb : vt'.ownBlock = vt.ownBlock ∨ vt'.ownBlock = some w.heap.size) : DAt (w5.setCell ⟨D, 1, none⟩ vt') D cap { s with line := s.line ++ [c] } vt' vo ve vu := by
  obtain ⟨xs, hx, hgu⟩ := h.re
  have hD : some D ≠ vt.ownBlock := fun e => by have := (h.rt.lt D e.symm).1; omega
  have hc := (hg.block D (Array.getElem?_eq_some_iff.1 h.cells).1 hD).trans h.cells
  refine ⟨heap_setCell_same _ _ 1 _ _ vt' hc, ?_, ?_, ?_, ⟨xs, ?_, hgu.oth hx (fun k hk hkD k1 _ _ _ => (Below.heap_setCell _ _ _ _ hkD).trans (hg.block k hk (fun e => k1 e.symm))) (nw.blk hb) (nw.refl _ _) (nw.refl _ _) (nw.refl _ _)⟩, apart_grown h.to hb (fun k hk => (h.ro.lt k hk).2), apart_grown h.tu hb (fun k hk => (h.ru.lt k hk).2), h.ou⟩
  · have e : ({ s with line := s.line ++ [c] } : Dn.St).line.length = s.line.length + 1 := by simp
    rw [e]
    simp only [List.map_append, List.map_cons, List.map_nil]
    exact ownsRow_setCell_below (a := ⟨D, 1, none⟩) hown (Nat.lt_succ_self D) _
  · exact ownsRow_setCell_below (a := ⟨D, 1, none⟩) (h.ro.kept hg (apart_or h.to)) (Nat.lt_succ_self D) _
  · exact ownsRow_setCell_below (a := ⟨D, 1, none⟩) (h.ru.kept hg (apart_or h.tu)) (Nat.lt_succ_self D) _
  · exact ownsRow_setCell_below (a := ⟨D, 1, none⟩) (hx.kept hg (own_types h.rt hx (by decide))) (Nat.lt_succ_self D) _
theorem u8_beq (c : UInt8) (n : Nat) (hn : n < 256) : ((c.toNat : Int) == (n : Int)) = decide (c = UInt8.ofNat n) := by
  rw [Bool.eq_iff_iff]
  simp only [beq_iff_eq, decide_eq_true_eq, ← UInt8.toNat_inj, UInt8.toNat_ofNat']
  have : n % 2 ^ 8 = n := Nat.mod_eq_of_lt hn
  rw [this]
  omega
theorem isVal_one (c : UInt8) : Tp.isVal [120, c, 120] = Tp.valB (c.toNat : Int) := by
  have e : Tp.trim [120, c, 120] = [120, c, 120] := by
    have h1 : Tp.trimL [120, c, 120] = [120, c, 120] := rfl
    have h2 : Tp.trimR [120, c, 120] = [120, c, 120] := rfl
    unfold Tp.trim
    rw [h1, h2]
  unfold Tp.isVal
  rw [e]
  unfold Tp.allT
  simp only [beq_self_eq_true, Bool.true_and, List.all_cons, List.all_nil, Bool.and_true]
  have : Tp.valB ((120 : UInt8).toNat : Int) = true := by decide
  rw [this]
  simp
def npF (D cap nt ct : Nat) (pt : Option Addr) (b : Bool) : Nat → World → Value → Prop
  | 0, _, v => v = .pointer (some ⟨D, 0, none⟩)
  | 1, _, v => v = .pointer (some ⟨D, 0, none⟩)
  | 2, _, v => v = .pointer (some ⟨D, 1, none⟩)
  | 3, _, v => v = .slice pt nt ct
  | 4, _, v => v = .int .i64 nt
  | 5, _, v => v = .pointer (some ⟨D, 0, none⟩)
  | 6, _, v => v = .pointer (some ⟨D, 0, none⟩)
  | 7, _, v => v = .pointer (some ⟨D, 0, none⟩)
  | 8, _, v => v = .int .i64 cap
  | 9, _, v => v = .bool b
  | _, _, _ => False
def npT (w1 : World) (_ : Nat → Bool) (w : World) : Prop := w = w1
theorem dc_put_1 (D cap : Nat) (c : UInt8) (s : Dn.St) (w : World) (h : DD w D cap s) (hcr : s.cr = true) :
    Calls Tryd.prog 41 #[.pointer (some ⟨D, 0, none⟩), .int .u8 (c.toNat : Int)] w fun e w' => putEnd w' D cap s e (Dn.put cap c s.line s.cr) ∧ Below D w w' := by
  obtain ⟨vt, vo, ve, vu, hd⟩ := h
  have hg := hd.cells
  unfold dcC at hg
  have a2 : w.cell? ⟨D, 2, none⟩ = some (.bool s.cr) := by simp [World.cell?, hg]
  have HD := Lib.hid (show DD w D cap s from ⟨_, _, _, _, hd⟩)
  rw [hcr] at a2 ⊢
  have K := Lib.hid (fun b W => dc_musts b 270 W)
  have HP := Lib.hid (show Dn.put cap c s.line true = if c = 10 then .full else .bad 270 by unfold Dn.put; rw [if_pos rfl])
  have HB := Lib.hid (show ((c.toNat : Int) == 10) = decide (c = 10) from u8_beq c 10 (by decide))
  clear hg hd hcr
  go_enter Tryd.func41, Tryd.ntmps41
  go_wp2_with fail
  refine (K.out _ w).mono ?_
  rintro e w' ⟨rfl, rfl⟩
  rw [HB.out]
  by_cases h10 : c = 10
  · rw [decide_eq_true h10]
    simp only [musts, if_true]
    go_wp2_with fail
    simp [bodyPost, results, Tryd.results41, go_sem]
    rw [HP.out, if_pos h10]
    exact ⟨⟨rfl, HD.out⟩, Below.refl _ _⟩
  · rw [decide_eq_false h10]
    simp only [musts, Bool.false_eq_true, if_false]
    go_wp2_with fail
    simp [bodyPost]
    rw [HP.out, if_neg h10]
    exact ⟨⟨rfl, HD.out⟩, Below.refl _ _⟩
theorem dc_put_0 (D cap : Nat) (c : UInt8) (s : Dn.St) (w : World) (h : DD w D cap s) (hcr : s.cr = false) (hcap : s.line.length ≤ 8192) (hcp : cap ≤ 8192) :
    Calls Tryd.prog 41 #[.pointer (some ⟨D, 0, none⟩), .int .u8 (c.toNat : Int)] w fun e w' => putEnd w' D cap s e (Dn.put cap c s.line s.cr) ∧ Below D w w' := by
  obtain ⟨i0, hi, hz0, hz1, hz2⟩ := info_parts (show (Tryd.prog.info? 5).map (fun i => (i.zero, i.size, i.bytes)) = some (some (.int .u8 0), 1, 1) by kernel_rfl)
  obtain ⟨vt, vo, ve, vu, hd⟩ := h
  have hg := hd.cells
  unfold dcC at hg
  have a2 : w.cell? ⟨D, 2, none⟩ = some (.bool s.cr) := by simp [World.cell?, hg]
  have y2 : w.frozen? ⟨D, 2, none⟩ = false := frozen_of_row _ _ _ _ _ hg
  have HD := Lib.hid hd
  rw [hcr] at a2 ⊢
  have K := Lib.hid (fun b n W => dc_musts b n W)
  by_cases h13 : c = 13
  · have HP := Lib.hid (show Dn.put cap c s.line false = .more s.line true by unfold Dn.put; rw [if_neg (by decide), if_pos h13])
    have hb : ((c.toNat : Int) == 13) = true := by rw [show ((c.toNat : Int) == 13) = decide (c = 13) from u8_beq c 13 (by decide)]; exact decide_eq_true h13
    have HS := Lib.hid (hd.set (s' := { s with cr := true }) 2 (.bool true) (by unfold dcC; simp) rfl rfl rfl rfl)
    have HL := Lib.hid (Below.setCell (Below.refl D w) (p := ⟨D, 2, none⟩) (Nat.le_refl D) (.bool true))
    clear hg hd hcr h13
    go_enter Tryd.func41, Tryd.ntmps41
    go_wp2_with fail
    simp [bodyPost, results, Tryd.results41, go_sem]
    rw [HP.out]
    exact ⟨⟨rfl, ⟨_, _, _, _, HS.out⟩⟩, HL.out⟩
  · have hb : ((c.toNat : Int) == 13) = false := by rw [show ((c.toNat : Int) == 13) = decide (c = 13) from u8_beq c 13 (by decide)]; exact decide_eq_false h13
    obtain ⟨W1, hW1⟩ : ∃ Z, w.setCell ⟨D, 2, none⟩ (.bool false) = Z := ⟨_, rfl⟩
    have HS := Lib.hid (show DAt W1 D cap s vt vo ve vu by
      have h := hd.set (s' := s) 2 (.bool false) (by unfold dcC; rw [← hcr]; simp) rfl rfl rfl rfl
      rwa [hW1] at h)
    have HL := Lib.hid (show Below D w W1 by rw [← hW1]; exact Below.setCell (Below.refl D w) (p := ⟨D, 2, none⟩) (Nat.le_refl D) (.bool false))
    have b2 : W1.cell? ⟨D, 2, none⟩ = some (.bool false) := by
      have h := HS.out.cells
      unfold dcC at h
      rw [hcr] at h
      simp [World.cell?, h]
    have hDW : D < W1.heap.size := (Array.getElem?_eq_some_iff.1 HS.out.cells).1
    obtain ⟨x, hx⟩ : ∃ x : Int, (c.toNat : Int) = x := ⟨_, rfl⟩
    have kc : ∀ (W : World) (b : Nat), W.cell? ⟨b, 0, none⟩ = some (.int .u8 x) → (convert 22 9 (.slice (some ⟨b, 0, none⟩) 1 1)).run Tryd.prog W = .ok (.string ⟨#[c]⟩) W := fun W b h => conv_brow (l := [c]) ⟨_, 1, rfl, Nat.le_refl _, .inr ⟨b, 0, rfl, fun j hj => by
      have : j = 0 := by simpa using hj
      subst this
      rw [show by8 ([c].getD 0 0) = .int .u8 x by rw [← hx]; rfl]
      exact h⟩⟩
    have KV := Lib.hid (show ∀ W, Calls Tryd.prog 52 #[.string ((⟨#[120]⟩ : ByteArray) ++ ⟨#[c]⟩ ++ ⟨#[120]⟩)] W fun e w' => e = .returned (.bool (Tp.valB x)) ∧ Below W.heap.size W w' from fun W => by
      have h := tok_value ((⟨#[120]⟩ : ByteArray) ++ ⟨#[c]⟩ ++ ⟨#[120]⟩) W (by simp [ByteArray.size])
      have e : ((⟨#[120]⟩ : ByteArray) ++ ⟨#[c]⟩ ++ ⟨#[120]⟩).data.toList = [120, c, 120] := by simp
      rw [e, isVal_one, hx] at h
      exact h)
    have HP := Lib.hid (show Dn.put cap c s.line false = if Tp.valB x = false then .bad 270 else if cap ≤ s.line.length then .bad 201 else .more (s.line ++ [c]) false by unfold Dn.put; rw [if_neg (by decide), if_neg h13, hx])
    have HX := Lib.hid hx
    have HCR := Lib.hid hcr
    rw [hx] at hb ⊢
    obtain ⟨vb, hvb⟩ : ∃ z, Tp.valB x = z := ⟨_, rfl⟩
    rw [hvb] at KV HP
    clear hg hd hcr h13 hx hvb
    go_enter Tryd.func41, Tryd.ntmps41
    go_wp2_with fail
    clear hW1 a2 y2 b2
    refine (KV.out _).mono ?_
    rintro e w2 ⟨rfl, hb2⟩
    have HD2 := Lib.hid ((HS.out.below ((Below.refl _ _).alloc (Nat.le_refl _) (.cells #[.int .u8 x] 5))).below hb2)
    have HL2 := Lib.hid (show Below D w w2 from (HL.out.alloc (Nat.le_of_lt hDW) _).trans (hb2.mono (by simp; omega)))
    clear hb2 hDW kc
    go_wp2_with fail
    refine (K.out _ _ w2).mono ?_
    rintro e w' ⟨rfl, hw'⟩
    rw [hw']
    clear hw' w'
    cases vb with
    | false =>
      simp only [musts, Bool.false_eq_true, if_false]
      go_wp2_with fail
      simp [bodyPost]
      rw [HP.out]
      simp only [if_true]
      exact ⟨⟨rfl, ⟨_, _, _, _, HD2.out⟩⟩, HL2.out⟩
    | true =>
      simp only [musts, if_true]
      have hg := HD2.out.cells
      unfold dcC at hg
      have a0 : w2.cell? ⟨D, 0, none⟩ = some (.int .i64 cap) := by simp [World.cell?, hg]
      have a1 : w2.cell? ⟨D, 1, none⟩ = some vt := by simp [World.cell?, hg]
      have y1 : w2.frozen? ⟨D, 1, none⟩ = false := frozen_of_row _ _ _ _ _ hg
      obtain ⟨pt, nt, ct, hvt⟩ : ∃ p q c, vt = .slice p q c := by
        rcases HD2.out.rt.2 with ⟨h, _⟩ | ⟨g, cap, cur, h, _⟩
        · exact ⟨_, _, _, h⟩
        · exact ⟨_, _, _, h⟩
      have hnt : nt = s.line.length := by
        rcases HD2.out.rt.2 with ⟨h, h0⟩ | ⟨g, cap, cur, h, _⟩
        · rw [h] at hvt; cases hvt; exact h0.symm
        · rw [h] at hvt; cases hvt; rfl
      subst hvt
      have HNT := Lib.hid hnt
      have hnt8 : nt ≤ 8192 := by rw [hnt]; exact hcap
      clear hg hnt
      go_wp2_with fail
      obtain ⟨b, hb2⟩ : ∃ z, decide (nt < cap) = z := ⟨_, rfl⟩
      have HB2 := Lib.hid hb2
      have HA0 := Lib.hid a0
      have HA1 := Lib.hid a1
      clear hb2
      refine region_last2 10 (fun i => 28 + min i 9) (npF D cap nt ct pt b) (npT w2.drew) (by kernel_rfl) (by kernel_rfl) rfl (by kernel_rfl) (fun i => by show 28 + min i 9 < _; simp; omega) (fun i j hi hj h => by have h : 28 + min i 9 = 28 + min j 9 := h; omega) ?start ?dst ?step ?last
      case dst =>
        intro i o hi ho
        match i, hi, ho with
        | 0, _, ho => cases ho; rfl
        | 1, _, ho => cases ho; rfl
        | 2, _, ho => cases ho; rfl
        | 3, _, ho => cases ho; rfl
        | 4, _, ho => cases ho; rfl
        | 5, _, ho => cases ho; rfl
        | 6, _, ho => cases ho; rfl
        | 7, _, ho => cases ho; rfl
        | 8, _, ho => cases ho; rfl
        | 9, _, ho => cases ho; rfl
        | n + 10, hi, _ => exact absurd hi (by omega)
      case step =>
        intro f a' W i o hib ho hfi hpre hT hrest
        match i, hib, ho with
        | 0, _, ho =>
          cases ho
          have q0 : a'.tmps.getD 0 undef = .pointer (some ⟨D, 0, none⟩) := (hrest 0 (by intro i hi; show 28 + min i 9 ≠ _; omega))
          have e0 := rg_ev q0
          exact rg_same2 (.pointer (some ⟨D, 0, none⟩)) (by unfold Oper.wp execOp; go_simp; all_goals ((try simp only [e0]); (try go_simp); (try rw [if_pos (by omega)]); (try rw [if_neg (by omega)]); first | done | rfl | exact ⟨rfl, rfl⟩ | trivial)) rfl (hT)
        | 1, _, ho =>
          cases ho
          have f28 := (hpre { on := 0, ground := .data } (by simp) rfl).1
          have q28 : a'.tmps.getD 28 undef = .pointer (some ⟨D, 0, none⟩) := (hpre { on := 0, ground := .data } (by simp) rfl).2
          have e28 := rg_ev q28
          exact rg_same2 (.pointer (some ⟨D, 0, none⟩)) (by unfold Oper.wp execOp; go_simp; all_goals ((try simp only [e28]); (try go_simp); (try rw [if_pos (by omega)]); (try rw [if_neg (by omega)]); first | done | rfl | exact ⟨rfl, rfl⟩ | trivial)) rfl (hT)
        | 2, _, ho =>
          cases ho
          have f29 := (hpre { on := 1, ground := .data } (by simp) rfl).1
          have q29 : a'.tmps.getD 29 undef = .pointer (some ⟨D, 0, none⟩) := (hpre { on := 1, ground := .data } (by simp) rfl).2
          have e29 := rg_ev q29
          exact rg_same2 (.pointer (some ⟨D, 1, none⟩)) (by unfold Oper.wp execOp; go_simp; all_goals ((try simp only [e29]); (try go_simp); (try rw [if_pos (by omega)]); (try rw [if_neg (by omega)]); first | done | rfl | exact ⟨rfl, rfl⟩ | trivial)) rfl (hT)
        | 3, _, ho =>
          cases ho
          have f30 := (hpre { on := 2, ground := .data } (by simp) rfl).1
          have q30 : a'.tmps.getD 30 undef = .pointer (some ⟨D, 1, none⟩) := (hpre { on := 2, ground := .data } (by simp) rfl).2
          have hc : W.cell? ⟨D, 1, none⟩ = some (.slice pt nt ct) := by rw [show W = w2.drew from hT]; exact HA1.out
          have e30 := rg_ev q30
          exact rg_same2 (.slice pt nt ct) (by unfold Oper.wp execOp; go_simp; all_goals ((try simp only [e30]); (try go_simp); (try rw [if_pos (by omega)]); (try rw [if_neg (by omega)]); first | done | rfl | exact ⟨rfl, rfl⟩ | trivial)) rfl (hT)
        | 4, _, ho =>
          cases ho
          have f31 := (hpre { on := 3, ground := .data } (by simp) rfl).1
          have q31 : a'.tmps.getD 31 undef = .slice pt nt ct := (hpre { on := 3, ground := .data } (by simp) rfl).2
          have e31 := rg_ev q31
          exact rg_same2 (.int .i64 nt) (by unfold Oper.wp execOp; go_simp; all_goals ((try simp only [e31]); (try go_simp); (try rw [if_pos (by omega)]); (try rw [if_neg (by omega)]); first | done | rfl | exact ⟨rfl, rfl⟩ | trivial)) rfl (hT)
        | 5, _, ho =>
          cases ho
          have q0 : a'.tmps.getD 0 undef = .pointer (some ⟨D, 0, none⟩) := (hrest 0 (by intro i hi; show 28 + min i 9 ≠ _; omega))
          have e0 := rg_ev q0
          exact rg_same2 (.pointer (some ⟨D, 0, none⟩)) (by unfold Oper.wp execOp; go_simp; all_goals ((try simp only [e0]); (try go_simp); (try rw [if_pos (by omega)]); (try rw [if_neg (by omega)]); first | done | rfl | exact ⟨rfl, rfl⟩ | trivial)) rfl (hT)
        | 6, _, ho =>
          cases ho
          have f33 := (hpre { on := 5, ground := .data } (by simp) rfl).1
          have q33 : a'.tmps.getD 33 undef = .pointer (some ⟨D, 0, none⟩) := (hpre { on := 5, ground := .data } (by simp) rfl).2
          have e33 := rg_ev q33
          exact rg_same2 (.pointer (some ⟨D, 0, none⟩)) (by unfold Oper.wp execOp; go_simp; all_goals ((try simp only [e33]); (try go_simp); (try rw [if_pos (by omega)]); (try rw [if_neg (by omega)]); first | done | rfl | exact ⟨rfl, rfl⟩ | trivial)) rfl (hT)
        | 7, _, ho =>
          cases ho
          have f34 := (hpre { on := 6, ground := .data } (by simp) rfl).1
          have q34 : a'.tmps.getD 34 undef = .pointer (some ⟨D, 0, none⟩) := (hpre { on := 6, ground := .data } (by simp) rfl).2
          have e34 := rg_ev q34
          exact rg_same2 (.pointer (some ⟨D, 0, none⟩)) (by unfold Oper.wp execOp; go_simp; all_goals ((try simp only [e34]); (try go_simp); (try rw [if_pos (by omega)]); (try rw [if_neg (by omega)]); first | done | rfl | exact ⟨rfl, rfl⟩ | trivial)) rfl (hT)
        | 8, _, ho =>
          cases ho
          have f35 := (hpre { on := 7, ground := .data } (by simp) rfl).1
          have q35 : a'.tmps.getD 35 undef = .pointer (some ⟨D, 0, none⟩) := (hpre { on := 7, ground := .data } (by simp) rfl).2
          have hc : W.cell? ⟨D, 0, none⟩ = some (.int .i64 cap) := by rw [show W = w2.drew from hT]; exact HA0.out
          have e35 := rg_ev q35
          exact rg_same2 (.int .i64 cap) (by unfold Oper.wp execOp; go_simp; all_goals ((try simp only [e35]); (try go_simp); (try rw [if_pos (by omega)]); (try rw [if_neg (by omega)]); first | done | rfl | exact ⟨rfl, rfl⟩ | trivial)) rfl (hT)
        | 9, _, ho =>
          cases ho
          have f32 := (hpre { on := 4, ground := .data } (by simp) rfl).1
          have q32 : a'.tmps.getD 32 undef = .int .i64 nt := (hpre { on := 4, ground := .data } (by simp) rfl).2
          have f36 := (hpre { on := 8, ground := .data } (by simp) rfl).1
          have q36 : a'.tmps.getD 36 undef = .int .i64 cap := (hpre { on := 8, ground := .data } (by simp) rfl).2
          have hb := HB2.out
          have e32 := rg_ev q32
          have e36 := rg_ev q36
          exact rg_same2 (.bool b) (by unfold Oper.wp execOp; go_simp; all_goals ((try simp only [e32, e36]); (try go_simp); (try rw [if_pos (by omega)]); (try rw [if_neg (by omega)]); first | done | rfl | exact ⟨rfl, rfl⟩ | trivial)) rfl (hT)
        | n + 10, hib, _ => exact absurd hib (by omega)
      case last =>
        intro f vs W oL ho hall hT hvs
        have hopL : oL.op = Op.call { callee := .value (.func 45), args := #[.tmp 37, .const (.int .i64 201)], argTypes := #[4, 25] } := by cases ho; rfl
        have hdsL : oL.dst = some 38 := by cases ho; rfl
        clear ho hall
        have v0 : vs 0 = .pointer (some ⟨D, 0, none⟩) := hvs 0 (by decide)
        have v1 : vs 1 = .pointer (some ⟨D, 0, none⟩) := hvs 1 (by decide)
        have v2 : vs 2 = .pointer (some ⟨D, 1, none⟩) := hvs 2 (by decide)
        have v3 : vs 3 = .slice pt nt ct := hvs 3 (by decide)
        have v4 : vs 4 = .int .i64 nt := hvs 4 (by decide)
        have v5 : vs 5 = .pointer (some ⟨D, 0, none⟩) := hvs 5 (by decide)
        have v6 : vs 6 = .pointer (some ⟨D, 0, none⟩) := hvs 6 (by decide)
        have v7 : vs 7 = .pointer (some ⟨D, 0, none⟩) := hvs 7 (by decide)
        have v8 : vs 8 = .int .i64 cap := hvs 8 (by decide)
        have v9 : vs 9 = .bool b := hvs 9 (by decide)
        simp only [fillN, List.size_toArray, List.length_cons, List.length_nil, Nat.reduceAdd, show List.range 10 = [0, 1, 2, 3, 4, 5, 6, 7, 8, 9] from rfl, List.foldl_cons, List.foldl_nil, show 28 + min 0 9 = 28 from rfl, show 28 + min 1 9 = 29 from rfl, show 28 + min 2 9 = 30 from rfl, show 28 + min 3 9 = 31 from rfl, show 28 + min 4 9 = 32 from rfl, show 28 + min 5 9 = 33 from rfl, show 28 + min 6 9 = 34 from rfl, show 28 + min 7 9 = 35 from rfl, show 28 + min 8 9 = 36 from rfl, show 28 + min 9 9 = 37 from rfl, v0, v1, v2, v3, v4, v5, v6, v7, v8, v9]
        clear v0 v1 v2 v3 v4 v5 v6 v7 v8 v9 hvs
        have eg := enters_of Tryd.func45 (by kernel_rfl) rfl
        have hW : W = w2.drew := hT
        subst hW
        unfold Oper.wp execOp
        simp [hopL, hdsL, resolve, invoke, eg, go_sem]
        refine (K.out b 201 _).mono ?_
        rintro e w' ⟨rfl, hw'⟩
        rw [hw']
        clear hw' w' hT hopL hdsL a0 a1 y1
        have HD3 := Lib.hid (HD2.out.below (Below.refl _ _).drew)
        have HL3 := Lib.hid HL2.out.drew
        cases b with
        | false =>
          simp only [musts, Bool.false_eq_true, if_false]
          go_wp2_with fail
          simp [bodyPost]
          rw [HP.out]
          have h1 := of_decide_eq_false HB2.out
          rw [if_neg (by decide), if_pos (by rw [← HNT.out]; omega)]
          exact ⟨⟨rfl, ⟨_, _, _, _, HD3.out⟩⟩, HL3.out⟩
        | true =>
          simp only [musts, if_true]
          have hlt := of_decide_eq_true HB2.out
          obtain ⟨W3, hW3⟩ : ∃ Z, w2.drew = Z := ⟨_, rfl⟩
          rw [hW3] at HD3 HL3 ⊢
          have hg := HD3.out.cells
          unfold dcC at hg
          have a1 : W3.cell? ⟨D, 1, none⟩ = some (.slice pt nt ct) := by simp [World.cell?, hg]
          have hDW : D < W3.heap.size := (Array.getElem?_eq_some_iff.1 hg).1
          have HD4 := Lib.hid (HD3.out.below ((Below.refl _ _).alloc (Nat.le_refl _) (.cells #[.int .u8 x] 5)))
          have HR4 := Lib.hid (show (W3.alloc (.cells #[.int .u8 x] 5)).ownsRow (D + 1) 5 1 (.slice pt nt ct) s.line.length (s.line.map by8) from HD4.out.rt)
          have hll : s.line.length ≤ 8192 := hcap
          clear hW3 hg
          go_wp2_with (at_builtin; refine wpList_append_blk rfl _ _ 22 rfl (D + 1) 5 i0 (.int .u8 0) 1 1 Tryd.underlying22 hi hz0 hz1 hz2 rfl (by decide) _ _ _ rfl HR4.out ⟨W3.heap.size, 0, none⟩ 1 1 [.int .u8 x] rfl rfl (by intro j u hj; match j, hj with | 0, hj => (simp at hj; subst hj; simp [Addr.add])) (by intro u hu; simp at hu; subst hu; rfl) (by unfold maxLen; omega) (by omega) (by simp; omega) ?_)
          intro v' w5 hown' hgrow hblk
          have hD : some D ≠ (Value.slice pt nt ct).ownBlock := fun e => by have := (HR4.out.lt D e.symm).1; omega
          have hc5 := (hgrow.block D (by simp; omega) hD).trans HD4.out.cells
          obtain ⟨g5, c5, rfl⟩ := Go.Joins.ownsRow_form hown' (by omega)
          unfold dcC at hc5
          have b1 : w5.cell? ⟨D, 1, none⟩ = some (.slice pt nt ct) := by simp [World.cell?, hc5]
          have y1 : w5.frozen? ⟨D, 1, none⟩ = false := frozen_of_row _ _ _ _ _ hc5
          have HT5 := Lib.hid (HD4.out.text (c := c) (by rw [show by8 c = .int .u8 x by unfold by8; rw [HX.out]]; exact hown') hgrow (by simpa using hblk))
          have HL5 := Lib.hid ((Below.grown (HL3.out.alloc (by omega) _) hgrow (by simp; omega) (fun k hk => by have := (HR4.out.lt k hk).1; omega)).setCell (p := ⟨D, 1, none⟩) (Nat.le_refl D) (.slice (some ⟨g5, 0, none⟩) (s.line.length + 1) c5))
          clear hown' hgrow hblk hD hc5 a1
          go_wp2_with fail
          simp [bodyPost, results, Tryd.results41, go_sem]
          rw [HP.out, if_neg (by decide), if_neg (by rw [← HNT.out]; omega)]
          have hcr := HCR.out
          refine ⟨⟨rfl, ?_⟩, HL5.out⟩
          have h5 := HT5.out
          obtain ⟨l0, cr0, p0, lf0, m0, o0, e0, u0, y0⟩ := s
          simp only at hcr
          subst hcr
          exact ⟨_, _, _, _, h5⟩
      case start => exact rfl
end Go.Proofs.YtaekcmoogobbjaaDoor

/- dechunk: told, crs. -/
namespace Go.Proofs.YtaekcmoogobbjaaDoor
set_option linter.unusedVariables false
set_option linter.unusedSimpArgs false
set_option linter.unusedSectionVars false
open Go.RowKit Go.Shelf
set_option maxHeartbeats 4000000
set_option maxRecDepth 100000
variable [Gst]
theorem apart_nil (b : Value) : apart (.slice none 0 0) b := fun k h => by cases h
theorem DAt.told {w : World} {D cap : Nat} {s : Dn.St} {vt vo ve vu : Value} (h : DAt w D cap s vt vo ve vu) : DAt ((w.setCell ⟨D, 1, none⟩ (.slice none 0 0)).setCell ⟨D, 2, none⟩ (.bool false)) D cap (Dn.told s) (.slice none 0 0) vo ve vu := by
  obtain ⟨xs, hx, hgu⟩ := h.re
  have h1 := heap_setCell_same _ _ 1 _ _ (.slice none 0 0) h.cells
  have h2 := heap_setCell_same _ _ 2 _ _ (.bool false) h1
  refine ⟨?_, World.ownsRow_nil _ _ _ _, ?_, ?_, ⟨xs, ?_, hgu.oth hx (fun k _ hk _ _ _ _ => (Below.heap_setCell _ _ _ _ hk).trans (Below.heap_setCell _ _ _ _ hk)) (nw.nil _ _) (nw.refl _ _) (nw.refl _ _) (nw.refl _ _)⟩, apart_nil _, apart_nil _, h.ou⟩
  · rw [h2]; unfold dcC Dn.told; simp
  · exact ownsRow_setCell_below (a := ⟨D, 2, none⟩) (ownsRow_setCell_below (a := ⟨D, 1, none⟩) h.ro (Nat.lt_succ_self D) _) (Nat.lt_succ_self D) _
  · exact ownsRow_setCell_below (a := ⟨D, 2, none⟩) (ownsRow_setCell_below (a := ⟨D, 1, none⟩) h.ru (Nat.lt_succ_self D) _) (Nat.lt_succ_self D) _
  · exact ownsRow_setCell_below (a := ⟨D, 2, none⟩) (ownsRow_setCell_below (a := ⟨D, 1, none⟩) hx (Nat.lt_succ_self D) _) (Nat.lt_succ_self D) _
theorem DAt.slices {w : World} {D cap : Nat} {s : Dn.St} {vt vo ve vu : Value} (h : DAt w D cap s vt vo ve vu) : (∃ p c, vt = .slice p s.line.length c) ∧ (∃ p c, vo = .slice p s.out.length c) ∧ (∃ p c, ve = .slice p s.ended.length c) ∧ (∃ p c, vu = .slice p s.under.length c) := by
  have f : ∀ {e : TypeId} {v : Value} {n : Nat} {xs : List Value}, w.ownsRow (D + 1) e 1 v n xs → ∃ p c, v = .slice p n c := by
    intro e v n xs h
    rcases h.2 with ⟨rfl, rfl⟩ | ⟨g, cap, cur, rfl, _⟩
    · exact ⟨_, _, rfl⟩
    · exact ⟨_, _, rfl⟩
  obtain ⟨xs, hx, _⟩ := h.re
  exact ⟨f h.rt, f h.ro, f hx, f h.ru⟩
theorem dc_told (D cap : Nat) (s : Dn.St) (w : World) (h : DD w D cap s) :
    Calls Tryd.prog 42 #[.pointer (some ⟨D, 0, none⟩)] w fun e w' => e = .returned (.string ⟨s.line.toArray⟩) ∧ DD w' D cap (Dn.told s) ∧ Below D w w' := by
  obtain ⟨vt, vo, ve, vu, hd⟩ := h
  obtain ⟨⟨pt, ct, rfl⟩, _⟩ := hd.slices
  have hg := hd.cells
  unfold dcC at hg
  have a1 : w.cell? ⟨D, 1, none⟩ = some (.slice pt s.line.length ct) := by simp [World.cell?, hg]
  have a2 : w.cell? ⟨D, 2, none⟩ = some (.bool s.cr) := by simp [World.cell?, hg]
  have y1 : w.frozen? ⟨D, 1, none⟩ = false := frozen_of_row _ _ _ _ _ hg
  have y2 : w.frozen? ⟨D, 2, none⟩ = false := frozen_of_row _ _ _ _ _ hg
  have hcv := conv_brow (BRow.of_own hd.rt)
  have HT := Lib.hid hd.told
  have HL := Lib.hid (Below.setCell (Below.setCell (Below.refl D w) (p := ⟨D, 1, none⟩) (Nat.le_refl D) (.slice none 0 0)) (p := ⟨D, 2, none⟩) (Nat.le_refl D) (.bool false))
  clear hg hd
  go_enter Tryd.func42, Tryd.ntmps42
  go_wp2_with fail
  simp [bodyPost, results, Tryd.results42, go_sem]
  exact ⟨⟨_, _, _, _, HT.out⟩, HL.out⟩
/-- what a byte does, told: as it goes on, or given up with -/
def stepEnd (w' : World) (D cap : Nat) (e : Ending) (s' : Dn.St) : Prop :=
  (s'.why = 0 ∧ e = .returned (.tuple #[]) ∧ DD w' D cap s') ∨ (s'.why ≠ 0 ∧ e = .panicked [{ v := errno s'.why, recovered := false }] ∧ DD w' D cap { s' with why := 0 })
theorem stepEnd.bad {w' : World} {D cap : Nat} {s : Dn.St} {n : Nat} (hw : s.why = 0) (hn : n ≠ 0) (h : DD w' D cap s) : stepEnd w' D cap (.panicked [{ v := errno n, recovered := false }]) { s with why := n } := by
  refine .inr ⟨hn, rfl, ?_⟩
  obtain ⟨l0, cr0, p0, lf0, m0, o0, e0, u0, y0⟩ := s
  simp only at hw
  subst hw
  exact h
theorem dc_crs (D cap : Nat) (c : UInt8) (s : Dn.St) (w : World) (h : DD w D cap s) (hw : s.why = 0) :
    Calls Tryd.prog 33 #[.pointer (some ⟨D, 0, none⟩), .int .u8 (c.toNat : Int)] w fun e w' => stepEnd w' D cap e (Dn.crs c s) ∧ Below D w w' := by
  obtain ⟨vt, vo, ve, vu, hd⟩ := h
  have hg := hd.cells
  unfold dcC at hg
  have a3 : w.cell? ⟨D, 3, none⟩ = some (.int .i64 s.pt) := by simp [World.cell?, hg]
  have y3 : w.frozen? ⟨D, 3, none⟩ = false := frozen_of_row _ _ _ _ _ hg
  have K := Lib.hid (fun b W => dc_musts b 270 W)
  have HD := Lib.hid hd
  have HW := Lib.hid hw
  have HS := Lib.hid (hd.set (s' := { s with pt := 3 }) 3 (.int .i64 3) (by unfold dcC; simp) rfl rfl rfl rfl)
  have HL := Lib.hid (Below.setCell (Below.refl D w) (p := ⟨D, 3, none⟩) (Nat.le_refl D) (.int .i64 3))
  obtain ⟨b, hb⟩ : ∃ z, decide (c = 13) = z := ⟨_, rfl⟩
  have HB := Lib.hid (show ((c.toNat : Int) == 13) = b by rw [← hb]; exact u8_beq c 13 (by decide))
  have HBC := Lib.hid hb
  clear hg hd hw hb
  go_enter Tryd.func33, Tryd.ntmps33
  go_wp2_with fail
  rw [HB.out]
  refine (K.out b w).mono ?_
  rintro e w' ⟨rfl, hw'⟩
  rw [hw']
  clear hw' w'
  cases b with
  | false =>
    simp only [musts, Bool.false_eq_true, if_false]
    go_wp2_with fail
    simp [bodyPost]
    have h1 := of_decide_eq_false HBC.out
    have e1 : Dn.crs c s = { s with why := 270 } := by unfold Dn.crs; rw [if_neg h1]
    rw [e1]
    exact ⟨stepEnd.bad HW.out (by decide) ⟨_, _, _, _, HD.out⟩, Below.refl _ _⟩
  | true =>
    simp only [musts, if_true]
    go_wp2_with fail
    simp [bodyPost, results, Tryd.results33, go_sem]
    have h1 := of_decide_eq_true HBC.out
    have e1 : Dn.crs c s = { s with pt := 3 } := by unfold Dn.crs; rw [if_pos h1]
    rw [e1]
    exact ⟨.inl ⟨HW.out, rfl, ⟨_, _, _, _, HS.out⟩⟩, HL.out⟩
end Go.Proofs.YtaekcmoogobbjaaDoor

/- dechunk: sizes. -/
namespace Go.Proofs.YtaekcmoogobbjaaDoor
set_option linter.unusedVariables false
set_option linter.unusedSimpArgs false
set_option linter.unusedSectionVars false
open Go.RowKit Go.Shelf
set_option maxHeartbeats 8000000
set_option maxRecDepth 100000
variable [Gst]
theorem dc_put (D cap : Nat) (c : UInt8) (s : Dn.St) (w : World) (h : DD w D cap s) (hcap : s.line.length ≤ 8192) (hcp : cap ≤ 8192) :
    Calls Tryd.prog 41 #[.pointer (some ⟨D, 0, none⟩), .int .u8 (c.toNat : Int)] w fun e w' => putEnd w' D cap s e (Dn.put cap c s.line s.cr) ∧ Below D w w' := by
  cases hcr : s.cr with
  | true => rw [← hcr]; exact dc_put_1 D cap c s w h hcr
  | false => rw [← hcr]; exact dc_put_0 D cap c s w h hcr hcap hcp
def bxD (l : List UInt8) : ByteArray := ⟨l.toArray⟩
theorem bxD_nil (l : List UInt8) : ((bxD l).toList == []) = decide (l = []) := by
  rw [ByteArray.toList_eq, Bool.eq_iff_iff]
  simp [bxD]
theorem bxD_size (l : List UInt8) : (bxD l).size = l.length := by simp [bxD, ByteArray.size]
theorem bxD_data (l : List UInt8) : (bxD l).data.toList = l := by simp [bxD]
theorem bxD_cut (l : List UInt8) (k : Nat) : (bxD l).extract 0 k = bxD (l.take k) := by
  apply ByteArray.ext; apply Array.ext'
  rw [Lib.extract_data, bxD_data]
  simp [bxD]
theorem bxD_head (t : List UInt8) (h : 0 < (bxD t).size) : (bxD t)[0] = t.headD 0 := by
  cases t with
  | nil => rw [bxD_size] at h; simp at h
  | cons a t => rfl
theorem rest_len (l : List UInt8) : (Dn.restS l).length ≤ l.length := by
  unfold Dn.restS Lib.trimLeftS
  exact (List.dropWhile_suffix _).length_le
theorem dc_sizes (D cap : Nat) (c : UInt8) (s : Dn.St) (w : World) (h : DD w D cap s) (hw : s.why = 0) (hcap : s.line.length ≤ 8192) (hcp : cap ≤ 8192) :
    Calls Tryd.prog 31 #[.pointer (some ⟨D, 0, none⟩), .int .u8 (c.toNat : Int)] w fun e w' => stepEnd w' D cap e (Dn.sizes cap c s) ∧ Below D w w' := by
  have KP := Lib.hid (dc_put D cap c s w h hcap hcp)
  have HS := Lib.hid (show Dn.sizes cap c s = match Dn.put cap c s.line s.cr with | .bad e => { s with why := e } | .more l b => { s with line := l, cr := b } | .full => Dn.sz s.line (Dn.told s) from rfl)
  have HPO := Lib.hid (show ∀ n, Dn.put cap c s.line s.cr = .bad n → n ≠ 0 from fun n hn => by
    unfold Dn.put at hn
    repeat' split at hn
    all_goals first | (cases hn; decide) | cases hn)
  obtain ⟨P, hP⟩ : ∃ P, Dn.put cap c s.line s.cr = P := ⟨_, rfl⟩
  rw [hP] at KP HS HPO
  have HW := Lib.hid hw
  clear h hP hw
  go_enter Tryd.func31, Tryd.ntmps31
  go_wp2_with fail
  refine KP.out.mono ?_
  rintro e w1 ⟨hp, hb⟩
  have HB := Lib.hid hb
  clear hb
  cases P with
  | bad n =>
    obtain ⟨rfl, hdd⟩ := hp
    have HDD := Lib.hid hdd
    clear hdd
    go_wp2_with fail
    simp [bodyPost]
    rw [HS.out]
    exact ⟨stepEnd.bad HW.out (HPO.out n rfl) HDD.out, HB.out⟩
  | more l b =>
    obtain ⟨rfl, hdd⟩ := hp
    have HDD := Lib.hid hdd
    clear hdd
    go_wp2_with fail
    simp [bodyPost, results, Tryd.results31, go_sem]
    rw [HS.out]
    exact ⟨.inl ⟨HW.out, rfl, HDD.out⟩, HB.out⟩
  | full =>
    obtain ⟨rfl, hdd⟩ := hp
    have KT := Lib.hid (dc_told D cap s w1 hdd)
    clear hdd
    go_wp2_with fail
    refine KT.out.mono ?_
    rintro e w2 ⟨rfl, hdd, hb⟩
    have HDD := Lib.hid hdd
    have HB2 := Lib.hid (HB.out.trans hb)
    have hDw : D < w2.heap.size := by obtain ⟨_, _, _, _, h⟩ := hdd; exact (Array.getElem?_eq_some_iff.1 h.cells).1
    clear hdd hb
    have hll : s.line.length ≤ 8192 := hcap
    obtain ⟨l, hl⟩ : ∃ l, s.line = l := ⟨_, rfl⟩
    rw [hl] at HS hll ⊢
    rw [show (⟨l.toArray⟩ : ByteArray) = bxD l from rfl]
    have KL := Lib.hid (show ∀ W, Calls Tryd.prog 43 #[.string (bxD l), .string ⟨#[48, 49, 50, 51, 52, 53, 54, 55, 56, 57, 97, 98, 99, 100, 101, 102, 65, 66, 67, 68, 69, 70]⟩] W fun e w' => e = .returned (.string (bxD (Dn.restS l))) ∧ Below W.heap.size W w' from fun W => by
      have h := str_TrimLeft (bxD l) W
      rw [bxD_data] at h
      exact h)
    have hrl := rest_len l
    have KR := Lib.hid (show ∀ W, Calls Tryd.prog 44 #[.string (bxD (Dn.restS l))] W fun e w' => e = .returned (.string (bxD (Tp.trim (Dn.restS l)))) ∧ Below W.heap.size W w' from fun W => by
      have h := tok_trim (bxD (Dn.restS l)) W (by rw [bxD_size]; omega)
      rw [bxD_data] at h
      exact h)
    have hz1 := bxD_size l
    have hz2 := bxD_size (Dn.restS l)
    have hcut := bxD_cut l (l.length - (Dn.restS l).length)
    rw [show l.take (l.length - (Dn.restS l).length) = Dn.digS l from rfl] at hcut
    have KH := Lib.hid (show ∀ W, Calls Tryd.prog 46 #[.string (bxD (Dn.digS l))] W fun e w' => e = .returned (.tuple #[.int .u64 (Dp.numN 16 (Dn.digS l)), .int .i64 (Dp.numE 16 (Dn.digS l))]) ∧ Below W.heap.size W w' from fun W => by
      have h := dec_hexDigits (bxD (Dn.digS l)) W (by rw [bxD_size]; unfold Dn.digS; rw [List.length_take]; omega)
      rw [bxD_data] at h
      exact h)
    have K := Lib.hid (fun b n W => dc_musts b n W)
    clear hcap
    go_wp2_with fail
    refine (KL.out w2).mono ?_
    rintro e w3 ⟨rfl, hb3⟩
    have HD3 := Lib.hid (HDD.out.below hb3)
    have HB3 := Lib.hid (HB2.out.trans (hb3.mono (Nat.le_of_lt hDw)))
    have hD3 : D < w3.heap.size := Nat.lt_of_lt_of_le hDw hb3.size
    clear hb3 hDw
    go_wp2_with fail
    refine (KR.out w3).mono ?_
    rintro e w4 ⟨rfl, hb4⟩
    have HD4 := Lib.hid (HD3.out.below hb4)
    have HB4 := Lib.hid (HB3.out.trans (hb4.mono (Nat.le_of_lt hD3)))
    have hD4 : D < w4.heap.size := Nat.lt_of_lt_of_le hD3 hb4.size
    clear hb4 hD3
    have htn : ((l.length : Int) - ((Dn.restS l).length : Int)).toNat = l.length - (Dn.restS l).length := by omega
    obtain ⟨db, hdb⟩ : ∃ z, bxD (Dn.digS l) = z := ⟨_, rfl⟩
    obtain ⟨tb, htb⟩ : ∃ z, bxD (Tp.trim (Dn.restS l)) = z := ⟨_, rfl⟩
    have hd1 := bxD_nil (Dn.digS l)
    have ht1 := bxD_nil (Tp.trim (Dn.restS l))
    have ht2 := bxD_size (Tp.trim (Dn.restS l))
    have ht3 := bxD_head (Tp.trim (Dn.restS l))
    rw [hdb] at hcut hd1 KH
    rw [htb] at ht1 ht2 ht3 ⊢
    have HT2 := Lib.hid ht2
    have HT3 := Lib.hid ht3
    obtain ⟨bd, hbd⟩ : ∃ z, decide (Dn.digS l = []) = z := ⟨_, rfl⟩
    obtain ⟨bt, hbt⟩ : ∃ z, decide (Tp.trim (Dn.restS l) = []) = z := ⟨_, rfl⟩
    rw [hbd] at hd1
    rw [hbt] at ht1
    have HBD := Lib.hid hbd
    have HBT := Lib.hid hbt
    have HDB := Lib.hid hdb
    have HTB := Lib.hid htb
    clear ht2 ht3 hbd hbt hdb htb
    have bad270 : Hid (¬ Dn.sizeOk l → ∀ W, DD W D cap (Dn.told s) → Below D w W → stepEnd W D cap (.panicked [{ v := errno 270, recovered := false }]) (Dn.sizes cap c s) ∧ Below D w W) := Lib.hid (fun hno W h1 h2 => by
      rw [HS.out]
      try simp only
      unfold Dn.sz
      rw [if_neg hno]
      exact ⟨stepEnd.bad HW.out (by decide) h1, h2⟩)
    cases bd with
    | true =>
      go_wp2_with fail
      refine (K.out false 270 w4).mono ?_
      rintro e w' ⟨rfl, hw'⟩
      rw [hw']
      clear hw' w'
      simp only [musts, Bool.false_eq_true, if_false]
      go_wp2_with fail
      try simp [bodyPost]
      exact bad270.out (fun hok => hok.1 (of_decide_eq_true HBD.out)) w4 HD4.out HB4.out
    | false =>
      have hgo : ∀ b : Bool, (b = true ↔ Dn.sizeOk l) → True := fun _ _ => trivial
      cases bt with
      | true =>
        have HOK := Lib.hid (show Dn.sizeOk l from ⟨of_decide_eq_false HBD.out, .inl (of_decide_eq_true HBT.out)⟩)
        go_wp2_with fail
        refine (K.out true 270 w4).mono ?_
        rintro e w' ⟨rfl, hw'⟩
        rw [hw']
        clear hw' w'
        simp only [musts, if_true]
        have HKH := KH
        have hNN := Dp.numN_nn (Dn.digS l)
        obtain ⟨N, hN⟩ : ∃ z, Dp.numN 16 (Dn.digS l) = z := ⟨_, rfl⟩
        obtain ⟨E, hE⟩ : ∃ z, Dp.numE 16 (Dn.digS l) = z := ⟨_, rfl⟩
        rw [hN, hE] at HKH
        rw [hN] at hNN
        have HNN := Lib.hid hN
        have HEE := Lib.hid hE
        clear hN hE
        go_wp2_with fail
        refine (HKH.out w4).mono ?_
        rintro e w5 ⟨rfl, hb5⟩
        have HD5 := Lib.hid (HD4.out.below hb5)
        have HB5 := Lib.hid (HB4.out.trans (hb5.mono (Nat.le_of_lt hD4)))
        clear hb5 hD4
        have bad201 : Hid (¬ Dn.fits l → ∀ W, DD W D cap (Dn.told s) → Below D w W → stepEnd W D cap (.panicked [{ v := errno 201, recovered := false }]) (Dn.sizes cap c s) ∧ Below D w W) := Lib.hid (fun hno W h1 h2 => by
          rw [HS.out]
          try simp only
          unfold Dn.sz
          rw [if_pos HOK.out, if_neg hno]
          exact ⟨stepEnd.bad HW.out (by decide) h1, h2⟩)
        by_cases hE0 : E = 0
        · have hEb : (E == 0) = true := by rw [hE0]; rfl
          by_cases hNb : N ≤ 16777216
          · have hdN : decide (N ≤ 16777216) = true := decide_eq_true hNb
            have HFT := Lib.hid (show Dn.fits l from ⟨HEE.out.trans hE0, by rw [HNN.out]; exact hNb⟩)
            have HE0 := Lib.hid hE0
            have HNb := Lib.hid hNb
            obtain ⟨vt, vo, ve, vu, hd⟩ := HD5.out
            have hg := hd.cells
            unfold dcC at hg
            have a4 : w5.cell? ⟨D, 4, none⟩ = some (.int .i64 (Dn.told s).left) := by simp [World.cell?, hg]
            have a3 : w5.cell? ⟨D, 3, none⟩ = some (.int .i64 (Dn.told s).pt) := by simp [World.cell?, hg]
            have y4 : w5.frozen? ⟨D, 4, none⟩ = false := frozen_of_row _ _ _ _ _ hg
            have y3 : w5.frozen? ⟨D, 3, none⟩ = false := frozen_of_row _ _ _ _ _ hg
            have hNt : ((N.toNat : Nat) : Int) = N := by omega
            have h1 := hd.set (s' := { Dn.told s with left := N.toNat }) 4 (.int .i64 N) (by unfold dcC; simp [hNt]) rfl rfl rfl rfl
            have h2 := h1.set (s' := { Dn.told s with left := N.toNat, pt := 1 }) 3 (.int .i64 1) (by unfold dcC; simp) rfl rfl rfl rfl
            have h3 := h2.set (s' := { Dn.told s with left := N.toNat, pt := 4 }) 3 (.int .i64 4) (by unfold dcC; simp) rfl rfl rfl rfl
            have H2 := Lib.hid h2
            have H3 := Lib.hid h3
            have L2 := Lib.hid ((HB5.out.setCell (p := ⟨D, 4, none⟩) (Nat.le_refl D) (.int .i64 N)).setCell (p := ⟨D, 3, none⟩) (Nat.le_refl D) (.int .i64 1))
            have L3 := Lib.hid (L2.out.setCell (p := ⟨D, 3, none⟩) (Nat.le_refl D) (.int .i64 4))
            have hWN : IntKind.i64.wrap N = N := by rw [IntKind.wrap_i64]; omega
            have HSZ := Lib.hid (show Dn.sizes cap c s = { Dn.told s with left := N.toNat, pt := if N = 0 then 4 else 1 } by
              rw [HS.out]
              try simp only
              unfold Dn.sz
              rw [if_pos HOK.out, if_pos HFT.out, HNN.out])
            clear hE0 hg hd h1 h2 h3
            by_cases hN0 : N = 0
            · have hN0b : (N == 0) = true := by rw [hN0]; rfl
              have HN0 := Lib.hid hN0
              clear hN0 hNb
              go_wp2_with fail
              refine (K.out true 201 w5).mono ?_
              rintro e w' ⟨rfl, hw'⟩
              rw [hw']
              clear hw' w'
              simp only [musts, if_true]
              go_wp2_with fail
              simp [bodyPost, results, Tryd.results31, go_sem]
              rw [HSZ.out, if_pos HN0.out]
              exact ⟨.inl ⟨HW.out, rfl, ⟨_, _, _, _, H3.out⟩⟩, L3.out⟩
            · have hN0b : (N == 0) = false := beq_eq_false_iff_ne.2 hN0
              have HN0 := Lib.hid hN0
              clear hN0 hNb
              go_wp2_with fail
              refine (K.out true 201 w5).mono ?_
              rintro e w' ⟨rfl, hw'⟩
              rw [hw']
              clear hw' w'
              simp only [musts, if_true]
              go_wp2_with fail
              simp [bodyPost, results, Tryd.results31, go_sem]
              rw [HSZ.out, if_neg HN0.out]
              exact ⟨.inl ⟨HW.out, rfl, ⟨_, _, _, _, H2.out⟩⟩, L2.out⟩
          · have hdN : decide (N ≤ 16777216) = false := decide_eq_false hNb
            have hno : ¬ Dn.fits l := fun h => hNb (by rw [← HNN.out]; exact h.2)
            have HNO := Lib.hid hno
            clear hE0 hNb hno
            go_wp2_with fail
            refine (K.out false 201 w5).mono ?_
            rintro e w' ⟨rfl, hw'⟩
            rw [hw']
            clear hw' w'
            simp only [musts, Bool.false_eq_true, if_false]
            go_wp2_with fail
            try simp [bodyPost]
            exact bad201.out HNO.out w5 HD5.out HB5.out
        · have hEb : (E == 0) = false := beq_eq_false_iff_ne.2 hE0
          have hno : ¬ Dn.fits l := fun h => hE0 (by rw [← HEE.out]; exact h.1)
          have HNO := Lib.hid hno
          clear hE0 hno
          go_wp2_with fail
          refine (K.out false 201 w5).mono ?_
          rintro e w' ⟨rfl, hw'⟩
          rw [hw']
          clear hw' w'
          simp only [musts, Bool.false_eq_true, if_false]
          go_wp2_with fail
          try simp [bodyPost]
          exact bad201.out HNO.out w5 HD5.out HB5.out
      | false =>
        have htp : 0 < tb.size := by
          have h1 := of_decide_eq_false HBT.out
          rw [HT2.out]
          exact List.length_pos_iff.2 h1
        obtain ⟨b59, hb59⟩ : ∃ z, decide ((Tp.trim (Dn.restS l)).headD 0 = 59) = z := ⟨_, rfl⟩
        have hix : ((tb[0].toNat : Int) == 59) = b59 := by
          rw [HT3.out htp, ← hb59]
          exact u8_beq _ 59 (by decide)
        have HB59 := Lib.hid hb59
        clear hb59
        go_wp2_with fail
        refine (K.out b59 270 w4).mono ?_
        rintro e w' ⟨rfl, hw'⟩
        rw [hw']
        clear hw' w'
        cases b59 with
        | false =>
          simp only [musts, Bool.false_eq_true, if_false]
          go_wp2_with fail
          simp [bodyPost]
          refine bad270.out (fun hok => ?_) w4 HD4.out HB4.out
          rcases hok.2 with h | h
          · exact of_decide_eq_false HBT.out h
          · exact of_decide_eq_false HB59.out h
        | true =>
          have HOK := Lib.hid (show Dn.sizeOk l from ⟨of_decide_eq_false HBD.out, .inr (of_decide_eq_true HB59.out)⟩)
          simp only [musts, if_true]
          have HKH := KH
          have hNN := Dp.numN_nn (Dn.digS l)
          obtain ⟨N, hN⟩ : ∃ z, Dp.numN 16 (Dn.digS l) = z := ⟨_, rfl⟩
          obtain ⟨E, hE⟩ : ∃ z, Dp.numE 16 (Dn.digS l) = z := ⟨_, rfl⟩
          rw [hN, hE] at HKH
          rw [hN] at hNN
          have HNN := Lib.hid hN
          have HEE := Lib.hid hE
          clear hN hE
          go_wp2_with fail
          refine (HKH.out w4).mono ?_
          rintro e w5 ⟨rfl, hb5⟩
          have HD5 := Lib.hid (HD4.out.below hb5)
          have HB5 := Lib.hid (HB4.out.trans (hb5.mono (Nat.le_of_lt hD4)))
          clear hb5 hD4
          have bad201 : Hid (¬ Dn.fits l → ∀ W, DD W D cap (Dn.told s) → Below D w W → stepEnd W D cap (.panicked [{ v := errno 201, recovered := false }]) (Dn.sizes cap c s) ∧ Below D w W) := Lib.hid (fun hno W h1 h2 => by
            rw [HS.out]
            try simp only
            unfold Dn.sz
            rw [if_pos HOK.out, if_neg hno]
            exact ⟨stepEnd.bad HW.out (by decide) h1, h2⟩)
          by_cases hE0 : E = 0
          · have hEb : (E == 0) = true := by rw [hE0]; rfl
            by_cases hNb : N ≤ 16777216
            · have hdN : decide (N ≤ 16777216) = true := decide_eq_true hNb
              have HFT := Lib.hid (show Dn.fits l from ⟨HEE.out.trans hE0, by rw [HNN.out]; exact hNb⟩)
              have HE0 := Lib.hid hE0
              have HNb := Lib.hid hNb
              obtain ⟨vt, vo, ve, vu, hd⟩ := HD5.out
              have hg := hd.cells
              unfold dcC at hg
              have a4 : w5.cell? ⟨D, 4, none⟩ = some (.int .i64 (Dn.told s).left) := by simp [World.cell?, hg]
              have a3 : w5.cell? ⟨D, 3, none⟩ = some (.int .i64 (Dn.told s).pt) := by simp [World.cell?, hg]
              have y4 : w5.frozen? ⟨D, 4, none⟩ = false := frozen_of_row _ _ _ _ _ hg
              have y3 : w5.frozen? ⟨D, 3, none⟩ = false := frozen_of_row _ _ _ _ _ hg
              have hNt : ((N.toNat : Nat) : Int) = N := by omega
              have h1 := hd.set (s' := { Dn.told s with left := N.toNat }) 4 (.int .i64 N) (by unfold dcC; simp [hNt]) rfl rfl rfl rfl
              have h2 := h1.set (s' := { Dn.told s with left := N.toNat, pt := 1 }) 3 (.int .i64 1) (by unfold dcC; simp) rfl rfl rfl rfl
              have h3 := h2.set (s' := { Dn.told s with left := N.toNat, pt := 4 }) 3 (.int .i64 4) (by unfold dcC; simp) rfl rfl rfl rfl
              have H2 := Lib.hid h2
              have H3 := Lib.hid h3
              have L2 := Lib.hid ((HB5.out.setCell (p := ⟨D, 4, none⟩) (Nat.le_refl D) (.int .i64 N)).setCell (p := ⟨D, 3, none⟩) (Nat.le_refl D) (.int .i64 1))
              have L3 := Lib.hid (L2.out.setCell (p := ⟨D, 3, none⟩) (Nat.le_refl D) (.int .i64 4))
              have hWN : IntKind.i64.wrap N = N := by rw [IntKind.wrap_i64]; omega
              have HSZ := Lib.hid (show Dn.sizes cap c s = { Dn.told s with left := N.toNat, pt := if N = 0 then 4 else 1 } by
                rw [HS.out]
                try simp only
                unfold Dn.sz
                rw [if_pos HOK.out, if_pos HFT.out, HNN.out])
              clear hE0 hg hd h1 h2 h3
              by_cases hN0 : N = 0
              · have hN0b : (N == 0) = true := by rw [hN0]; rfl
                have HN0 := Lib.hid hN0
                clear hN0 hNb
                go_wp2_with fail
                refine (K.out true 201 w5).mono ?_
                rintro e w' ⟨rfl, hw'⟩
                rw [hw']
                clear hw' w'
                simp only [musts, if_true]
                go_wp2_with fail
                simp [bodyPost, results, Tryd.results31, go_sem]
                rw [HSZ.out, if_pos HN0.out]
                exact ⟨.inl ⟨HW.out, rfl, ⟨_, _, _, _, H3.out⟩⟩, L3.out⟩
              · have hN0b : (N == 0) = false := beq_eq_false_iff_ne.2 hN0
                have HN0 := Lib.hid hN0
                clear hN0 hNb
                go_wp2_with fail
                refine (K.out true 201 w5).mono ?_
                rintro e w' ⟨rfl, hw'⟩
                rw [hw']
                clear hw' w'
                simp only [musts, if_true]
                go_wp2_with fail
                simp [bodyPost, results, Tryd.results31, go_sem]
                rw [HSZ.out, if_neg HN0.out]
                exact ⟨.inl ⟨HW.out, rfl, ⟨_, _, _, _, H2.out⟩⟩, L2.out⟩
            · have hdN : decide (N ≤ 16777216) = false := decide_eq_false hNb
              have hno : ¬ Dn.fits l := fun h => hNb (by rw [← HNN.out]; exact h.2)
              have HNO := Lib.hid hno
              clear hE0 hNb hno
              go_wp2_with fail
              refine (K.out false 201 w5).mono ?_
              rintro e w' ⟨rfl, hw'⟩
              rw [hw']
              clear hw' w'
              simp only [musts, Bool.false_eq_true, if_false]
              go_wp2_with fail
              try simp [bodyPost]
              exact bad201.out HNO.out w5 HD5.out HB5.out
          · have hEb : (E == 0) = false := beq_eq_false_iff_ne.2 hE0
            have hno : ¬ Dn.fits l := fun h => hE0 (by rw [← HEE.out]; exact h.1)
            have HNO := Lib.hid hno
            clear hE0 hno
            go_wp2_with fail
            refine (K.out false 201 w5).mono ?_
            rintro e w' ⟨rfl, hw'⟩
            rw [hw']
            clear hw' w'
            simp only [musts, Bool.false_eq_true, if_false]
            go_wp2_with fail
            try simp [bodyPost]
            exact bad201.out HNO.out w5 HD5.out HB5.out
end Go.Proofs.YtaekcmoogobbjaaDoor

/- dechunk: lasts. -/
namespace Go.Proofs.YtaekcmoogobbjaaDoor
set_option linter.unusedVariables false
set_option linter.unusedSimpArgs false
set_option linter.unusedSectionVars false
open Go.RowKit Go.Shelf
set_option maxHeartbeats 8000000
set_option maxRecDepth 100000
variable [Gst]
theorem dc_lasts (D cap : Nat) (c : UInt8) (s : Dn.St) (w : World) (h : DD w D cap s) (hw : s.why = 0) (hcap : s.line.length ≤ 8192) (hcp : cap ≤ 8192) :
    Calls Tryd.prog 35 #[.pointer (some ⟨D, 0, none⟩), .int .u8 (c.toNat : Int)] w fun e w' => stepEnd w' D cap e (Dn.lasts cap c s) ∧ Below D w w' := by
  have KP := Lib.hid (dc_put D cap c s w h hcap hcp)
  have HS := Lib.hid (show Dn.lasts cap c s = match Dn.put cap c s.line s.cr with | .bad e => { s with why := e } | .more l b => { s with line := l, cr := b } | .full => Dn.ls s.line (Dn.told s) from rfl)
  have HPO := Lib.hid (show ∀ n, Dn.put cap c s.line s.cr = .bad n → n ≠ 0 from fun n hn => by
    unfold Dn.put at hn
    repeat' split at hn
    all_goals first | (cases hn; decide) | cases hn)
  obtain ⟨P, hP⟩ : ∃ P, Dn.put cap c s.line s.cr = P := ⟨_, rfl⟩
  rw [hP] at KP HS HPO
  have HW := Lib.hid hw
  clear h hP hw
  go_enter Tryd.func35, Tryd.ntmps35
  go_wp2_with fail
  refine KP.out.mono ?_
  rintro e w1 ⟨hp, hb⟩
  have HB := Lib.hid hb
  clear hb
  cases P with
  | bad n =>
    obtain ⟨rfl, hdd⟩ := hp
    have HDD := Lib.hid hdd
    clear hdd
    go_wp2_with fail
    simp [bodyPost]
    rw [HS.out]
    exact ⟨stepEnd.bad HW.out (HPO.out n rfl) HDD.out, HB.out⟩
  | more l b =>
    obtain ⟨rfl, hdd⟩ := hp
    have HDD := Lib.hid hdd
    clear hdd
    go_wp2_with fail
    simp [bodyPost, results, Tryd.results35, go_sem]
    rw [HS.out]
    exact ⟨.inl ⟨HW.out, rfl, HDD.out⟩, HB.out⟩
  | full =>
    obtain ⟨rfl, hdd⟩ := hp
    have KT := Lib.hid (dc_told D cap s w1 hdd)
    clear hdd
    go_wp2_with fail
    refine KT.out.mono ?_
    rintro e w2 ⟨rfl, hdd, hb⟩
    have HDD := Lib.hid hdd
    have HB2 := Lib.hid (HB.out.trans hb)
    have hDw : D < w2.heap.size := by obtain ⟨_, _, _, _, h⟩ := hdd; exact (Array.getElem?_eq_some_iff.1 h.cells).1
    clear hdd hb
    have hll : s.line.length ≤ 8192 := hcap
    obtain ⟨l, hl⟩ : ∃ l, s.line = l := ⟨_, rfl⟩
    rw [hl] at HS hll ⊢
    rw [show (⟨l.toArray⟩ : ByteArray) = bxD l from rfl]
    have hln := bxD_nil l
    obtain ⟨bl, hbl⟩ : ∃ z, decide (l = []) = z := ⟨_, rfl⟩
    rw [hbl] at hln
    have HBL := Lib.hid hbl
    clear hbl hcap
    cases bl with
    | true =>
      obtain ⟨vt, vo, ve, vu, hd⟩ := HDD.out
      have hg := hd.cells
      unfold dcC at hg
      have a3 : w2.cell? ⟨D, 3, none⟩ = some (.int .i64 (Dn.told s).pt) := by simp [World.cell?, hg]
      have y3 : w2.frozen? ⟨D, 3, none⟩ = false := frozen_of_row _ _ _ _ _ hg
      have H2 := Lib.hid (hd.set (s' := { Dn.told s with pt := 5 }) 3 (.int .i64 5) (by unfold dcC; simp) rfl rfl rfl rfl)
      have L2 := Lib.hid (HB2.out.setCell (p := ⟨D, 3, none⟩) (Nat.le_refl D) (.int .i64 5))
      clear hg hd
      go_wp2_with fail
      simp [bodyPost, results, Tryd.results35, go_sem]
      rw [HS.out]
      unfold Dn.ls
      rw [if_pos (of_decide_eq_true HBL.out)]
      exact ⟨.inl ⟨HW.out, rfl, ⟨_, _, _, _, H2.out⟩⟩, L2.out⟩
    | false =>
      have hl0 := of_decide_eq_false HBL.out
      have HL0 := Lib.hid hl0
      clear hl0
      have K := Lib.hid (fun b W => dc_musts b 270 W)
      have KC := Lib.hid (show ∀ W, Calls Tryd.prog 47 #[.string (bxD l), .string ⟨#[58]⟩] W fun e w' => ∃ r : ByteArray, e = .returned (.tuple #[.string (bxD (if (58 : UInt8) ∈ l then l.takeWhile (fun c => c != 58) else l)), .string r, .bool (decide ((58 : UInt8) ∈ l))]) ∧ Below W.heap.size W w' from fun W => by
        have h := str_Cut (bxD l) W (by rw [bxD_size]; omega)
        rw [bxD_data] at h
        exact h)
      obtain ⟨bf, hbf⟩ : ∃ z, decide ((58 : UInt8) ∈ l) = z := ⟨_, rfl⟩
      rw [hbf] at KC
      have HBF := Lib.hid hbf
      clear hbf
      go_wp2_with fail
      refine (KC.out w2).mono ?_
      rintro e w3 ⟨r, rfl, hb3⟩
      have HD3 := Lib.hid (HDD.out.below hb3)
      have HB3 := Lib.hid (HB2.out.trans (hb3.mono (Nat.le_of_lt hDw)))
      have hD3 : D < w3.heap.size := Nat.lt_of_lt_of_le hDw hb3.size
      clear hb3 hDw
      cases bf with
      | false =>
        have HNO := Lib.hid (show ¬ Dn.lastOk l from fun h => of_decide_eq_false HBF.out h.1)
        rw [if_neg (of_decide_eq_false HBF.out)]
        go_wp2_with fail
        refine (K.out false w3).mono ?_
        rintro e w' ⟨rfl, hw'⟩
        rw [hw']
        clear hw' w'
        simp only [musts, Bool.false_eq_true, if_false]
        go_wp2_with fail
        try simp [bodyPost]
        rw [HS.out]
        unfold Dn.ls
        rw [if_neg HL0.out, if_neg HNO.out]
        exact ⟨stepEnd.bad HW.out (by decide) HD3.out, HB3.out⟩
      | true =>
        rw [if_pos (of_decide_eq_true HBF.out)]
        have hmem := of_decide_eq_true HBF.out
        have HMEM := Lib.hid hmem
        clear hmem
        have KT2 := Lib.hid (show ∀ W, Calls Tryd.prog 48 #[.string (bxD (l.takeWhile (fun c => c != 58)))] W fun e w' => e = .returned (.bool (Tp.isTok (l.takeWhile (fun c => c != 58)))) ∧ Below W.heap.size W w' from fun W => by
          have h := tok_token (bxD (l.takeWhile (fun c => c != 58))) W (by rw [bxD_size]; have := (List.takeWhile_prefix (l := l) (fun c => c != 58)).length_le; omega)
          rw [bxD_data] at h
          exact h)
        obtain ⟨nb, hnb⟩ : ∃ z, bxD (l.takeWhile (fun c => c != 58)) = z := ⟨_, rfl⟩
        obtain ⟨bk, hbk⟩ : ∃ z, Tp.isTok (l.takeWhile (fun c => c != 58)) = z := ⟨_, rfl⟩
        rw [hnb, hbk] at KT2
        rw [hnb]
        have HBK := Lib.hid hbk
        clear hnb hbk
        go_wp2_with fail
        refine (KT2.out w3).mono ?_
        rintro e w4 ⟨rfl, hb4⟩
        have HD4 := Lib.hid (HD3.out.below hb4)
        have HB4 := Lib.hid (HB3.out.trans (hb4.mono (Nat.le_of_lt hD3)))
        clear hb4 hD3
        go_wp2_with fail
        refine (K.out bk w4).mono ?_
        rintro e w' ⟨rfl, hw'⟩
        rw [hw']
        clear hw' w'
        cases bk with
        | false =>
          have HNO := Lib.hid (show ¬ Dn.lastOk l from fun h => by have := h.2; rw [HBK.out] at this; cases this)
          simp only [musts, Bool.false_eq_true, if_false]
          go_wp2_with fail
          try simp [bodyPost]
          rw [HS.out]
          unfold Dn.ls
          rw [if_neg HL0.out, if_neg HNO.out]
          exact ⟨stepEnd.bad HW.out (by decide) HD4.out, HB4.out⟩
        | true =>
          have HOK := Lib.hid (show Dn.lastOk l from ⟨HMEM.out, HBK.out⟩)
          simp only [musts, if_true]
          go_wp2_with fail
          simp [bodyPost, results, Tryd.results35, go_sem]
          rw [HS.out]
          unfold Dn.ls
          rw [if_neg HL0.out, if_pos HOK.out]
          exact ⟨.inl ⟨HW.out, rfl, HD4.out⟩, HB4.out⟩
end Go.Proofs.YtaekcmoogobbjaaDoor

/- dechunk: takes. Printed by genN7.py. -/
namespace Go.Proofs.YtaekcmoogobbjaaDoor
set_option linter.unusedVariables false
set_option linter.unusedSimpArgs false
set_option linter.unusedSectionVars false
open Go.RowKit Go.Shelf
set_option maxHeartbeats 8000000
set_option maxRecDepth 100000
variable [Gst]
def tkF (D B : Nat) (x : Int) (VO VU : Value) (no nu : Nat) (lo lu : List Value) (f : Nat → Bool) : Nat → World → Value → Prop
  | 0, _, v => v = .pointer (some ⟨D, 0, none⟩)
  | 1, _, v => v = .pointer (some ⟨D, 0, none⟩)
  | 2, _, v => v = .pointer (some ⟨D, 0, none⟩)
  | 3, _, v => v = .pointer (some ⟨D, 0, none⟩)
  | 4, _, v => v = .pointer (some ⟨D, 6, none⟩)
  | 5, _, v => v = VO
  | 6, _, v => v = .int .u8 x
  | 7, w, v => f 8 = false → ∃ g, v = .slice (some ⟨g, 0, none⟩) 1 1 ∧ w.heap[g]? = some (.cells #[.int .u8 x] 5 (0, 0)) ∧ B ≤ g
  | 8, w, v => w.ownsRow (D + 1) 5 1 v (no + 1) (lo ++ [.int .u8 x]) ∧ (v.ownBlock = VO.ownBlock ∨ ∃ k, v.ownBlock = some k ∧ B ≤ k) ∧ (f 18 = true → w.cell? ⟨D, 6, none⟩ = some v)
  | 9, _, v => v = .pointer (some ⟨D, 0, none⟩)
  | 10, _, v => v = .pointer (some ⟨D, 0, none⟩)
  | 11, _, v => v = .pointer (some ⟨D, 8, none⟩)
  | 12, _, v => v = VU
  | 13, _, v => v = .int .u8 x
  | 14, w, v => f 15 = false → ∃ g, v = .slice (some ⟨g, 0, none⟩) 1 1 ∧ w.heap[g]? = some (.cells #[.int .u8 x] 5 (0, 0)) ∧ B ≤ g
  | 15, w, v => w.ownsRow (D + 1) 5 1 v (nu + 1) (lu ++ [.int .u8 x]) ∧ (v.ownBlock = VU.ownBlock ∨ ∃ k, v.ownBlock = some k ∧ B ≤ k) ∧ (f 21 = true → w.cell? ⟨D, 8, none⟩ = some v)
  | 16, _, v => v = .pointer (some ⟨D, 0, none⟩)
  | 17, _, v => v = .pointer (some ⟨D, 6, none⟩)
  | 18, w, v => True
  | 19, _, v => v = .pointer (some ⟨D, 0, none⟩)
  | 20, _, v => v = .pointer (some ⟨D, 8, none⟩)
  | 21, w, v => True
  | _, _, _ => False
structure tkT (w0 : World) (D cap : Nat) (s : Dn.St) (vt ve VO VU : Value) (no nu : Nat) (lo lu : List Value) (xs : List Value) (f : Nat → Bool) (w : World) : Prop where
  bel : Below D w0 w
  size : w0.heap.size ≤ w.heap.size
  dc : ∃ x6 x8, w.heap[D]? = some (.cells (dcC cap s vt x6 ve x8) 50 (0, 0)) ∧ (f 18 = false → x6 = VO) ∧ (f 21 = false → x8 = VU)
  rt : w.ownsRow (D + 1) 5 1 vt s.line.length (s.line.map by8)
  re : w.ownsRow (D + 1) 22 1 ve s.ended.length xs
  ro : f 8 = false → w.ownsRow (D + 1) 5 1 VO no lo
  ru : f 15 = false → w.ownsRow (D + 1) 5 1 VU nu lu
  n5 : f 5 = false → f 8 = false
  n7 : f 7 = false → f 8 = false
  n12 : f 12 = false → f 15 = false
  n14 : f 14 = false → f 15 = false
  n8 : f 8 = false → f 15 = false
  n15 : f 15 = false → f 18 = false
  n18 : f 18 = false → f 21 = false
  oth : ∀ k, k < w0.heap.size → k ≠ D → VO.ownBlock ≠ some k → VU.ownBlock ≠ some k → w.heap[k]? = w0.heap[k]?
theorem up_false {f : Nat → Bool} {i a : Nat} (h : (if a = i then true else f a) = false) : f a = false := by
  by_cases e : a = i
  · rw [if_pos e] at h; cases h
  · rwa [if_neg e] at h
theorem up_un {f : Nat → Bool} {i b : Nat} (hi : i ≠ b) (h : f b = false) : (if b = i then true else f b) = false := by
  rw [if_neg (Ne.symm hi)]; exact h
theorem up_true {f : Nat → Bool} {i b : Nat} (hi : i ≠ b) (h : (if b = i then true else f b) = true) : f b = true := by
  rwa [if_neg (Ne.symm hi)] at h
theorem tkT.step {w0 w w' : World} {D cap : Nat} {s : Dn.St} {vt ve VO VU : Value} {no nu : Nat} {lo lu : List Value} {xs : List Value} {f : Nat → Bool} (i : Nat) (h : tkT w0 D cap s vt ve VO VU no nu lo lu xs f w)
    (h8 : i ≠ 8) (h15 : i ≠ 15) (h18 : i ≠ 18) (h21 : i ≠ 21) (hb : Below w.heap.size w w') : tkT w0 D cap s vt ve VO VU no nu lo lu xs (fun j => if j = i then true else f j) w' := by
  obtain ⟨x6, x8, hd, d1, d2⟩ := h.dc
  have hD := (Array.getElem?_eq_some_iff.1 hd).1
  refine ⟨h.bel.trans (hb.mono (Nat.le_of_lt hD)), Nat.le_trans h.size hb.size, ⟨x6, x8, (hb.block D hD).trans hd, ?_, ?_⟩, own_bel h.rt hb, own_bel h.re hb, ?_, ?_, ?_, ?_, ?_, ?_, ?_, ?_, ?_, fun k a b c d => (hb.block k (Nat.lt_of_lt_of_le a h.size)).trans (h.oth k a b c d)⟩
  · exact fun e => d1 (up_false e)
  · exact fun e => d2 (up_false e)
  · exact fun e => own_bel (h.ro (up_false e)) hb
  · exact fun e => own_bel (h.ru (up_false e)) hb
  · exact fun e => up_un h8 (h.n5 (up_false e))
  · exact fun e => up_un h8 (h.n7 (up_false e))
  · exact fun e => up_un h15 (h.n12 (up_false e))
  · exact fun e => up_un h15 (h.n14 (up_false e))
  · exact fun e => up_un h15 (h.n8 (up_false e))
  · exact fun e => up_un h18 (h.n15 (up_false e))
  · exact fun e => up_un h21 (h.n18 (up_false e))
theorem tkF_step {D B : Nat} {x : Int} {VO VU : Value} {no nu : Nat} {lo lu : List Value} {f : Nat → Bool} {w w' : World} {j : Nat} {v : Value} (i : Nat) (h8 : i ≠ 8) (h15 : i ≠ 15) (h18 : i ≠ 18) (h21 : i ≠ 21) (hb : Below w.heap.size w w') (hDw : D < w.heap.size) (h : tkF D B x VO VU no nu lo lu f j w v) :
    tkF D B x VO VU no nu lo lu (fun j => if j = i then true else f j) j w' v := by
  match j, h with
  | 0, h | 1, h | 2, h | 3, h | 4, h | 5, h | 6, h | 9, h | 10, h | 11, h | 12, h | 13, h | 16, h | 17, h | 19, h | 20, h => exact h
  | 7, h => exact fun e => by obtain ⟨g, h1, h2, h3⟩ := h (up_false e); exact ⟨g, h1, (hb.block g (Array.getElem?_eq_some_iff.1 h2).1).trans h2, h3⟩
  | 14, h => exact fun e => by obtain ⟨g, h1, h2, h3⟩ := h (up_false e); exact ⟨g, h1, (hb.block g (Array.getElem?_eq_some_iff.1 h2).1).trans h2, h3⟩
  | 8, h => exact ⟨own_bel h.1 hb, h.2.1, fun e => (hb.cell hDw).trans (h.2.2 (up_true h18 e))⟩
  | 15, h => exact ⟨own_bel h.1 hb, h.2.1, fun e => (hb.cell hDw).trans (h.2.2 (up_true h21 e))⟩
  | 18, h | 21, h => trivial
  | n + 22, h => exact h.elim
def tkSlot (i : Nat) : Nat := ([4, 5, 6, 7, 8, 9, 10, 11, 12, 13, 14, 15, 16, 17, 18, 19, 20, 21, 24, 22, 23, 25] : List Nat).getD i 25
theorem tkSlot_lt (i : Nat) : tkSlot i < 46 := by
  match i with
  | 0 | 1 | 2 | 3 | 4 | 5 | 6 | 7 | 8 | 9 | 10 | 11 | 12 | 13 | 14 | 15 | 16 | 17 | 18 | 19 | 20 | 21 => decide
  | n + 22 => show 25 < 46; decide
theorem tkSlot_inj : ∀ i j, i < 22 → j < 22 → tkSlot i = tkSlot j → i = j := by
  have h : ∀ i j : Fin 22, tkSlot i.val = tkSlot j.val → i = j := by decide
  intro i j hi hj e
  have := h ⟨i, hi⟩ ⟨j, hj⟩ e
  simpa using this
theorem tkNot0 : ∀ i, i < 22 → tkSlot i ≠ 0 := by
  have h : ∀ i : Fin 22, tkSlot i.val ≠ 0 := by decide
  exact fun i hi => h ⟨i, hi⟩
theorem tkNot1 : ∀ i, i < 22 → tkSlot i ≠ 1 := by
  have h : ∀ i : Fin 22, tkSlot i.val ≠ 1 := by decide
  exact fun i hi => h ⟨i, hi⟩
theorem wp_append_blk {P : Program} {w : World} {o : Oper} {a : Act} {K : Act → World → Prop} {Q : Exit → Act → World → Prop} (s x : Operand) (t : TypeId)
    (ho : o.op = .call { callee := .builtin .append, args := #[s, x], argTypes := #[t, t] })
    (base : Nat) (e : TypeId) (i : TypeInfo) (z : Value) (size bytes : Nat) (ht : P.underlying t = some (.slice e)) (hi : P.info? e = some i) (hz : i.zero = some z)
    (hsize : i.size = size) (hby : i.bytes = bytes) (hzs : z.cells.size = size) (hsz : 0 < size)
    (v : Value) (n : Nat) (xs : List Value) (hs : a.eval s = v) (hown : w.ownsRow base e size v n xs)
    (ad : Addr) (m c : Nat) (news : List Value) (hx : a.eval x = .slice (some ad) m c) (hl : news.length = m * size) (hnews : ∀ j u, news[j]? = some u → w.cell? (ad.add j) = some u) (h1 : ∀ u ∈ news, u.oneCell' = true)
    (h63 : n + m ≤ maxLen) (hbytes : (n + m) * bytes ≤ 140737488355328) (hbase : base ≤ w.heap.size)
    (h : ∀ v' w', w'.ownsRow base e size v' (n + m) (xs ++ news) → w.grownBy w' v.ownBlock → (v'.ownBlock = v.ownBlock ∨ v'.ownBlock = some w.heap.size) → K (a.put o.dst v') w') : o.wp P a w K Q := by
  obtain ⟨v', w', hr, h2, h3, h4⟩ := run_append_blk (P := P) (w := w) base t o.type e i z size bytes ht hi hz hsize hby hzs hsz v n xs hown ad m c news hl hnews h1 h63 hbytes hbase
  unfold Oper.wp execOp
  simp only [ho, resolve, invoke, builtin, Sem.run_bind, Sem.run_pure, Result.andThen_ok, List.map_toArray, List.map_cons, List.map_nil, hs, hx, hr]
  exact h v' w' h2 h3 h4
theorem dc_takes (D cap : Nat) (c : UInt8) (s : Dn.St) (w : World) (h : DD w D cap s) (hw : s.why = 0) (ho : s.out.length ≤ 100000) (hu : s.under.length ≤ 100000) (hm : s.many ≤ 100000) (hl1 : 1 ≤ s.left) (hl : s.left ≤ 16777216) :
    Calls Tryd.prog 32 #[.pointer (some ⟨D, 0, none⟩), .int .u8 (c.toNat : Int)] w fun e w' => stepEnd w' D cap e (Dn.takes c s) ∧ Below D w w' := by
  obtain ⟨i0, hi, hz0, hz1, hz2⟩ := info_parts (show (Tryd.prog.info? 5).map (fun i => (i.zero, i.size, i.bytes)) = some (some (.int .u8 0), 1, 1) by kernel_rfl)
  obtain ⟨vt, VO, ve, VU, hd⟩ := h
  obtain ⟨xs, hxs, hgu⟩ := hd.re
  obtain ⟨no, hno⟩ : ∃ z, s.out.length = z := ⟨_, rfl⟩
  obtain ⟨nu, hnu⟩ : ∃ z, s.under.length = z := ⟨_, rfl⟩
  obtain ⟨x, hx⟩ : ∃ x : Int, (c.toNat : Int) = x := ⟨_, rfl⟩
  obtain ⟨wr, hwr⟩ : ∃ z, w = z := ⟨_, rfl⟩
  rw [hwr] at hd hxs hgu ⊢
  obtain ⟨BB, hBB⟩ : ∃ z, wr.heap.size = z := ⟨_, rfl⟩
  have HBB := Lib.hid hBB
  have HVO := Lib.hid (show ∀ k, VO.ownBlock = some k → k < BB from fun k hk => by rw [← hBB]; exact (hd.ro.lt k hk).2)
  have HVU := Lib.hid (show ∀ k, VU.ownBlock = some k → k < BB from fun k hk => by rw [← hBB]; exact (hd.ru.lt k hk).2)
  have HVT := Lib.hid (show ∀ k, vt.ownBlock = some k → k < BB from fun k hk => by rw [← hBB]; exact (hd.rt.lt k hk).2)
  have HTO := Lib.hid hd.to
  have HTU := Lib.hid hd.tu
  have HOU := Lib.hid hd.ou
  have HD := Lib.hid hd
  have HGU := Lib.hid hgu
  have HXS := Lib.hid hxs
  rw [hno] at ho
  rw [hnu] at hu
  have HST := Lib.hid (show tkT wr D cap s vt ve VO VU no nu (s.out.map by8) (s.under.map by8) xs (fun _ => false) wr.drew from
    ⟨(Below.refl _ _).drew, Nat.le_refl _, ⟨VO, VU, hd.cells, fun _ => rfl, fun _ => rfl⟩, own_bel hd.rt (Below.refl _ _).drew, own_bel hxs (Below.refl _ _).drew, fun _ => hno ▸ own_bel hd.ro (Below.refl _ _).drew, fun _ => hnu ▸ own_bel hd.ru (Below.refl _ _).drew, fun _ => rfl, fun _ => rfl, fun _ => rfl, fun _ => rfl, fun _ => rfl, fun _ => rfl, fun _ => rfl, fun _ _ _ _ _ => rfl⟩)
  have HX := Lib.hid hx
  have HNO := Lib.hid hno
  have HNU := Lib.hid hnu
  have HW := Lib.hid hw
  rw [hx]
  clear hgu
  clear hd hxs hno hnu hx hwr hBB hw
  go_enter Tryd.func32, Tryd.ntmps32
  go_wp2_with fail
  refine region_slots5 tkSlot (tkF D BB x VO VU no nu (s.out.map by8) (s.under.map by8)) (tkT wr D cap s vt ve VO VU no nu (s.out.map by8) (s.under.map by8) xs) 8 15 apart (by decide) (by decide) (fun v e => absurd e (by decide)) ⟨fun o ho => by cases ho; simp, fun o ho => by cases ho; simp⟩ (by kernel_rfl) (by kernel_rfl) (fun i => Nat.lt_of_lt_of_le (tkSlot_lt i) (by show 46 ≤ _; simp)) (fun i j hi hj h => tkSlot_inj i j hi hj h) ?start ?dst ?step ?done
  case start => exact HST.out
  case dst =>
    intro i o ho
    match i, ho with
    | 0, ho => cases ho; exact .inl rfl
    | 1, ho => cases ho; exact .inl rfl
    | 2, ho => cases ho; exact .inl rfl
    | 3, ho => cases ho; exact .inl rfl
    | 4, ho => cases ho; exact .inl rfl
    | 5, ho => cases ho; exact .inl rfl
    | 6, ho => cases ho; exact .inl rfl
    | 7, ho => cases ho; exact .inl rfl
    | 8, ho => cases ho; exact .inl rfl
    | 9, ho => cases ho; exact .inl rfl
    | 10, ho => cases ho; exact .inl rfl
    | 11, ho => cases ho; exact .inl rfl
    | 12, ho => cases ho; exact .inl rfl
    | 13, ho => cases ho; exact .inl rfl
    | 14, ho => cases ho; exact .inl rfl
    | 15, ho => cases ho; exact .inl rfl
    | 16, ho => cases ho; exact .inl rfl
    | 17, ho => cases ho; exact .inl rfl
    | 18, ho => cases ho; exact .inr rfl
    | 19, ho => cases ho; exact .inl rfl
    | 20, ho => cases ho; exact .inl rfl
    | 21, ho => cases ho; exact .inr rfl
    | n + 22, ho => exact absurd ho (by simp)
  case step =>
    intro f a' W i o ho hfi hpre hT hrest
    have hDW : D < W.heap.size := by obtain ⟨_, _, h, _⟩ := hT.dc; exact (Array.getElem?_eq_some_iff.1 h).1
    match i, ho with
    | 0, ho =>
      cases ho
      have q0 : a'.tmps.getD 0 undef = .pointer (some ⟨D, 0, none⟩) := (hrest 0 tkNot0)
      have e0 := rg_ev q0
      exact rg_same5 (by decide) (by decide) (rg_same4 (.pointer (some ⟨D, 0, none⟩)) (by unfold Oper.wp execOp; go_simp; all_goals ((try simp only [e0]); (try go_simp); (try rw [if_pos (by omega)]); (try rw [if_neg (by omega)]); first | done | rfl | exact ⟨rfl, rfl⟩ | trivial)) (by simp) rfl (hT.step 0 (by decide) (by decide) (by decide) (by decide) (Below.refl _ _)) (fun j v' h => tkF_step 0 (by decide) (by decide) (by decide) (by decide) (Below.refl _ _) hDW h))
    | 1, ho =>
      cases ho
      have q0 : a'.tmps.getD 0 undef = .pointer (some ⟨D, 0, none⟩) := (hrest 0 tkNot0)
      have e0 := rg_ev q0
      exact rg_same5 (by decide) (by decide) (rg_same4 (.pointer (some ⟨D, 0, none⟩)) (by unfold Oper.wp execOp; go_simp; all_goals ((try simp only [e0]); (try go_simp); (try rw [if_pos (by omega)]); (try rw [if_neg (by omega)]); first | done | rfl | exact ⟨rfl, rfl⟩ | trivial)) (by simp) rfl (hT.step 1 (by decide) (by decide) (by decide) (by decide) (Below.refl _ _)) (fun j v' h => tkF_step 1 (by decide) (by decide) (by decide) (by decide) (Below.refl _ _) hDW h))
    | 2, ho =>
      cases ho
      have q0 : a'.tmps.getD 0 undef = .pointer (some ⟨D, 0, none⟩) := (hrest 0 tkNot0)
      have e0 := rg_ev q0
      exact rg_same5 (by decide) (by decide) (rg_same4 (.pointer (some ⟨D, 0, none⟩)) (by unfold Oper.wp execOp; go_simp; all_goals ((try simp only [e0]); (try go_simp); (try rw [if_pos (by omega)]); (try rw [if_neg (by omega)]); first | done | rfl | exact ⟨rfl, rfl⟩ | trivial)) (by simp) rfl (hT.step 2 (by decide) (by decide) (by decide) (by decide) (Below.refl _ _)) (fun j v' h => tkF_step 2 (by decide) (by decide) (by decide) (by decide) (Below.refl _ _) hDW h))
    | 3, ho =>
      cases ho
      have f6 := (hpre { on := 2, ground := .data } (by simp) rfl).1
      have q6 : a'.tmps.getD 6 undef = .pointer (some ⟨D, 0, none⟩) := (hpre { on := 2, ground := .data } (by simp) rfl).2
      have e6 := rg_ev q6
      exact rg_same5 (by decide) (by decide) (rg_same4 (.pointer (some ⟨D, 0, none⟩)) (by unfold Oper.wp execOp; go_simp; all_goals ((try simp only [e6]); (try go_simp); (try rw [if_pos (by omega)]); (try rw [if_neg (by omega)]); first | done | rfl | exact ⟨rfl, rfl⟩ | trivial)) (by simp) rfl (hT.step 3 (by decide) (by decide) (by decide) (by decide) (Below.refl _ _)) (fun j v' h => tkF_step 3 (by decide) (by decide) (by decide) (by decide) (Below.refl _ _) hDW h))
    | 4, ho =>
      cases ho
      have f7 := (hpre { on := 3, ground := .data } (by simp) rfl).1
      have q7 : a'.tmps.getD 7 undef = .pointer (some ⟨D, 0, none⟩) := (hpre { on := 3, ground := .data } (by simp) rfl).2
      have e7 := rg_ev q7
      exact rg_same5 (by decide) (by decide) (rg_same4 (.pointer (some ⟨D, 6, none⟩)) (by unfold Oper.wp execOp; go_simp; all_goals ((try simp only [e7]); (try go_simp); (try rw [if_pos (by omega)]); (try rw [if_neg (by omega)]); first | done | rfl | exact ⟨rfl, rfl⟩ | trivial)) (by simp) rfl (hT.step 4 (by decide) (by decide) (by decide) (by decide) (Below.refl _ _)) (fun j v' h => tkF_step 4 (by decide) (by decide) (by decide) (by decide) (Below.refl _ _) hDW h))
    | 5, ho =>
      cases ho
      have f8 := (hpre { on := 4, ground := .data } (by simp) rfl).1
      have q8 : a'.tmps.getD 8 undef = .pointer (some ⟨D, 6, none⟩) := (hpre { on := 4, ground := .data } (by simp) rfl).2
      have hc6 : W.cell? ⟨D, 6, none⟩ = some VO := by
        obtain ⟨x6, x8, h, h1, _⟩ := hT.dc
        rw [h1 (hT.n15 (hT.n8 (hT.n5 hfi)))] at h
        unfold dcC at h
        simp [World.cell?, h]
      have e8 := rg_ev q8
      exact rg_same5 (by decide) (by decide) (rg_same4 (VO) (by unfold Oper.wp execOp; go_simp; all_goals ((try simp only [e8]); (try go_simp); (try rw [if_pos (by omega)]); (try rw [if_neg (by omega)]); first | done | rfl | exact ⟨rfl, rfl⟩ | trivial)) (by simp) rfl (hT.step 5 (by decide) (by decide) (by decide) (by decide) (Below.refl _ _)) (fun j v' h => tkF_step 5 (by decide) (by decide) (by decide) (by decide) (Below.refl _ _) hDW h))
    | 6, ho =>
      cases ho
      have q1 : a'.tmps.getD 1 undef = .int .u8 x := (hrest 1 tkNot1)
      have e1 := rg_ev q1
      exact rg_same5 (by decide) (by decide) (rg_same4 (.int .u8 x) (by unfold Oper.wp execOp; go_simp; all_goals ((try simp only [e1]); (try go_simp); (try rw [if_pos (by omega)]); (try rw [if_neg (by omega)]); first | done | rfl | exact ⟨rfl, rfl⟩ | trivial)) (by simp) rfl (hT.step 6 (by decide) (by decide) (by decide) (by decide) (Below.refl _ _)) (fun j v' h => tkF_step 6 (by decide) (by decide) (by decide) (by decide) (Below.refl _ _) hDW h))
    | 7, ho =>
      cases ho
      have f10 := (hpre { on := 6, ground := .data } (by simp) rfl).1
      have q10 : a'.tmps.getD 10 undef = .int .u8 x := (hpre { on := 6, ground := .data } (by simp) rfl).2
      have e10 := rg_ev q10
      unfold Oper.wp execOp
      go_simp
      refine ⟨_, rfl, fun _ => ⟨W.heap.size, rfl, World.alloc_heap_new _ _, HBB.out ▸ hT.size⟩, ?_, fun j _ hF => ?_⟩
      · have h5 := hT.step 7 (by decide) (by decide) (by decide) (by decide) (w' := W.alloc (.cells #[.int .u8 x] 5)) ((Below.refl _ _).alloc (Nat.le_refl _) _)
        simpa using h5
      · have h5 := tkF_step 7 (by decide) (by decide) (by decide) (by decide) (w' := W.alloc (.cells #[.int .u8 x] 5)) ((Below.refl _ _).alloc (Nat.le_refl _) _) hDW hF
        simpa using h5
    | 8, ho =>
      cases ho
      have f9 := (hpre { on := 5, ground := .data } (by simp) rfl).1
      have q9 : a'.tmps.getD 9 undef = VO := (hpre { on := 5, ground := .data } (by simp) rfl).2
      have f11 := (hpre { on := 7, ground := .data } (by simp) rfl).1
      have h11 : tkF D BB x VO VU no nu (s.out.map by8) (s.under.map by8) f 7 W (a'.tmps.getD 11 undef) := (hpre { on := 7, ground := .data } (by simp) rfl).2
      obtain ⟨g, e1, e2, e3⟩ := h11 hfi
      have q9b : a'.eval (.tmp 9) = VO := q9
      have q11b : a'.eval (.tmp 11) = .slice (some ⟨g, 0, none⟩) 1 1 := e1
      have hO := hT.ro hfi
      have h15f := hT.n8 hfi
      refine wp_append_blk _ _ 22 rfl (D + 1) 5 i0 (.int .u8 0) 1 1 Tryd.underlying22 hi hz0 hz1 hz2 rfl (by decide) VO no (s.out.map by8) q9b hO ⟨g, 0, none⟩ 1 1 [.int .u8 x] q11b rfl (by intro j u hj; match j, hj with | 0, hj => (simp at hj; subst hj; simp [Addr.add, World.cell?, e2])) (by intro u hu; simp at hu; subst hu; rfl) (by unfold maxLen; omega) (by omega) hDW ?_
      intro v' w' hown' hgrow hblk
      have hDn : some D ≠ VO.ownBlock := fun e => by have := (hO.lt D e.symm).1; omega
      obtain ⟨x6, x8, hd, d1, d2⟩ := hT.dc
      refine ⟨v', rfl, fun e => absurd e (by simp), ⟨hown', hblk.imp id (fun h => ⟨_, h, HBB.out ▸ hT.size⟩), fun e => absurd ((hT.n15 h15f).symm.trans (up_true (by decide) e)) (by decide)⟩,
        ⟨Below.grown hT.bel hgrow (Nat.le_of_lt hDW) (fun k hk => by have := (hO.lt k hk).1; omega), Nat.le_trans hT.size hgrow.size, ⟨x6, x8, (hgrow.block D hDW hDn).trans hd, fun e => d1 (up_false e), fun e => d2 (up_false e)⟩, hT.rt.kept hgrow (apart_or (HTO.out.symm)), hT.re.kept hgrow (own_types hO hT.re (by decide)), fun e => by simp at e, fun e => (hT.ru (up_false e)).kept hgrow (apart_or HOU.out),
          fun e => absurd (f9.symm.trans (up_false e)) (by decide), fun e => absurd (f11.symm.trans (up_false e)) (by decide), fun e => up_un (by decide) (hT.n12 (up_false e)), fun e => up_un (by decide) (hT.n14 (up_false e)), fun e => by simp at e, fun e => up_un (by decide) (hT.n15 (up_false e)), fun e => up_un (by decide) (hT.n18 (up_false e)), fun k a b c d => (hgrow.block k (Nat.lt_of_lt_of_le a hT.size) (fun e => c e.symm)).trans (hT.oth k a b c d)⟩,
        fun e => absurd e (by decide), fun _ e => absurd (h15f.symm.trans e) (by decide), fun j hj hF => ?_⟩
      match j, hF with
      | 0, h | 1, h | 2, h | 3, h | 4, h | 5, h | 6, h | 9, h | 10, h | 11, h | 12, h | 13, h | 16, h | 17, h | 19, h | 20, h => exact h
      | 7, h => exact fun e => by simp at e
      | 14, h =>
        intro e
        obtain ⟨g2, h1, h2, h3⟩ := h (up_false e)
        exact ⟨g2, h1, (hgrow.block g2 (Array.getElem?_eq_some_iff.1 h2).1 (fun e => by have := HVO.out g2 e.symm; omega)).trans h2, h3⟩
      | 8, h => rw [hfi] at hj; cases hj
      | 15, h => rw [h15f] at hj; cases hj
      | 18, h | 21, h => trivial
      | n + 22, h => exact h.elim
    | 9, ho =>
      cases ho
      have q0 : a'.tmps.getD 0 undef = .pointer (some ⟨D, 0, none⟩) := (hrest 0 tkNot0)
      have e0 := rg_ev q0
      exact rg_same5 (by decide) (by decide) (rg_same4 (.pointer (some ⟨D, 0, none⟩)) (by unfold Oper.wp execOp; go_simp; all_goals ((try simp only [e0]); (try go_simp); (try rw [if_pos (by omega)]); (try rw [if_neg (by omega)]); first | done | rfl | exact ⟨rfl, rfl⟩ | trivial)) (by simp) rfl (hT.step 9 (by decide) (by decide) (by decide) (by decide) (Below.refl _ _)) (fun j v' h => tkF_step 9 (by decide) (by decide) (by decide) (by decide) (Below.refl _ _) hDW h))
    | 10, ho =>
      cases ho
      have f13 := (hpre { on := 9, ground := .data } (by simp) rfl).1
      have q13 : a'.tmps.getD 13 undef = .pointer (some ⟨D, 0, none⟩) := (hpre { on := 9, ground := .data } (by simp) rfl).2
      have e13 := rg_ev q13
      exact rg_same5 (by decide) (by decide) (rg_same4 (.pointer (some ⟨D, 0, none⟩)) (by unfold Oper.wp execOp; go_simp; all_goals ((try simp only [e13]); (try go_simp); (try rw [if_pos (by omega)]); (try rw [if_neg (by omega)]); first | done | rfl | exact ⟨rfl, rfl⟩ | trivial)) (by simp) rfl (hT.step 10 (by decide) (by decide) (by decide) (by decide) (Below.refl _ _)) (fun j v' h => tkF_step 10 (by decide) (by decide) (by decide) (by decide) (Below.refl _ _) hDW h))
    | 11, ho =>
      cases ho
      have f14 := (hpre { on := 10, ground := .data } (by simp) rfl).1
      have q14 : a'.tmps.getD 14 undef = .pointer (some ⟨D, 0, none⟩) := (hpre { on := 10, ground := .data } (by simp) rfl).2
      have e14 := rg_ev q14
      exact rg_same5 (by decide) (by decide) (rg_same4 (.pointer (some ⟨D, 8, none⟩)) (by unfold Oper.wp execOp; go_simp; all_goals ((try simp only [e14]); (try go_simp); (try rw [if_pos (by omega)]); (try rw [if_neg (by omega)]); first | done | rfl | exact ⟨rfl, rfl⟩ | trivial)) (by simp) rfl (hT.step 11 (by decide) (by decide) (by decide) (by decide) (Below.refl _ _)) (fun j v' h => tkF_step 11 (by decide) (by decide) (by decide) (by decide) (Below.refl _ _) hDW h))
    | 12, ho =>
      cases ho
      have f15 := (hpre { on := 11, ground := .data } (by simp) rfl).1
      have q15 : a'.tmps.getD 15 undef = .pointer (some ⟨D, 8, none⟩) := (hpre { on := 11, ground := .data } (by simp) rfl).2
      have hc8 : W.cell? ⟨D, 8, none⟩ = some VU := by
        obtain ⟨x6, x8, h, _, h1⟩ := hT.dc
        rw [h1 (hT.n18 (hT.n15 (hT.n12 hfi)))] at h
        unfold dcC at h
        simp [World.cell?, h]
      have e15 := rg_ev q15
      exact rg_same5 (by decide) (by decide) (rg_same4 (VU) (by unfold Oper.wp execOp; go_simp; all_goals ((try simp only [e15]); (try go_simp); (try rw [if_pos (by omega)]); (try rw [if_neg (by omega)]); first | done | rfl | exact ⟨rfl, rfl⟩ | trivial)) (by simp) rfl (hT.step 12 (by decide) (by decide) (by decide) (by decide) (Below.refl _ _)) (fun j v' h => tkF_step 12 (by decide) (by decide) (by decide) (by decide) (Below.refl _ _) hDW h))
    | 13, ho =>
      cases ho
      have q1 : a'.tmps.getD 1 undef = .int .u8 x := (hrest 1 tkNot1)
      have e1 := rg_ev q1
      exact rg_same5 (by decide) (by decide) (rg_same4 (.int .u8 x) (by unfold Oper.wp execOp; go_simp; all_goals ((try simp only [e1]); (try go_simp); (try rw [if_pos (by omega)]); (try rw [if_neg (by omega)]); first | done | rfl | exact ⟨rfl, rfl⟩ | trivial)) (by simp) rfl (hT.step 13 (by decide) (by decide) (by decide) (by decide) (Below.refl _ _)) (fun j v' h => tkF_step 13 (by decide) (by decide) (by decide) (by decide) (Below.refl _ _) hDW h))
    | 14, ho =>
      cases ho
      have f17 := (hpre { on := 13, ground := .data } (by simp) rfl).1
      have q17 : a'.tmps.getD 17 undef = .int .u8 x := (hpre { on := 13, ground := .data } (by simp) rfl).2
      have e17 := rg_ev q17
      unfold Oper.wp execOp
      go_simp
      refine ⟨_, rfl, fun _ => ⟨W.heap.size, rfl, World.alloc_heap_new _ _, HBB.out ▸ hT.size⟩, ?_, fun j _ hF => ?_⟩
      · have h5 := hT.step 14 (by decide) (by decide) (by decide) (by decide) (w' := W.alloc (.cells #[.int .u8 x] 5)) ((Below.refl _ _).alloc (Nat.le_refl _) _)
        simpa using h5
      · have h5 := tkF_step 14 (by decide) (by decide) (by decide) (by decide) (w' := W.alloc (.cells #[.int .u8 x] 5)) ((Below.refl _ _).alloc (Nat.le_refl _) _) hDW hF
        simpa using h5
    | 15, ho =>
      cases ho
      have f16 := (hpre { on := 12, ground := .data } (by simp) rfl).1
      have q16 : a'.tmps.getD 16 undef = VU := (hpre { on := 12, ground := .data } (by simp) rfl).2
      have f18 := (hpre { on := 14, ground := .data } (by simp) rfl).1
      have h18 : tkF D BB x VO VU no nu (s.out.map by8) (s.under.map by8) f 14 W (a'.tmps.getD 18 undef) := (hpre { on := 14, ground := .data } (by simp) rfl).2
      obtain ⟨g, e1, e2, e3⟩ := h18 hfi
      have f12 := (hpre { on := 8, ground := .chain } (by simp) rfl).1
      have h12 : tkF D BB x VO VU no nu (s.out.map by8) (s.under.map by8) f 8 W (a'.tmps.getD 12 undef) := (hpre { on := 8, ground := .chain } (by simp) rfl).2
      have f12b : f 8 = true := f12
      have q16b : a'.eval (.tmp 16) = VU := q16
      have q18b : a'.eval (.tmp 18) = .slice (some ⟨g, 0, none⟩) 1 1 := e1
      have hO := hT.ru hfi
      have h18f := hT.n15 hfi
      refine wp_append_blk _ _ 22 rfl (D + 1) 5 i0 (.int .u8 0) 1 1 Tryd.underlying22 hi hz0 hz1 hz2 rfl (by decide) VU nu (s.under.map by8) q16b hO ⟨g, 0, none⟩ 1 1 [.int .u8 x] q18b rfl (by intro j u hj; match j, hj with | 0, hj => (simp at hj; subst hj; simp [Addr.add, World.cell?, e2])) (by intro u hu; simp at hu; subst hu; rfl) (by unfold maxLen; omega) (by omega) hDW ?_
      intro v' w' hown' hgrow hblk
      have hDn : some D ≠ VU.ownBlock := fun e => by have := (hO.lt D e.symm).1; omega
      obtain ⟨x6, x8, hd, d1, d2⟩ := hT.dc
      refine ⟨v', rfl, fun e => absurd e (by simp), ⟨hown', hblk.imp id (fun h => ⟨_, h, HBB.out ▸ hT.size⟩), fun e => absurd ((hT.n18 h18f).symm.trans (up_true (by decide) e)) (by decide)⟩,
        ⟨Below.grown hT.bel hgrow (Nat.le_of_lt hDW) (fun k hk => by have := (hO.lt k hk).1; omega), Nat.le_trans hT.size hgrow.size, ⟨x6, x8, (hgrow.block D hDW hDn).trans hd, fun e => d1 (up_false e), fun e => d2 (up_false e)⟩, hT.rt.kept hgrow (apart_or (HTU.out.symm)), hT.re.kept hgrow (own_types hO hT.re (by decide)), fun e => (hT.ro (up_false e)).kept hgrow (apart_or HOU.out.symm), fun e => by simp at e,
          fun e => up_un (by decide) (hT.n5 (up_false e)), fun e => up_un (by decide) (hT.n7 (up_false e)), fun e => absurd (f16.symm.trans (up_false e)) (by decide), fun e => absurd (f18.symm.trans (up_false e)) (by decide), fun e => absurd (f12b.symm.trans (up_false e)) (by decide), fun e => by simp at e, fun e => up_un (by decide) (hT.n18 (up_false e)), fun k a b c d => (hgrow.block k (Nat.lt_of_lt_of_le a hT.size) (fun e => d e.symm)).trans (hT.oth k a b c d)⟩,
        fun _ _ => ?_, fun e => absurd e (by decide), fun j hj hF => ?_⟩
      · show apart (a'.tmps.getD 12 undef) v'
        intro k h1 h2
        have hk := (h12.1.lt k h1).2
        rcases hblk with hb | hb
        · rw [hb] at h2
          rcases h12.2.1 with h3 | ⟨k2, h3, h4⟩
          · exact HOU.out k (by rw [← h3]; exact h1) h2
          · rw [h3] at h1; cases h1; have := HVU.out k h2; omega
        · rw [hb] at h2; cases h2; omega
      · match j, hF with
        | 0, h | 1, h | 2, h | 3, h | 4, h | 5, h | 6, h | 9, h | 10, h | 11, h | 12, h | 13, h | 16, h | 17, h | 19, h | 20, h => exact h
        | 7, h => exact fun e => absurd (f12b.symm.trans (up_false e)) (by decide)
        | 14, h => exact fun e => by simp at e
        | 8, h =>
          refine ⟨h.1.kept hgrow ?_, h.2.1, fun e => absurd ((h18f).symm.trans (up_true (by decide) e)) (by decide)⟩
          rcases h.2.1 with h3 | ⟨k2, h3, h4⟩
          · rw [h3]; exact apart_or HOU.out.symm
          · refine .inr fun e => ?_
            have := HVU.out k2 (by rw [← e]; exact h3)
            omega
        | 15, h => rw [hfi] at hj; cases hj
        | 18, h | 21, h => trivial
        | n + 22, h => exact h.elim
    | 16, ho =>
      cases ho
      have f4 := (hpre { on := 0, ground := .data } (by simp) rfl).1
      have q4 : a'.tmps.getD 4 undef = .pointer (some ⟨D, 0, none⟩) := (hpre { on := 0, ground := .data } (by simp) rfl).2
      have e4 := rg_ev q4
      exact rg_same5 (by decide) (by decide) (rg_same4 (.pointer (some ⟨D, 0, none⟩)) (by unfold Oper.wp execOp; go_simp; all_goals ((try simp only [e4]); (try go_simp); (try rw [if_pos (by omega)]); (try rw [if_neg (by omega)]); first | done | rfl | exact ⟨rfl, rfl⟩ | trivial)) (by simp) rfl (hT.step 16 (by decide) (by decide) (by decide) (by decide) (Below.refl _ _)) (fun j v' h => tkF_step 16 (by decide) (by decide) (by decide) (by decide) (Below.refl _ _) hDW h))
    | 17, ho =>
      cases ho
      have f20 := (hpre { on := 16, ground := .data } (by simp) rfl).1
      have q20 : a'.tmps.getD 20 undef = .pointer (some ⟨D, 0, none⟩) := (hpre { on := 16, ground := .data } (by simp) rfl).2
      have e20 := rg_ev q20
      exact rg_same5 (by decide) (by decide) (rg_same4 (.pointer (some ⟨D, 6, none⟩)) (by unfold Oper.wp execOp; go_simp; all_goals ((try simp only [e20]); (try go_simp); (try rw [if_pos (by omega)]); (try rw [if_neg (by omega)]); first | done | rfl | exact ⟨rfl, rfl⟩ | trivial)) (by simp) rfl (hT.step 17 (by decide) (by decide) (by decide) (by decide) (Below.refl _ _)) (fun j v' h => tkF_step 17 (by decide) (by decide) (by decide) (by decide) (Below.refl _ _) hDW h))
    | 18, ho =>
      cases ho
      have f21 := (hpre { on := 17, ground := .data } (by simp) rfl).1
      have q21 : a'.tmps.getD 21 undef = .pointer (some ⟨D, 6, none⟩) := (hpre { on := 17, ground := .data } (by simp) rfl).2
      have f12 := (hpre { on := 8, ground := .data } (by simp) rfl).1
      have h12 : tkF D BB x VO VU no nu (s.out.map by8) (s.under.map by8) f 8 W (a'.tmps.getD 12 undef) := (hpre { on := 8, ground := .data } (by simp) rfl).2
      refine rg_same5 (by decide) (by decide) ?_
      have f15t : f 15 = true := (hpre { on := 15, ground := .chain } (by simp) rfl).1
      have f8t : f 8 = true := f12
      obtain ⟨y12, hy12⟩ : ∃ z, a'.tmps.getD 12 undef = z := ⟨_, rfl⟩
      rw [hy12] at h12
      obtain ⟨hr, hbk, _⟩ := h12
      obtain ⟨g, c12, rfl⟩ := Go.Joins.ownsRow_form hr (by omega)
      obtain ⟨x6, x8, hd, d1, d2⟩ := hT.dc
      have hz6 : W.frozen? ⟨D, 6, none⟩ = false := frozen_of_row _ _ _ _ _ hd
      have hc6 : W.cell? ⟨D, 6, none⟩ = some x6 := by unfold dcC at hd; simp [World.cell?, hd]
      have hs6 := heap_setCell_same _ _ 6 _ _ (.slice (some ⟨g, 0, none⟩) (no + 1) c12) hd
      have hs6b : (W.setCell ⟨D, 6, none⟩ (.slice (some ⟨g, 0, none⟩) (no + 1) c12)).heap[D]? = some (.cells (dcC cap s vt (.slice (some ⟨g, 0, none⟩) (no + 1) c12) ve x8) 50 (0, 0)) := by
        rw [hs6]; unfold dcC; simp
      have hc6b : (W.setCell ⟨D, 6, none⟩ (.slice (some ⟨g, 0, none⟩) (no + 1) c12)).cell? ⟨D, 6, none⟩ = some (.slice (some ⟨g, 0, none⟩) (no + 1) c12) := by
        unfold dcC at hs6b; simp [World.cell?, hs6b]
      have e21 := rg_ev q21
      have e12 := rg_ev hy12
      have TN : tkT wr D cap s vt ve VO VU no nu (s.out.map by8) (s.under.map by8) xs (fun j => if j = 18 then true else f j) (W.setCell ⟨D, 6, none⟩ (.slice (some ⟨g, 0, none⟩) (no + 1) c12)) :=
        ⟨hT.bel.setCell (p := ⟨D, 6, none⟩) (Nat.le_refl D) _, by have := hT.size; simpa using this, ⟨_, x8, hs6b, fun e => by simp at e, fun e => d2 (up_false e)⟩, ownsRow_setCell_below (a := ⟨D, 6, none⟩) hT.rt (Nat.lt_succ_self D) _, ownsRow_setCell_below (a := ⟨D, 6, none⟩) hT.re (Nat.lt_succ_self D) _,
         fun e => absurd (f8t.symm.trans (up_false e)) (by decide), fun e => absurd (f15t.symm.trans (up_false e)) (by decide), fun e => up_un (by decide) (hT.n5 (up_false e)), fun e => up_un (by decide) (hT.n7 (up_false e)), fun e => up_un (by decide) (hT.n12 (up_false e)), fun e => up_un (by decide) (hT.n14 (up_false e)), fun e => up_un (by decide) (hT.n8 (up_false e)), fun e => absurd (f15t.symm.trans (up_false e)) (by decide), fun e => by simp at e, fun k a b c d => (Below.heap_setCell _ _ _ _ b).trans (hT.oth k a b c d)⟩
      have FN : ∀ j, f j = true → tkF D BB x VO VU no nu (s.out.map by8) (s.under.map by8) f j W (a'.tmps.getD (tkSlot j) undef) → tkF D BB x VO VU no nu (s.out.map by8) (s.under.map by8) (fun j => if j = 18 then true else f j) j (W.setCell ⟨D, 6, none⟩ (.slice (some ⟨g, 0, none⟩) (no + 1) c12)) (a'.tmps.getD (tkSlot j) undef) := fun j hj hF => by
        match j, hF with
        | 0, h | 1, h | 2, h | 3, h | 4, h | 5, h | 6, h | 9, h | 10, h | 11, h | 12, h | 13, h | 16, h | 17, h | 19, h | 20, h => exact h
        | 7, h => exact fun e => absurd (f8t.symm.trans (up_false e)) (by decide)
        | 14, h => exact fun e => absurd (f15t.symm.trans (up_false e)) (by decide)
        | 8, h =>
          rw [show a'.tmps.getD (tkSlot 8) undef = .slice (some ⟨g, 0, none⟩) (no + 1) c12 from hy12] at h ⊢
          exact ⟨ownsRow_setCell_below (a := ⟨D, 6, none⟩) h.1 (Nat.lt_succ_self D) _, h.2.1, fun _ => hc6b⟩
        | 15, h => exact ⟨ownsRow_setCell_below (a := ⟨D, 6, none⟩) h.1 (Nat.lt_succ_self D) _, h.2.1, fun e => absurd ((hT.n18 hfi).symm.trans (up_true (by decide) e)) (by decide)⟩
        | 18, h | 21, h => trivial
        | n + 22, h => exact h.elim
      have HTN := Lib.hid TN
      have HFN := Lib.hid FN
      clear TN FN hs6 hs6b hc6b hd hr hbk
      unfold Oper.wp execOp
      go_simp
      refine ⟨trivial, ?_, ?_⟩
      · have h := HTN.out; simpa using h
      · intro j hj hF
        have h := HFN.out j hj (by simpa using hF)
        simpa using h
    | 19, ho =>
      cases ho
      have f5 := (hpre { on := 1, ground := .data } (by simp) rfl).1
      have q5 : a'.tmps.getD 5 undef = .pointer (some ⟨D, 0, none⟩) := (hpre { on := 1, ground := .data } (by simp) rfl).2
      have e5 := rg_ev q5
      exact rg_same5 (by decide) (by decide) (rg_same4 (.pointer (some ⟨D, 0, none⟩)) (by unfold Oper.wp execOp; go_simp; all_goals ((try simp only [e5]); (try go_simp); (try rw [if_pos (by omega)]); (try rw [if_neg (by omega)]); first | done | rfl | exact ⟨rfl, rfl⟩ | trivial)) (by simp) rfl (hT.step 19 (by decide) (by decide) (by decide) (by decide) (Below.refl _ _)) (fun j v' h => tkF_step 19 (by decide) (by decide) (by decide) (by decide) (Below.refl _ _) hDW h))
    | 20, ho =>
      cases ho
      have f22 := (hpre { on := 19, ground := .data } (by simp) rfl).1
      have q22 : a'.tmps.getD 22 undef = .pointer (some ⟨D, 0, none⟩) := (hpre { on := 19, ground := .data } (by simp) rfl).2
      have e22 := rg_ev q22
      exact rg_same5 (by decide) (by decide) (rg_same4 (.pointer (some ⟨D, 8, none⟩)) (by unfold Oper.wp execOp; go_simp; all_goals ((try simp only [e22]); (try go_simp); (try rw [if_pos (by omega)]); (try rw [if_neg (by omega)]); first | done | rfl | exact ⟨rfl, rfl⟩ | trivial)) (by simp) rfl (hT.step 20 (by decide) (by decide) (by decide) (by decide) (Below.refl _ _)) (fun j v' h => tkF_step 20 (by decide) (by decide) (by decide) (by decide) (Below.refl _ _) hDW h))
    | 21, ho =>
      cases ho
      have f23 := (hpre { on := 20, ground := .data } (by simp) rfl).1
      have q23 : a'.tmps.getD 23 undef = .pointer (some ⟨D, 8, none⟩) := (hpre { on := 20, ground := .data } (by simp) rfl).2
      have f19 := (hpre { on := 15, ground := .data } (by simp) rfl).1
      have h19 : tkF D BB x VO VU no nu (s.out.map by8) (s.under.map by8) f 15 W (a'.tmps.getD 19 undef) := (hpre { on := 15, ground := .data } (by simp) rfl).2
      refine rg_same5 (by decide) (by decide) ?_
      have f18t : f 18 = true := (hpre { on := 18, ground := .chain } (by simp) rfl).1
      have f15t : f 15 = true := f19
      have f8t : f 8 = true := by
        cases h : f 8 with
        | true => rfl
        | false => have := hT.n15 (hT.n8 h); rw [f18t] at this; cases this
      obtain ⟨y19, hy19⟩ : ∃ z, a'.tmps.getD 19 undef = z := ⟨_, rfl⟩
      rw [hy19] at h19
      obtain ⟨hr, hbk, _⟩ := h19
      obtain ⟨g, c19, rfl⟩ := Go.Joins.ownsRow_form hr (by omega)
      obtain ⟨x6, x8, hd, d1, d2⟩ := hT.dc
      have hz8 : W.frozen? ⟨D, 8, none⟩ = false := frozen_of_row _ _ _ _ _ hd
      have hc8 : W.cell? ⟨D, 8, none⟩ = some x8 := by unfold dcC at hd; simp [World.cell?, hd]
      have hc6 : W.cell? ⟨D, 6, none⟩ = some x6 := by unfold dcC at hd; simp [World.cell?, hd]
      have hs8 := heap_setCell_same _ _ 8 _ _ (.slice (some ⟨g, 0, none⟩) (nu + 1) c19) hd
      have hs8b : (W.setCell ⟨D, 8, none⟩ (.slice (some ⟨g, 0, none⟩) (nu + 1) c19)).heap[D]? = some (.cells (dcC cap s vt x6 ve (.slice (some ⟨g, 0, none⟩) (nu + 1) c19)) 50 (0, 0)) := by
        rw [hs8]; unfold dcC; simp
      have hc8b : (W.setCell ⟨D, 8, none⟩ (.slice (some ⟨g, 0, none⟩) (nu + 1) c19)).cell? ⟨D, 8, none⟩ = some (.slice (some ⟨g, 0, none⟩) (nu + 1) c19) := by
        unfold dcC at hs8b; simp [World.cell?, hs8b]
      have hc6b : (W.setCell ⟨D, 8, none⟩ (.slice (some ⟨g, 0, none⟩) (nu + 1) c19)).cell? ⟨D, 6, none⟩ = some x6 := by
        unfold dcC at hs8b; simp [World.cell?, hs8b]
      have e23 := rg_ev q23
      have e19 := rg_ev hy19
      have TN : tkT wr D cap s vt ve VO VU no nu (s.out.map by8) (s.under.map by8) xs (fun j => if j = 21 then true else f j) (W.setCell ⟨D, 8, none⟩ (.slice (some ⟨g, 0, none⟩) (nu + 1) c19)) :=
        ⟨hT.bel.setCell (p := ⟨D, 8, none⟩) (Nat.le_refl D) _, by have := hT.size; simpa using this, ⟨x6, _, hs8b, fun e => d1 (up_false e), fun e => by simp at e⟩, ownsRow_setCell_below (a := ⟨D, 8, none⟩) hT.rt (Nat.lt_succ_self D) _, ownsRow_setCell_below (a := ⟨D, 8, none⟩) hT.re (Nat.lt_succ_self D) _,
         fun e => absurd (f8t.symm.trans (up_false e)) (by decide), fun e => absurd (f15t.symm.trans (up_false e)) (by decide), fun e => up_un (by decide) (hT.n5 (up_false e)), fun e => up_un (by decide) (hT.n7 (up_false e)), fun e => up_un (by decide) (hT.n12 (up_false e)), fun e => up_un (by decide) (hT.n14 (up_false e)), fun e => up_un (by decide) (hT.n8 (up_false e)), fun e => up_un (by decide) (hT.n15 (up_false e)), fun e => absurd (f18t.symm.trans (up_false e)) (by decide), fun k a b c d => (Below.heap_setCell _ _ _ _ b).trans (hT.oth k a b c d)⟩
      have FN : ∀ j, f j = true → tkF D BB x VO VU no nu (s.out.map by8) (s.under.map by8) f j W (a'.tmps.getD (tkSlot j) undef) → tkF D BB x VO VU no nu (s.out.map by8) (s.under.map by8) (fun j => if j = 21 then true else f j) j (W.setCell ⟨D, 8, none⟩ (.slice (some ⟨g, 0, none⟩) (nu + 1) c19)) (a'.tmps.getD (tkSlot j) undef) := fun j hj hF => by
        match j, hF with
        | 0, h | 1, h | 2, h | 3, h | 4, h | 5, h | 6, h | 9, h | 10, h | 11, h | 12, h | 13, h | 16, h | 17, h | 19, h | 20, h => exact h
        | 7, h => exact fun e => absurd (f8t.symm.trans (up_false e)) (by decide)
        | 14, h => exact fun e => absurd (f15t.symm.trans (up_false e)) (by decide)
        | 8, h => exact ⟨ownsRow_setCell_below (a := ⟨D, 8, none⟩) h.1 (Nat.lt_succ_self D) _, h.2.1, fun _ => hc6b.trans (hc6.symm.trans (h.2.2 f18t))⟩
        | 15, h =>
          rw [show a'.tmps.getD (tkSlot 15) undef = .slice (some ⟨g, 0, none⟩) (nu + 1) c19 from hy19] at h ⊢
          exact ⟨ownsRow_setCell_below (a := ⟨D, 8, none⟩) h.1 (Nat.lt_succ_self D) _, h.2.1, fun _ => hc8b⟩
        | 18, h | 21, h => trivial
        | n + 22, h => exact h.elim
      have HTN := Lib.hid TN
      have HFN := Lib.hid FN
      clear TN FN hs8 hs8b hc8b hc6b hd hr hbk
      unfold Oper.wp execOp
      go_simp
      refine ⟨trivial, ?_, ?_⟩
      · have h := HTN.out; simpa using h
      · intro j hj hF
        have h := HFN.out j hj (by simpa using hF)
        simpa using h
    | n + 22, ho => exact absurd ho (by simp)
  case done =>
    intro f vs W hall hT hvs hR
    have v0 : vs 0 = .pointer (some ⟨D, 0, none⟩) := hvs 0 (by decide)
    have v1 : vs 1 = .pointer (some ⟨D, 0, none⟩) := hvs 1 (by decide)
    have v2 : vs 2 = .pointer (some ⟨D, 0, none⟩) := hvs 2 (by decide)
    have v3 : vs 3 = .pointer (some ⟨D, 0, none⟩) := hvs 3 (by decide)
    have v4 : vs 4 = .pointer (some ⟨D, 6, none⟩) := hvs 4 (by decide)
    have v5 : vs 5 = VO := hvs 5 (by decide)
    have v6 : vs 6 = .int .u8 x := hvs 6 (by decide)
    obtain ⟨z7, v7, w7⟩ : ∃ z, vs 7 = z ∧ tkF D BB x VO VU no nu (s.out.map by8) (s.under.map by8) f 7 W z := ⟨_, rfl, hvs 7 (by decide)⟩
    obtain ⟨z8, v8, w8⟩ : ∃ z, vs 8 = z ∧ tkF D BB x VO VU no nu (s.out.map by8) (s.under.map by8) f 8 W z := ⟨_, rfl, hvs 8 (by decide)⟩
    have v9 : vs 9 = .pointer (some ⟨D, 0, none⟩) := hvs 9 (by decide)
    have v10 : vs 10 = .pointer (some ⟨D, 0, none⟩) := hvs 10 (by decide)
    have v11 : vs 11 = .pointer (some ⟨D, 8, none⟩) := hvs 11 (by decide)
    have v12 : vs 12 = VU := hvs 12 (by decide)
    have v13 : vs 13 = .int .u8 x := hvs 13 (by decide)
    obtain ⟨z14, v14, w14⟩ : ∃ z, vs 14 = z ∧ tkF D BB x VO VU no nu (s.out.map by8) (s.under.map by8) f 14 W z := ⟨_, rfl, hvs 14 (by decide)⟩
    obtain ⟨z15, v15, w15⟩ : ∃ z, vs 15 = z ∧ tkF D BB x VO VU no nu (s.out.map by8) (s.under.map by8) f 15 W z := ⟨_, rfl, hvs 15 (by decide)⟩
    have v16 : vs 16 = .pointer (some ⟨D, 0, none⟩) := hvs 16 (by decide)
    have v17 : vs 17 = .pointer (some ⟨D, 6, none⟩) := hvs 17 (by decide)
    obtain ⟨z18, v18, w18⟩ : ∃ z, vs 18 = z ∧ tkF D BB x VO VU no nu (s.out.map by8) (s.under.map by8) f 18 W z := ⟨_, rfl, hvs 18 (by decide)⟩
    have v19 : vs 19 = .pointer (some ⟨D, 0, none⟩) := hvs 19 (by decide)
    have v20 : vs 20 = .pointer (some ⟨D, 8, none⟩) := hvs 20 (by decide)
    obtain ⟨z21, v21, w21⟩ : ∃ z, vs 21 = z ∧ tkF D BB x VO VU no nu (s.out.map by8) (s.under.map by8) f 21 W z := ⟨_, rfl, hvs 21 (by decide)⟩
    rw [v8, v15] at hR
    simp only [fillN, List.size_toArray, List.length_cons, List.length_nil, Nat.reduceAdd, show List.range 22 = [0, 1, 2, 3, 4, 5, 6, 7, 8, 9, 10, 11, 12, 13, 14, 15, 16, 17, 18, 19, 20, 21] from rfl, List.foldl_cons, List.foldl_nil, show tkSlot 0 = 4 from rfl, show tkSlot 1 = 5 from rfl, show tkSlot 2 = 6 from rfl, show tkSlot 3 = 7 from rfl, show tkSlot 4 = 8 from rfl, show tkSlot 5 = 9 from rfl, show tkSlot 6 = 10 from rfl, show tkSlot 7 = 11 from rfl, show tkSlot 8 = 12 from rfl, show tkSlot 9 = 13 from rfl, show tkSlot 10 = 14 from rfl, show tkSlot 11 = 15 from rfl, show tkSlot 12 = 16 from rfl, show tkSlot 13 = 17 from rfl, show tkSlot 14 = 18 from rfl, show tkSlot 15 = 19 from rfl, show tkSlot 16 = 20 from rfl, show tkSlot 17 = 21 from rfl, show tkSlot 18 = 24 from rfl, show tkSlot 19 = 22 from rfl, show tkSlot 20 = 23 from rfl, show tkSlot 21 = 25 from rfl, v0, v1, v2, v3, v4, v5, v6, v7, v8, v9, v10, v11, v12, v13, v14, v15, v16, v17, v18, v19, v20, v21]
    clear v0 v1 v2 v3 v4 v5 v6 v7 v8 v9 v10 v11 v12 v13 v14 v15 v16 v17 v18 v19 v20 v21 hvs
    obtain ⟨r8, b8, c8⟩ := w8
    obtain ⟨r15, b15, c15⟩ := w15
    obtain ⟨x6, x8, hdc, _, _⟩ := hT.dc
    have e6 : x6 = z8 := by
      have h1 := c8 (hall 18 (by decide))
      have hdc2 := hdc
      unfold dcC at hdc2
      have h2 : W.cell? ⟨D, 6, none⟩ = some x6 := by simp [World.cell?, hdc2]
      rw [h2] at h1; cases h1; rfl
    have e8 : x8 = z15 := by
      have h1 := c15 (hall 21 (by decide))
      have hdc2 := hdc
      unfold dcC at hdc2
      have h2 : W.cell? ⟨D, 8, none⟩ = some x8 := by simp [World.cell?, hdc2]
      rw [h2] at h1; cases h1; rfl
    subst e6 e8
    have hby : by8 c = .int .u8 x := by unfold by8; rw [HX.out]
    have hda : DAt W D cap { s with out := s.out ++ [c], under := s.under ++ [c] } vt x6 ve x8 := by
      refine ⟨hdc, hT.rt, ?_, ?_, ⟨xs, hT.re, HGU.out.oth HXS.out (fun k a b _ c _ d => hT.oth k a b c d) (nw.refl _ _) (nw.ex (by rw [HBB.out]; exact b8)) (nw.refl _ _) (nw.ex (by rw [HBB.out]; exact b15))⟩, ?_, ?_, hR⟩
      · have e : ({ s with out := s.out ++ [c], under := s.under ++ [c] } : Dn.St).out.length = no + 1 := by simp [HNO.out]
        rw [e]
        simp only [List.map_append, List.map_cons, List.map_nil, hby]
        exact r8
      · have e : ({ s with out := s.out ++ [c], under := s.under ++ [c] } : Dn.St).under.length = nu + 1 := by simp [HNU.out]
        rw [e]
        simp only [List.map_append, List.map_cons, List.map_nil, hby]
        exact r15
      · intro k h1 h2
        rcases b8 with h3 | ⟨k2, h3, h4⟩
        · exact HTO.out k h1 (by rw [← h3]; exact h2)
        · rw [h3] at h2; cases h2; have := HVT.out k h1; omega
      · intro k h1 h2
        rcases b15 with h3 | ⟨k2, h3, h4⟩
        · exact HTU.out k h1 (by rw [← h3]; exact h2)
        · rw [h3] at h2; cases h2; have := HVT.out k h1; omega
    have hg := hdc
    unfold dcC at hg
    have a5 : W.cell? ⟨D, 5, none⟩ = some (.int .i64 s.many) := by simp [World.cell?, hg]
    have a4 : W.cell? ⟨D, 4, none⟩ = some (.int .i64 s.left) := by simp [World.cell?, hg]
    have a3 : W.cell? ⟨D, 3, none⟩ = some (.int .i64 s.pt) := by simp [World.cell?, hg]
    have y5 : W.frozen? ⟨D, 5, none⟩ = false := frozen_of_row _ _ _ _ _ hg
    have y4 : W.frozen? ⟨D, 4, none⟩ = false := frozen_of_row _ _ _ _ _ hg
    have y3 : W.frozen? ⟨D, 3, none⟩ = false := frozen_of_row _ _ _ _ _ hg
    have hl2 : ((s.left - 1 : Nat) : Int) = (s.left : Int) - 1 := by omega
    have h1 := hda.set (s' := { s with out := s.out ++ [c], under := s.under ++ [c], many := s.many + 1 }) 5 (.int .i64 ((s.many : Int) + 1)) (by unfold dcC; simp) rfl rfl rfl rfl
    have h2 := h1.set (s' := { s with out := s.out ++ [c], under := s.under ++ [c], many := s.many + 1, left := s.left - 1 }) 4 (.int .i64 ((s.left : Int) - 1)) (by unfold dcC; simp [hl2]) rfl rfl rfl rfl
    have h3 := h2.set (s' := { s with out := s.out ++ [c], under := s.under ++ [c], many := s.many + 1, left := s.left - 1, pt := 2 }) 3 (.int .i64 2) (by unfold dcC; simp) rfl rfl rfl rfl
    have H2 := Lib.hid h2
    have H3 := Lib.hid h3
    have L2 := Lib.hid ((hT.bel.setCell (p := ⟨D, 5, none⟩) (Nat.le_refl D) (.int .i64 ((s.many : Int) + 1))).setCell (p := ⟨D, 4, none⟩) (Nat.le_refl D) (.int .i64 ((s.left : Int) - 1)))
    have L3 := Lib.hid (L2.out.setCell (p := ⟨D, 3, none⟩) (Nat.le_refl D) (.int .i64 2))
    obtain ⟨bl, hbl⟩ : ∃ z, (((s.left : Int) - 1) == 0) = z := ⟨_, rfl⟩
    have HBL := Lib.hid hbl
    clear r8 b8 c8 r15 b15 c15 hdc hda hg h1 h2 h3 hT hall hR hby hl2
    go_simp
    cases bl with
    | true =>
      go_wp2_with fail
      simp [bodyPost, results, Tryd.results32, go_sem]
      have hl5 : s.left = 1 := by have := HBL.out; simp at this; omega
      refine ⟨.inl ⟨HW.out, rfl, ?_⟩, L3.out⟩
      rw [show Dn.takes c s = { s with out := s.out ++ [c], under := s.under ++ [c], many := s.many + 1, left := s.left - 1, pt := 2 } by unfold Dn.takes; rw [if_pos hl5]]
      exact ⟨_, _, _, _, H3.out⟩
    | false =>
      go_wp2_with fail
      simp [bodyPost, results, Tryd.results32, go_sem]
      have hl5 : ¬ s.left = 1 := by have := HBL.out; simp at this; omega
      refine ⟨.inl ⟨HW.out, rfl, ?_⟩, L2.out⟩
      rw [show Dn.takes c s = { s with out := s.out ++ [c], under := s.under ++ [c], many := s.many + 1, left := s.left - 1 } by unfold Dn.takes; rw [if_neg hl5]]
      exact ⟨_, _, _, _, H2.out⟩
end Go.Proofs.YtaekcmoogobbjaaDoor
