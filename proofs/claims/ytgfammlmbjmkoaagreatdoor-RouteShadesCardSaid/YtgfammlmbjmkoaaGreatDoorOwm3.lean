/- Texts of this claim, one behind the other: Rr, Ru, Rw, Rx, Of, G5, G6, G7, G8, GA, GB, GC, Tw8, GD, GE, Og, GF, Oh, Oi, Oj, GG, GH, Ck0, GL, G9, Ok, Ol. -/
import Derived.OrdersIn
import Derived.TacticsIn
import Derived.Lib.QuietBelow
import Derived.Test.YtgfammlmbjmkoaaGreatDoorOwm2
import Derived.RegionCalls
import Derived.RegionTactic
import Derived.Lib.DecodeN
import Derived.Laws.RangeString
import Derived.Laws.Runes
import Derived.Deep.QuietTactic
import Derived.BigQuiet
import Derived.Scope
import Derived.Test.YtgfammlmbjmkoaaGreatDoorOwm1
import Derived.Lib.SplitLaws
import Derived.Laws.AppendOwn
import Derived.Laws.AppendOwnNone
import Derived.Laws.OwnMore
import Derived.Lib.ItoaMem
import Derived.IntWalk
/- A region that draws its order, within a round of a range over a function: the plain laws lifted, and the call of yield behind operations in whatever order. No condition but those that each lemma states. -/
namespace Go.Proofs.YtgfammlmbjmkoaaGreatDoor
set_option linter.unusedVariables false
set_option linter.unusedSimpArgs false
open Go.RowKit
set_option maxHeartbeats 2000000
def noDefer (ops : Array Oper) : Bool := ops.all fun o => match o.op with
  | .defer _ => false
  | _ => true
theorem noDefer_at {ops : Array Oper} (h : noDefer ops = true) {i : Nat} {o : Oper} (ho : ops[i]? = some o) : ∀ c, o.op ≠ .defer c := by
  intro c hc
  have h1 := (Array.all_eq_true_iff_forall_mem.1 h) o (Array.mem_of_getElem? ho)
  rw [hc] at h1
  cases h1
/-- an operation of a round, out of the plain one -/
theorem opR {P : Program} {l n : Nat} {o : Oper} {a : Act} {w : World} {K : Act → World → Prop} {Q : Exit → Act → World → Prop} (hd : ∀ c, o.op ≠ .defer c) (h : o.wp P a w K Q) :
    o.wpIn (Fence.wide.inRound l) n P a w K Q := by
  refine ⟨fun _ _ => trivial, ?_⟩
  rw [Fence.inRound_round, Oper.semAt_some l _ _ hd]
  unfold Oper.wp at h
  generalize (execOp a.eval o).run P w = r at h ⊢
  cases r with
  | ok x w' =>
    cases x <;> simp only [Oper.upon, Oper.uponIn] at h ⊢ <;>
      first
        | exact h
        | exact ⟨(fun e => by cases e), CallsIn.inRound l (callsIn_wide.2 h)⟩
        | exact ⟨(fun e => by cases e), fun c cs _ => let ⟨v, w', r, s⟩ := h c cs; ⟨v, w', r, stepsIn_wide.2 s⟩⟩
  | halt x w' => cases x <;> simp only [Oper.upon, Oper.uponIn] at h ⊢ <;> exact h
section
variable {P : Program} {ops : Array Oper} {Q' : Exit → Act → World → Prop} {md : Region.Mode} {C : World → Prop} {l n : Nat}
theorem wpOpR_of_qOp {i : Nat} {a : Act} {K : Act → Prop} {K' : Act → World → Prop} {w : World} (hd : noDefer ops = true) (hC : C w) (h : ∀ a w', C w' → K a → K' a w') (hh : qOp P ops C i K a) : wpOpIn (Fence.wide.inRound l) n P ops Q' i K' a w := by
  unfold qOp at hh
  unfold wpOpIn
  split
  · rename_i ho; simp only [ho] at hh; exact h _ _ hC hh
  · rename_i o ho
    simp only [ho] at hh
    split
    · rename_i hw; simp only [hw, if_true] at hh; exact opR (noDefer_at hd ho) (Oper.wp_of_quiet hC h hh)
    · rename_i hw; simp only [hw] at hh; exact ⟨fun _ _ => trivial, h _ _ hC hh⟩
theorem wpAnyR_of_quiet {Q : Act → Prop} (hd : noDefer ops = true) (hQ : ∀ a w, C w → Q a → Q' .normal a w) : ∀ (fuel : Nat) (listed : Array Bool) (a : Act) (w : World), C w →
    wpAnyQ P md ops C Q fuel listed a → wpAnyIn (Fence.wide.inRound l) n P md ops Q' fuel listed a w
  | 0, _, _, _, hw, h => ⟨h.1, hQ _ _ hw h.2⟩
  | fuel + 1, _, _, _, hw, h => ⟨fun h0 => hQ _ _ hw (h.1 h0), fun i hi => wpOpR_of_qOp hd hw (fun a' w' hw' => wpAnyR_of_quiet hd hQ fuel _ a' w' hw') (h.2 i hi)⟩
theorem wpR_region_quiet {id : Nat} {Q : Exit → Act → World → Prop} {a : Act} {w : World} (hm : P.follows .mixedOrders = true) (hd : noDefer ops = true) (hB : Region.lexB .any ops = true) (hC : C { w with drawn := w.drawn + 1 })
    (h : wpQuiet P ops C (fun a' => ∀ w', C w' → Q .normal a' w') ops.toList a) : (Code.region id ops true).wpIn (Fence.wide.inRound l) n P Q a w := by
  simp only [Region.lexB, Bool.and_eq_true] at hB
  refine wpIn_region_any hm (wpAnyR_of_quiet (Q := fun a' => ∀ w', C w' → Q .normal a' w') hd (fun _ w' hw' h => h w' hw') _ _ _ _ hC ?_)
  have := wpAnyQ_lex (C := C) (md := .any) hB.1 ops.toList 0 (Array.replicate ops.size false) a (by simp) (by simpa using hB.2) h
  simpa using this
/-- callees that make memory behind what there is -/
theorem wpR_region_below {id : Nat} {Q : Exit → Act → World → Prop} {a : Act} {w : World} {ls : List Oper} (hm : P.follows .mixedOrders = true) (hd : noDefer ls.toArray = true) (hB : Region.lexB .any ls.toArray = true)
    (h : wpQuiet P ls.toArray (fun w' => ∃ p : Regrown, w' = Go.Sort.grow (redrawn w p.d) p.os) (fun a' => ∀ w', (∃ p : Regrown, w' = Go.Sort.grow (redrawn w p.d) p.os) → Q .normal a' w') ls a) : (Code.region id ls.toArray true).wpIn (Fence.wide.inRound l) n P Q a w :=
  wpR_region_quiet (C := fun w' => ∃ p : Regrown, w' = Go.Sort.grow (redrawn w p.d) p.os) hm hd hB ⟨⟨w.drawn + 1, #[]⟩, by rw [Go.Sort.grow_empty]; rfl⟩ (by simpa using h)
end
section
variable {P : Program} {ops : Array Oper} {Q : Exit → Act → World → Prop} {md : Region.Mode} {F : Fence} {n : Nat}
theorem wpAnyIn_inv (hb : backB md ops = true) (Inv : (Nat → Bool) → Act → World → Prop)
    (hstep : ∀ (f : Nat → Bool) (a : Act) (w : World) (i : Nat) (o : Oper), ops[i]? = some o → f i = false → (∀ e ∈ o.after, Region.binds md e = true → f e.on = true) → Inv f a w →
      o.wpIn F n P a w (Inv (fun j => if j = i then true else f j)) Q)
    (hdone : ∀ (f : Nat → Bool) (a : Act) (w : World), (∀ i, i < ops.size → f i = true) → Inv f a w → Q .normal a w) :
    ∀ (fuel : Nat) (listed : Array Bool) (a : Act) (w : World), listed.size = ops.size → listed.toList.count false ≤ fuel → Inv (fun i => listed.getD i false) a w → wpAnyIn F n P md ops Q fuel listed a w := by
  intro fuel
  induction fuel with
  | zero =>
    intro listed a w hs hc hI
    have hr : Region.ready md ops listed = [] := by
      cases hr : Region.ready md ops listed with
      | nil => rfl
      | cons i r =>
        obtain ⟨o, ho, hl, hi, _⟩ := ready_mem (md := md) hs (i := i) (by rw [hr]; exact List.mem_cons_self)
        have h1 : false ∈ listed.toList := by
          simp only [Array.getD, hi, dite_true] at hl
          have h2 : listed[i] ∈ listed.toList := Array.mem_toList_iff.2 (Array.getElem_mem hi)
          have h3 : listed[i] = false := hl
          rwa [h3] at h2
        have := List.count_pos_iff.2 h1
        omega
    exact ⟨hr, hdone _ a w (ready_all hb hs hr) hI⟩
  | succ fuel ih =>
    intro listed a w hs hc hI
    refine ⟨fun hr => hdone _ a w (ready_all hb hs hr) hI, fun i hi => ?_⟩
    obtain ⟨o, ho, hl, hil, hpre⟩ := ready_mem hs hi
    have hg := (back_of hb ho).1
    have h1 := hstep _ a w i o ho hl hpre hI
    unfold wpOpIn
    simp only [ho]
    rw [if_pos (by simp [Region.wanted, hg])]
    refine Oper.wpIn_mono (fun a' w' hI' => ?_) h1
    refine ih _ a' w' (by simp [hs]) ?_ ?_
    · have h3 : listed.toList[i]'(by simpa using hil) = false := by
        simp only [Array.getD, hil, dite_true] at hl
        simpa using hl
      rw [Array.toList_setIfInBounds, List.count_set (h := by simpa using hil), h3]
      have h4 : 0 < listed.toList.count false := List.count_pos_iff.2 (by rw [← h3]; exact List.getElem_mem _)
      rw [if_pos (by rfl), if_neg (by decide)]
      omega
    · refine cast (congrArg (fun g => Inv g a' w') (funext fun j => ?_)) hI'
      by_cases hj : j = i
      · subst hj
        simp [Array.getD, hil]
      · rw [if_neg hj]
        simp only [Array.getD, Array.size_setIfInBounds]
        by_cases hjl : j < listed.size
        · simp [hjl, Array.getElem_setIfInBounds, Ne.symm hj]
        · simp [hjl]
theorem region_inv_in {id : Nat} {a : Act} {w : World} (hm : P.follows .mixedOrders = true) (hb : backB .any ops = true) (Inv : (Nat → Bool) → Act → World → Prop) (h0 : Inv (fun _ => false) a w.drew)
    (hstep : ∀ (f : Nat → Bool) (a : Act) (w : World) (i : Nat) (o : Oper), ops[i]? = some o → f i = false → (∀ e ∈ o.after, Region.binds .any e = true → f e.on = true) → Inv f a w →
      o.wpIn F n P a w (Inv (fun j => if j = i then true else f j)) Q)
    (hdone : ∀ (f : Nat → Bool) (a : Act) (w : World), (∀ i, i < ops.size → f i = true) → Inv f a w → Q .normal a w) : (Code.region id ops true).wpIn F n P Q a w := by
  refine wpIn_region_any hm (wpAnyIn_inv hb Inv hstep hdone _ _ a _ (by simp) ?_ ?_)
  · refine Nat.le_trans List.count_le_length ?_
    simp
  · refine cast (congrArg (fun g => Inv g a w.drew) (funext fun j => ?_)) h0
    by_cases hj : j < ops.size <;> simp [Array.getD, hj]
/-! what stands ahead of an operation, however far -/
def edgesOf (md : Region.Mode) (ops : Array Oper) (i : Nat) : List Nat := match ops[i]? with
  | some o => (o.after.toList.filter (Region.binds md)).map (·.on)
  | none => []
def ancOf (md : Region.Mode) (ops : Array Oper) : Nat → Nat → List Nat
  | 0, _ => []
  | k + 1, i => (edgesOf md ops i).flatMap fun j => j :: ancOf md ops k j
def ShutF (md : Region.Mode) (ops : Array Oper) (f : Nat → Bool) : Prop := ∀ i, f i = true → ∀ j ∈ edgesOf md ops i, f j = true
theorem anc_true {f : Nat → Bool} (hc : ShutF md ops f) : ∀ (k i : Nat), (∀ j ∈ edgesOf md ops i, f j = true) → ∀ j ∈ ancOf md ops k i, f j = true
  | 0, _, _, j, hj => by cases hj
  | k + 1, i, h, j, hj => by
    obtain ⟨x, hx, hj⟩ := List.mem_flatMap.1 hj
    rcases List.mem_cons.1 hj with rfl | hj
    · exact h _ hx
    · exact anc_true hc k x (hc x (h x hx)) j hj
theorem edges_of {f : Nat → Bool} {i : Nat} {o : Oper} (ho : ops[i]? = some o) (h : ∀ e ∈ o.after, Region.binds md e = true → f e.on = true) : ∀ j ∈ edgesOf md ops i, f j = true := by
  intro j hj
  unfold edgesOf at hj
  rw [ho] at hj
  obtain ⟨e, he, rfl⟩ := List.mem_map.1 hj
  obtain ⟨h1, h2⟩ := List.mem_filter.1 he
  exact h e (Array.mem_toList_iff.1 h1) h2
/-- the call of yield at place m, one operation behind it; ahead of it m operations in whatever order, each by what its slot holds -/
theorem region_yield {id l : Nat} {a0 : Act} {w0 : World} (m : Nat) (slot : Nat → Nat) (Fs : Nat → World → Value → Prop) (T : Act → World → Prop) (hm : P.follows .mixedOrders = true) (hb : backB .any ops = true) (hd : noDefer ops = true)
    (hsz : ops.size = m + 2) (hanc : ((List.range m).all fun j => (ancOf .any ops m m).contains j) = true) (hlast : (edgesOf .any ops (m + 1)).contains m = true)
    (hs : ∀ i, slot i < a0.tmps.size) (hinj : ∀ i j, i < m → j < m → slot i = slot j → i = j) (hF : ∀ i w w' v, Fs i w v → Below w.heap.size w w' → Fs i w' v)
    (hdst : ∀ i o, i < m → ops[i]? = some o → o.dst = some (slot i))
    (hstep : ∀ (f : Nat → Bool) (a : Act) (w : World) (i : Nat) (o : Oper), i < m → ops[i]? = some o → (∀ e ∈ o.after, Region.binds .any e = true → Fs e.on w (a.tmps.getD (slot e.on) undef)) → Below w0.heap.size w0 w →
      (∀ j, (∀ i, i < m → slot i ≠ j) → a.tmps.getD j undef = a0.tmps.getD j undef) → o.wp P a w (fun a' w' => ∃ v, a' = a.put o.dst v ∧ Fs i w' v ∧ Below w.heap.size w w') Q)
    (hyield : ∀ (vs : Nat → Value) (w : World) (o : Oper), ops[m]? = some o → Below w0.heap.size w0 w → (∀ i, i < m → Fs i w (vs i)) →
      o.wpIn (Fence.wide.inRound l) n P { a0 with tmps := fillN slot vs m a0.tmps } w T Q)
    (htail : ∀ (a : Act) (w : World) (o : Oper), ops[m + 1]? = some o → T a w → o.wpIn (Fence.wide.inRound l) n P a w (fun a' w' => Q .normal a' w') Q) :
    (Code.region id ops true).wpIn (Fence.wide.inRound l) n P Q a0 w0 := by
  refine region_inv_in hm hb (fun f a w => ShutF .any ops f ∧ (f m = false → f (m + 1) = false ∧ Stand a0 w0 m slot Fs f a w) ∧ (f m = true → f (m + 1) = false → T a w) ∧ (f (m + 1) = true → Q .normal a w))
    ⟨(fun i h => by cases h), (fun _ => ⟨rfl, rfl, rfl, (fun _ _ => rfl), ⟨rfl, rfl, rfl, Nat.le_refl _, (fun _ _ => rfl)⟩, (fun _ _ h => by cases h)⟩), (fun h => by cases h), (fun h => by cases h)⟩ ?_ ?_
  · rintro f a w i o ho hf hpre ⟨hc, h1, h2, h3⟩
    have hi := (Array.getElem?_eq_some_iff.1 ho).1
    have hee := edges_of ho hpre
    have hc' : ShutF .any ops (fun j => if j = i then true else f j) := by
      intro x hx y hy
      show (if y = i then true else f y) = true
      by_cases hyi : y = i
      · rw [if_pos hyi]
      · rw [if_neg hyi]
        by_cases hxi : x = i
        · subst hxi; exact hee y hy
        · exact hc x (by simpa [hxi] using hx) y hy
    have hpres : ∀ {g : Nat → Bool}, ShutF .any ops g → (∀ j ∈ edgesOf .any ops m, g j = true) → ∀ j, j < m → g j = true := fun hg he j hj => by
      have h4 := List.all_eq_true.1 hanc j (List.mem_range.2 hj)
      exact anc_true hg m m he j (by simpa using h4)
    by_cases him : i = m
    · subst him
      obtain ⟨h4, hI⟩ := h1 hf
      have hall := hpres hc hee
      have e : a = { a0 with tmps := fillN slot (fun j => a.tmps.getD (slot j) undef) i a0.tmps } := by
        have h5 : a.tmps = fillN slot (fun j => a.tmps.getD (slot j) undef) i a0.tmps := by
          refine ext_getD (by rw [fillN_size, hI.size]) (fun j => ?_)
          by_cases hj : ∃ k, k < i ∧ slot k = j
          · obtain ⟨k, hk, rfl⟩ := hj
            rw [fillN_at slot _ _ hs _ hinj k hk]
          · rw [fillN_get slot _ _ hs _ j (fun k hk e => hj ⟨k, hk, e⟩), hI.rest j (fun k hk e => hj ⟨k, hk, e⟩)]
        obtain ⟨t, d⟩ := a
        have h6 := hI.defers
        simp only at h5 h6
        rw [← h5, h6]
      have h7 := hyield (fun j => a.tmps.getD (slot j) undef) w o ho hI.bel (fun j hj => hI.have_ j hj (hall j hj))
      rw [← e] at h7
      refine Oper.wpIn_mono (fun a' w' hT => ⟨hc', fun h => by simp at h, fun _ _ => hT, fun h => ?_⟩) h7
      have h' : (if i + 1 = i then true else f (i + 1)) = true := h
      rw [if_neg (by omega), h4] at h'
      cases h'
    · by_cases hit : i = m + 1
      · subst hit
        have hfm : f m = true := hee m (by simpa using hlast)
        refine Oper.wpIn_mono (fun a' w' hT => ⟨hc', fun h => ?_, fun _ h => by simp at h, fun _ => hT⟩) (htail a w o ho (h2 hfm hf))
        have h' : (if m = m + 1 then true else f m) = false := h
        rw [if_neg (by omega), hfm] at h'
        cases h'
      · have hlt : i < m := by omega
        have hfm : f m = false := by
          cases hfm : f m with
          | false => rfl
          | true =>
            have := hpres hc (hc m hfm) i hlt
            rw [hf] at this
            cases this
        obtain ⟨h4, hI⟩ := h1 hfm
        refine Oper.wpIn_mono ?_ (opR (noDefer_at hd ho) (hstep f a w i o hlt ho (fun e he hbd => hI.have_ e.on (by have := (back_of hb ho).2 e he hbd; omega) (hpre e he hbd)) hI.bel hI.rest))
        rintro a' w' ⟨v, rfl, hv, hbw⟩
        rw [hdst i o hlt ho]
        have hsl : slot i < a.tmps.size := by rw [hI.size]; exact hs i
        refine ⟨hc', fun _ => ⟨by show (if m + 1 = i then true else f (m + 1)) = false; rw [if_neg (by omega)]; exact h4, hI.defers, by rw [← hI.size]; exact Array.size_setIfInBounds .., fun j hj => ?_, hI.bel.trans (hbw.mono hI.bel.size), fun j hj hfj => ?_⟩, fun h => ?_, fun h => ?_⟩
        · show (a.tmps.setIfInBounds (slot i) v).getD j undef = _
          rw [getD_set _ _ _ _ hsl, if_neg (Ne.symm (hj i hlt))]
          exact hI.rest j hj
        · show Fs j w' ((a.tmps.setIfInBounds (slot i) v).getD (slot j) undef)
          rw [getD_set _ _ _ _ hsl]
          by_cases hji : j = i
          · subst hji; rw [if_pos rfl]; exact hv
          · rw [if_neg (fun e => hji (hinj j i hj hlt e))]
            have h2 : f j = true := by simpa [hji] using hfj
            exact hF j w w' _ (hI.have_ j hj h2) hbw
        · have h' : (if m = i then true else f m) = true := h
          rw [if_neg (Ne.symm him), hfm] at h'; cases h'
        · have h' : (if m + 1 = i then true else f (m + 1)) = true := h
          rw [if_neg (Ne.symm hit), h4] at h'; cases h'
  · rintro f a w hall ⟨_, _, _, h3⟩
    exact h3 (hall (m + 1) (by omega))
/-- the call of yield within a round of the iterator's own loop -/
theorem op_yield {l l' k : Nat} {o : Oper} {a : Act} {w : World} {K : Act → World → Prop} {R : Ending → World → Prop} (t : Nat) (xs : Array Operand) (ty : Array TypeId) (args : Array Value) (ho : o.op = Op.call { callee := .value (.tmp t), args := xs, argTypes := ty })
    (ht : a.tmps.getD t undef = .func (.yield l') #[] #[]) (hx : xs.map a.eval = args) (h : YieldAt Fence.wide k P l' args w R) (hR : ∀ e w', R e w' → ∃ b, e = .returned (.bool b) ∧ K (a.put o.dst (.bool b)) w') :
    o.wpIn (Fence.wide.inRound l) n P a w K Q := by
  obtain ⟨fn, tmps, assign, body, hy, hr⟩ := h
  refine ⟨fun _ _ => trivial, ?_⟩
  rw [Fence.inRound_round, Oper.semAt_some l _ _ (fun c h => by rw [ho] at h; cases h)]
  have ht2 : a.tmps[t]?.getD undef = .func (.yield l') #[] #[] := by rw [← Array.getD_eq_getD_getElem?]; exact ht
  have e : (execOp a.eval o).run P w = .ok (.round l' fn tmps assign body) w := by
    unfold execOp
    simp [ho, resolve, invoke, ht2, hx, hy, go_sem]
  rw [e]
  refine ⟨(fun h => by cases h), ?_⟩
  refine RoundIn.mono (F := Fence.wide) (roundIn_any _ hr) ?_
  intro z w' hz
  obtain ⟨b, rfl, hk⟩ := hR z w' hz
  exact hk
end
end Go.Proofs.YtgfammlmbjmkoaaGreatDoor

/- A drawn region whose last operation waits for all others, where the world is told by a relation of its own. -/
namespace Go.Proofs.YtgfammlmbjmkoaaGreatDoor
set_option linter.unusedVariables false
set_option linter.unusedSimpArgs false
open Go.RowKit
section
variable {P : Program} {ops : Array Oper} {Q : Exit → Act → World → Prop}
theorem region_last2 {id : Nat} {a0 : Act} {w0 : World} (m : Nat) (slot : Nat → Nat) (F : Nat → World → Value → Prop) (T : (Nat → Bool) → World → Prop) (hm : P.follows .mixedOrders = true) (hb : backB .any ops = true)
    (hsz : ops.size = m + 1) (hanc : ((List.range m).all fun j => (ancOf .any ops m m).contains j) = true)
    (hs : ∀ i, slot i < a0.tmps.size) (hinj : ∀ i j, i < m → j < m → slot i = slot j → i = j) (h0 : T (fun _ => false) w0.drew)
    (hdst : ∀ i o, i < m → ops[i]? = some o → o.dst = some (slot i))
    (hstep : ∀ (f : Nat → Bool) (a : Act) (w : World) (i : Nat) (o : Oper), i < m → ops[i]? = some o → f i = false → (∀ e ∈ o.after, Region.binds .any e = true → f e.on = true ∧ F e.on w (a.tmps.getD (slot e.on) undef)) → T f w →
      (∀ j, (∀ i, i < m → slot i ≠ j) → a.tmps.getD j undef = a0.tmps.getD j undef) →
      o.wp P a w (fun a' w' => ∃ v, a' = a.put o.dst v ∧ F i w' v ∧ T (fun j => if j = i then true else f j) w' ∧ ∀ j v', f j = true → F j w v' → F j w' v') Q)
    (hlast : ∀ (f : Nat → Bool) (vs : Nat → Value) (w : World) (o : Oper), ops[m]? = some o → (∀ i, i < m → f i = true) → T f w → (∀ i, i < m → F i w (vs i)) →
      o.wp P { a0 with tmps := fillN slot vs m a0.tmps } w (fun a' w' => Q .normal a' w') Q) :
    (Code.region id ops true).wp P Q a0 w0 := by
  refine region_inv hm hb (fun f a w => ShutF .any ops f ∧ (f m = false → Stand2 a0 m slot F T f a w) ∧ (f m = true → Q .normal a w))
    ⟨(fun i h => by cases h), (fun _ => ⟨rfl, rfl, (fun _ _ => rfl), (fun _ _ _ => rfl), h0, (fun _ _ h => by cases h)⟩), (fun h => by cases h)⟩ ?_ ?_
  · rintro f a w i o ho hf hpre ⟨hc, h1, h2⟩
    have hi := (Array.getElem?_eq_some_iff.1 ho).1
    have hee := edges_of ho hpre
    have hc' : ShutF .any ops (fun j => if j = i then true else f j) := by
      intro x hx y hy
      show (if y = i then true else f y) = true
      by_cases hyi : y = i
      · rw [if_pos hyi]
      · rw [if_neg hyi]
        by_cases hxi : x = i
        · subst hxi; exact hee y hy
        · exact hc x (by simpa [hxi] using hx) y hy
    have hpres : ∀ {g : Nat → Bool}, ShutF .any ops g → (∀ j ∈ edgesOf .any ops m, g j = true) → ∀ j, j < m → g j = true := fun hg he j hj => by
      have h4 := List.all_eq_true.1 hanc j (List.mem_range.2 hj)
      exact anc_true hg m m he j (by simpa using h4)
    by_cases him : i = m
    · subst him
      have hI := h1 hf
      have hall := hpres hc hee
      have e : a = { a0 with tmps := fillN slot (fun j => a.tmps.getD (slot j) undef) i a0.tmps } := by
        have h5 : a.tmps = fillN slot (fun j => a.tmps.getD (slot j) undef) i a0.tmps := by
          refine ext_getD (by rw [fillN_size, hI.size]) (fun j => ?_)
          by_cases hj : ∃ k, k < i ∧ slot k = j
          · obtain ⟨k, hk, rfl⟩ := hj
            rw [fillN_at slot _ _ hs _ hinj k hk]
          · rw [fillN_get slot _ _ hs _ j (fun k hk e => hj ⟨k, hk, e⟩), hI.rest j (fun k hk e => hj ⟨k, hk, e⟩)]
        obtain ⟨t, d⟩ := a
        have h6 := hI.defers
        simp only at h5 h6
        rw [← h5, h6]
      have h7 := hlast f (fun j => a.tmps.getD (slot j) undef) w o ho hall hI.told (fun j hj => hI.have_ j hj (hall j hj))
      rw [← e] at h7
      exact Oper.wp_mono (fun a' w' hT => ⟨hc', fun h => by simp at h, fun _ => hT⟩) h7
    · have hlt : i < m := by omega
      have hfm : f m = false := by
        cases hfm : f m with
        | false => rfl
        | true =>
          have := hpres hc (hc m hfm) i hlt
          rw [hf] at this
          cases this
      have hI := h1 hfm
      refine Oper.wp_mono ?_ (hstep f a w i o hlt ho hf (fun e he hbd => ⟨hpre e he hbd, hI.have_ e.on (by have := (back_of hb ho).2 e he hbd; omega) (hpre e he hbd)⟩) hI.told hI.rest)
      rintro a' w' ⟨v, rfl, hv, ht, hst⟩
      rw [hdst i o hlt ho]
      have hsl : slot i < a.tmps.size := by rw [hI.size]; exact hs i
      refine ⟨hc', fun _ => ⟨hI.defers, by rw [← hI.size]; exact Array.size_setIfInBounds .., fun j hj => ?_, fun j hj hfj => ?_, ht, fun j hj hfj => ?_⟩, fun h => ?_⟩
      · show (a.tmps.setIfInBounds (slot i) v).getD j undef = _
        rw [getD_set _ _ _ _ hsl, if_neg (Ne.symm (hj i hlt))]
        exact hI.rest j hj
      · show (a.tmps.setIfInBounds (slot i) v).getD (slot j) undef = _
        have hji : j ≠ i := fun e => by simp [e] at hfj
        rw [getD_set _ _ _ _ hsl, if_neg (fun e => hji (hinj j i hj hlt e))]
        exact hI.yet j hj (by simpa [hji] using hfj)
      · show F j w' ((a.tmps.setIfInBounds (slot i) v).getD (slot j) undef)
        rw [getD_set _ _ _ _ hsl]
        by_cases hji : j = i
        · subst hji; rw [if_pos rfl]; exact hv
        · rw [if_neg (fun e => hji (hinj j i hj hlt e))]
          have h2 : f j = true := by simpa [hji] using hfj
          exact hst j _ h2 (hI.have_ j hj h2)
      · have h' : (if m = i then true else f m) = true := h
        rw [if_neg (Ne.symm him), hfm] at h'; cases h'
  · rintro f a w hall ⟨_, _, h3⟩
    exact h3 (hall m (by omega))
end
end Go.Proofs.YtgfammlmbjmkoaaGreatDoor

/- Steps of drawn regions: an operation that leaves the world, a call, a call of two. -/
namespace Go.Proofs.YtgfammlmbjmkoaaGreatDoor
set_option linter.unusedVariables false
set_option linter.unusedSimpArgs false
open Go.RowKit
theorem rg_ev {a : Act} {t : Nat} {v : Value} (h : a.tmps.getD t undef = v) : a.tmps[t]?.getD undef = v := by rw [← Array.getD_eq_getD_getElem?]; exact h
theorem rg_same {P : Program} {o : Oper} {a : Act} {w : World} {Q : Exit → Act → World → Prop} {F : World → Value → Prop} (v : Value) (h : o.wp P a w (fun a' w' => a' = a.put o.dst v ∧ w' = w) Q) (hF : F w v) :
    o.wp P a w (fun a' w' => ∃ v, a' = a.put o.dst v ∧ F w' v ∧ Below w.heap.size w w') Q := by
  refine Oper.wp_mono ?_ h
  rintro a' w' ⟨rfl, rfl⟩
  exact ⟨v, rfl, hF, Below.refl _ _⟩
theorem rg_same2 {P : Program} {o : Oper} {a : Act} {w : World} {Q : Exit → Act → World → Prop} {F : Nat → World → Value → Prop} {T : (Nat → Bool) → World → Prop} {f : Nat → Bool} {i : Nat} (v : Value)
    (h : o.wp P a w (fun a' w' => a' = a.put o.dst v ∧ w' = w) Q) (hF : F i w v) (hT : T (fun j => if j = i then true else f j) w) :
    o.wp P a w (fun a' w' => ∃ v, a' = a.put o.dst v ∧ F i w' v ∧ T (fun j => if j = i then true else f j) w' ∧ ∀ j v', f j = true → F j w v' → F j w' v') Q := by
  refine Oper.wp_mono ?_ h
  rintro a' w' ⟨rfl, rfl⟩
  exact ⟨v, rfl, hF, hT, fun _ _ _ h => h⟩
theorem rg_call {P : Program} {o : Oper} {a : Act} {w : World} {K : Act → World → Prop} {Q : Exit → Act → World → Prop} (t k : Nat) (ty : Array TypeId) (v : Value) (R : Ending → World → Prop) (ho : o.op = Op.call { callee := .value (.func k), args := #[.tmp t], argTypes := ty }) (hv : a.tmps.getD t undef = v)
    (eg : ∀ args w, (callFunc k args).run P w = .ok (.enter k args) w) (hc : Calls P k #[v] w R) (hR : ∀ e w', R e w' → ∃ r, e = .returned r ∧ K (a.put o.dst r) w') : o.wp P a w K Q := by
  have e := rg_ev hv
  have e2 : a.eval (.func k) = .func (.func k) #[] #[] := rfl
  unfold Oper.wp execOp
  simp [ho, resolve, invoke, e2, e, eg, go_sem]
  refine hc.mono ?_
  intro z w' hz
  obtain ⟨r, rfl, hk⟩ := hR z w' hz
  exact hk
theorem rg_callc {P : Program} {o : Oper} {a : Act} {w : World} {K : Act → World → Prop} {Q : Exit → Act → World → Prop} (t k : Nat) (ty : Array TypeId) (v c : Value) (R : Ending → World → Prop) (ho : o.op = Op.call { callee := .value (.func k), args := #[.tmp t, .const c], argTypes := ty }) (hv : a.tmps.getD t undef = v)
    (eg : ∀ args w, (callFunc k args).run P w = .ok (.enter k args) w) (hc : Calls P k #[v, c] w R) (hR : ∀ e w', R e w' → ∃ r, e = .returned r ∧ K (a.put o.dst r) w') : o.wp P a w K Q := by
  have e := rg_ev hv
  have e2 : a.eval (.func k) = .func (.func k) #[] #[] := rfl
  have e3 : a.eval (.const c) = c := rfl
  unfold Oper.wp execOp
  simp [ho, resolve, invoke, e2, e3, e, eg, go_sem]
  refine hc.mono ?_
  intro z w' hz
  obtain ⟨r, rfl, hk⟩ := hR z w' hz
  exact hk
theorem rg_call2 {P : Program} {o : Oper} {a : Act} {w : World} {K : Act → World → Prop} {Q : Exit → Act → World → Prop} (s t k : Nat) (ty : Array TypeId) (u v : Value) (R : Ending → World → Prop) (ho : o.op = Op.call { callee := .value (.func k), args := #[.tmp s, .tmp t], argTypes := ty }) (hu : a.tmps.getD s undef = u) (hv : a.tmps.getD t undef = v)
    (eg : ∀ args w, (callFunc k args).run P w = .ok (.enter k args) w) (hc : Calls P k #[u, v] w R) (hR : ∀ e w', R e w' → ∃ r, e = .returned r ∧ K (a.put o.dst r) w') : o.wp P a w K Q := by
  have e := rg_ev hv
  have e1 := rg_ev hu
  have e2 : a.eval (.func k) = .func (.func k) #[] #[] := rfl
  unfold Oper.wp execOp
  simp [ho, resolve, invoke, e2, e, e1, eg, go_sem]
  refine hc.mono ?_
  intro z w' hz
  obtain ⟨r, rfl, hk⟩ := hR z w' hz
  exact hk
end Go.Proofs.YtgfammlmbjmkoaaGreatDoor

/- A region that draws its order and has guarded operations: by what its slots hold; which operations stand is decided ahead; a guard may hang on an operation that does not stand. -/
namespace Go.Proofs.YtgfammlmbjmkoaaGreatDoor
set_option linter.unusedVariables false
set_option linter.unusedSimpArgs false
open Go.RowKit
set_option maxHeartbeats 2000000
section
variable {P : Program} {ops : Array Oper} {Q : Exit → Act → World → Prop}
theorem region_slotsH {id : Nat} {a0 : Act} {w0 : World} (slot : Nat → Nat) (F : Nat → World → Value → Prop) (sel : Nat → Bool) (hm : P.follows .mixedOrders = true) (hb : backG .any ops = true)
    (hs : ∀ i, slot i < a0.tmps.size) (hinj : ∀ i j, i < ops.size → j < ops.size → slot i = slot j → i = j) (hF : ∀ i w w' v, F i w v → Below w.heap.size w w' → F i w' v)
    (hdst : ∀ i o, ops[i]? = some o → o.dst = some (slot i))
    (hgu : ∀ i o g b, ops[i]? = some o → o.guard = some (g, b) → ∀ w v, F g w v → v = .bool (if sel i then b else !b) ∨ (sel i = false ∧ v = undef))
    (hng : ∀ i o, ops[i]? = some o → o.guard = none → sel i = true)
    (hskip : ∀ i w, i < ops.size → sel i = false → F i w undef)
    (hstep : ∀ (f : Nat → Bool) (a : Act) (w : World) (i : Nat) (o : Oper), ops[i]? = some o → sel i = true → (∀ e ∈ o.after, Region.binds .any e = true → F e.on w (a.tmps.getD (slot e.on) undef)) → Below w0.heap.size w0 w →
      (∀ j, (∀ i, i < ops.size → slot i ≠ j) → a.tmps.getD j undef = a0.tmps.getD j undef) → o.wp P a w (fun a' w' => ∃ v, a' = a.put o.dst v ∧ F i w' v ∧ Below w.heap.size w w') Q)
    (hdone : ∀ (vs : Nat → Value) (w : World), Below w0.heap.size w0 w → (∀ i, i < ops.size → F i w (vs i)) → Q .normal { a0 with tmps := fillN slot vs ops.size a0.tmps } w) : (Code.region id ops true).wp P Q a0 w0 := by
  refine region_invG hm hb (Stand a0 w0 ops.size slot F) ⟨rfl, rfl, fun _ _ => rfl, ⟨rfl, rfl, rfl, Nat.le_refl _, fun _ _ => rfl⟩, fun _ _ h => by cases h⟩ ?_ ?_
  · intro f a w i o ho hf hpre hI
    have hi := (Array.getElem?_eq_some_iff.1 ho).1
    have hsl : slot i < a.tmps.size := by rw [hI.size]; exact hs i
    have hput : ∀ w' v, F i w' v → Below w.heap.size w w' → Stand a0 w0 ops.size slot F (fun j => if j = i then true else f j) (a.put o.dst v) w' := by
      intro w' v hv hbw
      rw [hdst i o ho]
      refine ⟨hI.defers, by rw [← hI.size]; exact Array.size_setIfInBounds .., fun j hj => ?_, hI.bel.trans (hbw.mono hI.bel.size), fun j hj hfj => ?_⟩
      · show (a.tmps.setIfInBounds (slot i) v).getD j undef = _
        rw [getD_set _ _ _ _ hsl, if_neg (Ne.symm (hj i hi))]
        exact hI.rest j hj
      · show F j w' ((a.tmps.setIfInBounds (slot i) v).getD (slot j) undef)
        rw [getD_set _ _ _ _ hsl]
        by_cases hji : j = i
        · subst hji; rw [if_pos rfl]; exact hv
        · rw [if_neg (fun e => hji (hinj j i hj hi e))]
          have h2 : f j = true := by simpa [hji] using hfj
          exact hF j w w' _ (hI.have_ j hj h2) hbw
    have hwant : Region.wanted o (yielded ops a.tmps) = sel i := by
      unfold Region.wanted
      cases hg : o.guard with
      | none => exact (hng i o ho hg).symm
      | some gb =>
        obtain ⟨g, b⟩ := gb
        obtain ⟨e, he, heg, hbd⟩ := (back_ofG hb ho).1 g b hg
        have hgi : g < i := by rw [← heg]; exact (back_ofG hb ho).2 e he hbd
        have hfg : f g = true := by rw [← heg]; exact hpre e he hbd
        have hv := hgu i o g b ho hg w _ (hI.have_ g (by omega) hfg)
        have hsg : slot g < a.tmps.size := by rw [hI.size]; exact hs g
        have hy : yielded ops a.tmps g = (match a.tmps.getD (slot g) undef with | .bool x => some x | _ => none) := by
          unfold yielded
          rw [Array.getElem?_eq_getElem (show g < ops.size by omega), Option.bind_some, hdst g _ (Array.getElem?_eq_getElem (by omega)), Option.bind_some, Array.getElem?_eq_getElem hsg]
          rw [Array.getD_eq_getD_getElem?, Array.getElem?_eq_getElem hsg, Option.getD_some]
          cases a.tmps[slot g] <;> rfl
        show (yielded ops a.tmps g == some b) = sel i
        rw [hy]
        rcases hv with hv | ⟨hsi, hv⟩
        · rw [hv]
          cases sel i <;> cases b <;> rfl
        · rw [hv, hsi]; rfl
    rw [hwant]
    cases hsel : sel i with
    | true =>
      rw [if_pos rfl]
      refine Oper.wp_mono ?_ (hstep f a w i o ho hsel (fun e he hbd => hI.have_ e.on (by have := (back_ofG hb ho).2 e he hbd; omega) (hpre e he hbd)) hI.bel hI.rest)
      rintro a' w' ⟨v, rfl, hv, hbw⟩
      exact hput w' v hv hbw
    | false =>
      rw [if_neg (by decide)]
      exact hput w undef (hskip i w hi hsel) (Below.refl _ _)
  · intro f a w hall hI
    have e : a = { a0 with tmps := fillN slot (fun i => a.tmps.getD (slot i) undef) ops.size a0.tmps } := by
      have h1 : a.tmps = fillN slot (fun i => a.tmps.getD (slot i) undef) ops.size a0.tmps := by
        refine ext_getD (by rw [fillN_size, hI.size]) (fun j => ?_)
        by_cases hj : ∃ i, i < ops.size ∧ slot i = j
        · obtain ⟨i, hi, rfl⟩ := hj
          rw [fillN_at slot _ _ hs _ hinj i hi]
        · rw [fillN_get slot _ _ hs _ j (fun i hi e => hj ⟨i, hi, e⟩), hI.rest j (fun i hi e => hj ⟨i, hi, e⟩)]
      obtain ⟨t, d⟩ := a
      have h2 := hI.defers
      simp only at h1 h2
      rw [← h1, h2]
    rw [e]
    exact hdone _ w hI.bel (fun i hi => hI.have_ i hi (hall i hi))
end
end Go.Proofs.YtgfammlmbjmkoaaGreatDoor

/- route: word. -/
namespace Go.Proofs.YtgfammlmbjmkoaaGreatDoor
set_option linter.unusedVariables false
set_option linter.unusedSimpArgs false
open Go.RowKit
set_option maxHeartbeats 4000000
set_option maxRecDepth 100000
/-- how word ends -/
def wdEnd : Option (List UInt8) → Ending
  | some l => .returned (sv l)
  | none => rtNo
theorem tx_join (o : List UInt8) (eb : ByteArray) (h : eb.data.toList = o) : (Value.string ((⟨#[47]⟩ : ByteArray) ++ eb)) = sv (47 :: o) := by
  unfold sv
  congr 1
  apply ByteArray.ext
  simp [ByteArray.data_append, ← h]
theorem rt_call0 {P : Program} {o : Oper} {a : Act} {w : World} {K : Act → World → Prop} {Q : Exit → Act → World → Prop} (k : Nat) (ty : Array TypeId) (R : Ending → World → Prop) (ho : o.op = Op.call { callee := .value (.func k), args := #[], argTypes := ty })
    (eg : ∀ args w, (callFunc k args).run P w = .ok (.enter k args) w) (hc : Calls P k #[] w R) (hR : ∀ e w', R e w' → ∃ r, e = .returned r ∧ K (a.put o.dst r) w') : o.wp P a w K Q := by
  have e2 : a.eval (.func k) = .func (.func k) #[] #[] := rfl
  unfold Oper.wp execOp
  simp [ho, resolve, invoke, e2, eg, go_sem]
  refine hc.mono ?_
  intro z w' hz
  obtain ⟨r, rfl, hk⟩ := hR z w' hz
  exact hk
/-- a call that gives up -/
theorem rt_callno {P : Program} {o : Oper} {a : Act} {w : World} {K : Act → World → Prop} {Q : Exit → Act → World → Prop} (t k : Nat) (ty : Array TypeId) (v c : Value) (ch : List PanicEntry) (R : Ending → World → Prop) (ho : o.op = Op.call { callee := .value (.func k), args := #[.tmp t, .const c], argTypes := ty }) (hv : a.tmps.getD t undef = v)
    (eg : ∀ args w, (callFunc k args).run P w = .ok (.enter k args) w) (hc : Calls P k #[v, c] w R) (hR : ∀ e w', R e w' → e = .panicked ch ∧ Q (.panic ch) a w') : o.wp P a w K Q := by
  have e := rg_ev hv
  have e2 : a.eval (.func k) = .func (.func k) #[] #[] := rfl
  have e3 : a.eval (.const c) = c := rfl
  unfold Oper.wp execOp
  simp [ho, resolve, invoke, e2, e3, e, eg, go_sem]
  refine hc.mono ?_
  intro z w' hz
  obtain ⟨rfl, hk⟩ := hR z w' hz
  exact hk
def wdF (k : Int) (tb : ByteArray) (d : Bool) : Nat → World → Value → Prop
  | 0, _, v => v = .agg #[.int .i64 k, .string tb]
  | 1, w, v => ∃ b, v = .map (some b) ∧ w.heap[b]? = some sgnMap
  | 2, _, v => v = .agg #[.int .i64 3, .string ⟨#[]⟩]
  | 3, _, v => v = .bool d
  | _, _, _ => False
theorem wdF_below {k : Int} {tb : ByteArray} {d : Bool} (j : Nat) (w w' : World) (v : Value) (h : wdF k tb d j w v) (hb : Below w.heap.size w w') : wdF k tb d j w' v := by
  match j, h with
  | 0, h | 2, h | 3, h => exact h
  | 1, ⟨b, h1, h2⟩ => exact ⟨b, h1, (hb.block b (Array.getElem?_eq_some_iff.1 h2).1).trans h2⟩
  | n + 4, h => exact h.elim
def wdT (w0 : World) (_ : Nat → Bool) (w : World) : Prop := Below w0.heap.size w0 w
theorem look_one (W : World) (b : Nat) (h : W.heap[b]? = some sgnMap) : (Instr.lookup 113 (.map (some b)) (.string ⟨#[42]⟩) false).run Tryz.prog W = .ok (.agg #[.int .i64 2, .string ⟨#[]⟩]) W := map_look W b _ _ ⟨#[42]⟩ 0 _ h rfl false
theorem look_rest (W : World) (b : Nat) (h : W.heap[b]? = some sgnMap) : (Instr.lookup 113 (.map (some b)) (.string ⟨#[42, 42]⟩) false).run Tryz.prog W = .ok (.agg #[.int .i64 3, .string ⟨#[]⟩]) W := map_look W b _ _ ⟨#[42, 42]⟩ 1 _ h rfl false
theorem rt_word (k : Int) (tb : ByteArray) (w : World) (hs : tb.size ≤ 100000) (ht : Tabs w) :
    Calls Tryz.prog 43 #[.agg #[.int .i64 k, .string tb]] w fun e w' => e = wdEnd (Ro.word (k, tb.data.toList)) ∧ Below w.heap.size w w' := by
  have HE := Lib.hid (part_eq k 2 tb ⟨#[]⟩)
  have HE3 := Lib.hid (part_eq k 3 tb ⟨#[]⟩)
  have KE := Lib.hid (fun W (t : Tabs W) => tg_Encode tb W hs t)
  have HT := Lib.hid ht
  clear ht
  obtain ⟨R, hR⟩ : ∃ R, Ro.word (k, tb.data.toList) = R := ⟨_, rfl⟩
  rw [hR]
  have HR := Lib.hid hR
  clear hR
  obtain ⟨W1, hW1⟩ : ∃ W, w.alloc (.cells #[.int .i64 k, .string tb] 35) = W := ⟨_, rfl⟩
  have HB1 := Lib.hid (show Below w.heap.size w W1 by rw [← hW1]; exact (Below.refl _ _).alloc (Nat.le_refl _) _)
  have HC1 := Lib.hid (show W1.heap[w.heap.size]? = some (.cells #[.int .i64 k, .string tb] 35 (0, 0)) by rw [← hW1]; exact World.alloc_heap_new _ _)
  have HZ1 := Lib.hid (show W1.heap.size = w.heap.size + 1 by rw [← hW1]; simp)
  have c0 : W1.cell? ⟨w.heap.size, 0, none⟩ = some (.int .i64 k) := by simp [World.cell?, HC1.out]
  have c1 : W1.cell? ⟨w.heap.size, 1, none⟩ = some (.string tb) := by simp [World.cell?, HC1.out]
  have HW1 := Lib.hid hW1
  clear hW1
  by_cases h1 : k = 1
  · subst h1
    have HRY := Lib.hid (show R = some (47 :: Gt.enc tb.data.toList) by rw [← HR.out]; rfl)
    go_enter Tryz.func43, Tryz.ntmps43
    go_wp2_with fail
    rw [HW1.out]
    go_wp2_with fail
    refine (KE.out _ (HT.out.below HB1.out)).mono ?_
    rintro e w2 ⟨rfl, hb2⟩
    obtain ⟨eb, heb⟩ : ∃ z : ByteArray, (⟨(Gt.enc tb.data.toList).toArray⟩ : ByteArray) = z := ⟨_, rfl⟩
    have HEB := Lib.hid (show eb.data.toList = Gt.enc tb.data.toList by rw [← heb])
    rw [heb]
    have hes : eb.size ≤ 300000 := by
      have h1 := (Gt.enc_length tb.data.toList).2
      have h2 : eb.data.toList.length = eb.size := rfl
      have h3 : tb.data.toList.length = tb.size := rfl
      rw [HEB.out] at h2; omega
    clear heb
    have HB2 := Lib.hid (HB1.out.trans (hb2.mono HB1.out.size))
    clear hb2
    go_wp2_with fail
    go_ret
    exact ⟨by rw [HRY.out]; exact congrArg Ending.returned (tx_join _ _ HEB.out), HB2.out⟩
  · have hn1 : ((k : Int) == 1) = false := beq_eq_false_iff_ne.2 h1
    have HN1 := Lib.hid h1
    clear h1
    go_enter Tryz.func43, Tryz.ntmps43
    go_wp2_with fail
    rw [HW1.out]
    go_wp2_with fail
    obtain ⟨d1, hd1⟩ : ∃ d, decide (((k, tb.data.toList) : Ro.Pt) = (2, (⟨#[]⟩ : ByteArray).data.toList)) = d := ⟨_, rfl⟩
    rw [hd1] at HE
    have HD1 := Lib.hid hd1
    clear hd1
    cases d1 with
    | true =>
      have HRY := Lib.hid (show R = some [47, 42] by
        rw [← HR.out]; unfold Ro.word; rw [if_neg HN1.out, if_pos (of_decide_eq_true HD1.out)])
      go_region_with (go_at_call 71; refine (rt_signs _).mono ?_; rintro e w2 ⟨rfl, hm, hb2⟩; have hl := look_one w2 W1.heap.size hm; have he := HE.out; have d0 := (hb2.cell (p := ⟨w.heap.size, 0, none⟩) (by show w.heap.size < W1.heap.size; rw [HZ1.out]; omega)).trans c0; have d1 := (hb2.cell (p := ⟨w.heap.size, 1, none⟩) (by show w.heap.size < W1.heap.size; rw [HZ1.out]; omega)).trans c1)
      all_goals
        go_wp2_with fail
        go_ret
        exact ⟨by rw [HRY.out]; rfl, HB1.out.trans ((Below.drew (Below.refl _ _)).trans (hb2.mono (by show w.heap.size ≤ W1.heap.size; rw [HZ1.out]; omega)))⟩
    | false =>
      obtain ⟨d2, hd2⟩ : ∃ d, decide (((k, tb.data.toList) : Ro.Pt) = (3, (⟨#[]⟩ : ByteArray).data.toList)) = d := ⟨_, rfl⟩
      rw [hd2] at HE3
      have HD2 := Lib.hid hd2
      clear hd2
      have HRR := Lib.hid (show R = if d2 = true then some [47, 42, 42] else none by
        rw [← HR.out]; unfold Ro.word; rw [if_neg HN1.out, if_neg (of_decide_eq_false HD1.out)]
        cases d2 with
        | true => rw [if_pos (of_decide_eq_true HD2.out), if_pos rfl]
        | false => rw [if_neg (of_decide_eq_false HD2.out)]; rfl)
      go_region_with (go_at_call 71; refine (rt_signs _).mono ?_; rintro e w2 ⟨rfl, hm, hb2⟩; have hl := look_one w2 W1.heap.size hm; have he := HE.out; have d0 := (hb2.cell (p := ⟨w.heap.size, 0, none⟩) (by show w.heap.size < W1.heap.size; rw [HZ1.out]; omega)).trans c0; have d1 := (hb2.cell (p := ⟨w.heap.size, 1, none⟩) (by show w.heap.size < W1.heap.size; rw [HZ1.out]; omega)).trans c1)
      all_goals
        have HB2 := Lib.hid (HB1.out.trans ((Below.drew (Below.refl _ _)).trans (hb2.mono (by show w.heap.size ≤ W1.heap.size; rw [HZ1.out]; omega))))
        have HZ2 := Lib.hid (show w.heap.size < w2.heap.size from Nat.lt_of_lt_of_le (by rw [HZ1.out]; omega) (show W1.heap.size ≤ w2.heap.size from hb2.size))
        clear hm hb2 hl he
        cases d2 with
        | true =>
          go_wp2_with fail
          go_region_with (first | (go_at_call 71; refine (rt_signs _).mono ?_; rintro e w3 ⟨rfl, hm, hb3⟩; have hl := look_rest w3 w2.heap.size hm; have he := HE3.out; have e0 := (hb3.cell (p := ⟨w.heap.size, 0, none⟩) (by show w.heap.size < w2.heap.size; exact HZ2.out)).trans d0; have e1 := (hb3.cell (p := ⟨w.heap.size, 1, none⟩) (by show w.heap.size < w2.heap.size; exact HZ2.out)).trans d1) | (go_at_call 44; refine (rt_must 360 _).mono ?_; rintro e w4 ⟨rfl, hw4⟩; subst w4))
          all_goals
            go_wp2_with fail
            go_ret
            exact ⟨by rw [HRR.out]; rfl, HB2.out.trans ((Below.drew (Below.refl _ _)).trans (hb3.mono (by show w.heap.size ≤ w2.heap.size; exact Nat.le_of_lt HZ2.out)))⟩
        | false =>
          go_wp2_with fail
          refine region_last2 4 (fun i => 16 + min i 3) (wdF k tb false) (wdT w2) (by kernel_rfl) (by kernel_rfl) rfl (by kernel_rfl) (fun i => by show 16 + min i 3 < _; simp [Act.put]; omega) (fun i j hi hj h => by have h : 16 + min i 3 = 16 + min j 3 := h; omega) ?start ?dst ?step ?last
          case dst =>
            intro i o hi ho
            match i, hi, ho with
            | 0, _, ho => cases ho; rfl
            | 1, _, ho => cases ho; rfl
            | 2, _, ho => cases ho; rfl
            | 3, _, ho => cases ho; rfl
            | n + 4, hi, _ => exact absurd hi (by omega)
          case step =>
            intro f a' W i o hib ho hfi hpre hT hrest
            match i, hib, ho with
            | 0, _, ho =>
              cases ho
              have q1 : a'.tmps.getD 1 undef = .pointer (some ⟨w.heap.size, 0, none⟩) := (hrest 1 (by intro i hi; show 16 + min i 3 ≠ _; omega))
              have x0 := (hT.cell (p := ⟨w.heap.size, 0, none⟩) HZ2.out).trans d0
              have x1 := (hT.cell (p := ⟨w.heap.size, 1, none⟩) HZ2.out).trans d1
              have e1 := rg_ev q1
              exact rg_same2 (.agg #[.int .i64 k, .string tb]) (by unfold Oper.wp execOp; go_simp; all_goals ((try simp only [e1]); (try go_simp); (try rw [if_pos (by omega)]); (try rw [if_neg (by omega)]); first | done | rfl | exact ⟨rfl, rfl⟩ | trivial)) rfl (hT)
            | 1, _, ho =>
              cases ho
              exact rt_call0 71 _ _ rfl (enters_of Tryz.func71 (by kernel_rfl) rfl) (rt_signs W) (fun e w' h => ⟨_, h.1, _, rfl, ⟨_, rfl, h.2.1⟩, hT.trans (h.2.2.mono hT.size), fun j v' _ hF => wdF_below j W w' v' hF h.2.2⟩)
            | 2, _, ho =>
              cases ho
              have f17 := (hpre { on := 1, ground := .data } (by simp) rfl).1
              have h17 := (hpre { on := 1, ground := .data } (by simp) rfl).2
              obtain ⟨b, hb, hm⟩ := h17
              have e17 := rg_ev (show a'.tmps.getD 17 undef = .map (some b) from hb)
              have hl := look_rest W b hm
              exact rg_same2 (.agg #[.int .i64 3, .string ⟨#[]⟩]) (by unfold Oper.wp execOp; go_simp; all_goals ((try simp only [e17, hl]); (try go_simp); first | done | rfl | exact ⟨rfl, rfl⟩ | trivial)) rfl hT
            | 3, _, ho =>
              cases ho
              have f16 := (hpre { on := 0, ground := .data } (by simp) rfl).1
              have q16 : a'.tmps.getD 16 undef = .agg #[.int .i64 k, .string tb] := (hpre { on := 0, ground := .data } (by simp) rfl).2
              have f18 := (hpre { on := 2, ground := .data } (by simp) rfl).1
              have q18 : a'.tmps.getD 18 undef = .agg #[.int .i64 3, .string ⟨#[]⟩] := (hpre { on := 2, ground := .data } (by simp) rfl).2
              have he := HE3.out
              have e16 := rg_ev q16
              have e18 := rg_ev q18
              exact rg_same2 (.bool false) (by unfold Oper.wp execOp; go_simp; all_goals ((try simp only [e16, e18]); (try go_simp); (try rw [if_pos (by omega)]); (try rw [if_neg (by omega)]); first | done | rfl | exact ⟨rfl, rfl⟩ | trivial)) rfl (hT)
            | n + 4, hib, _ => exact absurd hib (by omega)
          case last =>
            intro f vs W oL ho hall hT hvs
            have hopL : oL.op = Op.call { callee := .value (.func 44), args := #[.tmp 19, .const (.int .i64 360)], argTypes := #[4, 24] } := by cases ho; rfl
            have hdsL : oL.dst = some 20 := by cases ho; rfl
            clear ho hall
            have v0 : vs 0 = .agg #[.int .i64 k, .string tb] := hvs 0 (by decide)
            obtain ⟨y1, v1, w1⟩ : ∃ z, vs 1 = z ∧ wdF k tb false 1 W z := ⟨_, rfl, hvs 1 (by decide)⟩
            have v2 : vs 2 = .agg #[.int .i64 3, .string ⟨#[]⟩] := hvs 2 (by decide)
            have v3 : vs 3 = .bool false := hvs 3 (by decide)
            simp only [fillN, List.size_toArray, List.length_cons, List.length_nil, Nat.reduceAdd, show List.range 4 = [0, 1, 2, 3] from rfl, List.foldl_cons, List.foldl_nil, show 16 + min 0 3 = 16 from rfl, show 16 + min 1 3 = 17 from rfl, show 16 + min 2 3 = 18 from rfl, show 16 + min 3 3 = 19 from rfl, v0, v1, v2, v3]
            clear v0 v1 v2 v3 hvs
            refine rt_callno 19 44 #[4, 24] (.bool false) (.int .i64 360) [{ v := errno 360, recovered := false }] _ hopL rfl (enters_of Tryz.func44 (by kernel_rfl) rfl) (rt_must_no 360 W) ?_
            rintro e w' ⟨rfl, rfl⟩
            exact ⟨rfl, rfl, by rw [HRR.out]; rfl, HB2.out.trans (hT.mono (Nat.le_of_lt HZ2.out))⟩
          case start => exact (Below.drew (Below.refl _ _))
end Go.Proofs.YtgfammlmbjmkoaaGreatDoor

/- Runes: what a byte above 127 decodes to, iterators over strings, strings.IndexRune of "/\x00". -/
namespace Go.Proofs.YtgfammlmbjmkoaaGreatDoor
set_option linter.unusedVariables false
set_option linter.unusedSimpArgs false
open Go.RowKit Go.Shelf
set_option maxHeartbeats 2000000
set_option maxRecDepth 100000
theorem get_at (s : ByteArray) (i : Nat) (h : i < s.size) : s.get! i = s[i]'h := by
  simp [ByteArray.get!, getElem!_pos, h]
  rfl
theorem decodeN_hi (n b0 b1 b2 b3 : Nat) (hn : 1 ≤ n) (h0 : 128 ≤ b0) (h0' : b0 < 256) (h1 : b1 < 256) (h2 : b2 < 256) (h3 : b3 < 256) :
    128 ≤ (Lib.decodeN n b0 b1 b2 b3).1 ∧ (Lib.decodeN n b0 b1 b2 b3).1 ≤ 1114111 ∧ 1 ≤ (Lib.decodeN n b0 b1 b2 b3).2 ∧ (Lib.decodeN n b0 b1 b2 b3).2 ≤ n ∧ (Lib.decodeN n b0 b1 b2 b3).2 ≤ 4 ∧
      (2 ≤ (Lib.decodeN n b0 b1 b2 b3).2 → 128 ≤ b1) ∧ (3 ≤ (Lib.decodeN n b0 b1 b2 b3).2 → 128 ≤ b2) ∧ (4 ≤ (Lib.decodeN n b0 b1 b2 b3).2 → 128 ≤ b3) := by
  unfold Lib.decodeN
  repeat' split
  all_goals (simp only; refine ⟨?_, ?_, ?_, ?_, ?_, ?_, ?_, ?_⟩ <;> first | omega | (intro; omega))
theorem decode_hi (s : ByteArray) (i : Nat) (h : i < s.size) (hb : 128 ≤ (s[i]'h).toNat) :
    ∃ r k : Nat, Utf8.decode s i = (r, k) ∧ 128 ≤ r ∧ r ≤ 1114111 ∧ 1 ≤ k ∧ i + k ≤ s.size ∧ ∀ j, i ≤ j → j < i + k → ∀ hj : j < s.size, 128 ≤ (s[j]'hj).toNat := by
  have g0 := get_at s i h
  have hd := decodeN_hi (s.size - i) (s.get! i).toNat (s.get! (i + 1)).toNat (s.get! (i + 2)).toNat (s.get! (i + 3)).toNat (by omega) (by rw [g0]; exact hb) (UInt8.toNat_lt _) (UInt8.toNat_lt _) (UInt8.toNat_lt _) (UInt8.toNat_lt _)
  rw [← Lib.decode_at] at hd
  refine ⟨(Utf8.decode s i).1, (Utf8.decode s i).2, rfl, hd.1, hd.2.1, hd.2.2.1, by omega, ?_⟩
  intro j hj hk hs
  obtain ⟨_, _, _, h4, h5, hb1, hb2, hb3⟩ := hd
  rcases (show j = i ∨ j = i + 1 ∨ j = i + 2 ∨ j = i + 3 by omega) with e | e | e | e <;> subst e
  · exact hb
  · have := hb1 (by omega); rwa [get_at _ _ hs] at this
  · have := hb2 (by omega); rwa [get_at _ _ hs] at this
  · have := hb3 (by omega); rwa [get_at _ _ hs] at this
theorem encode_hi (r : Int) (h : 128 ≤ r) : 2 ≤ (Utf8.encode r).size ∧ (Utf8.encode r).size ≤ 4 ∧ 128 ≤ ((Utf8.encode r).get! 1).toNat := by
  unfold Utf8.encode
  have hc : 128 ≤ (if Utf8.valid r then r.toNat else Utf8.runeError) := by
    split
    · omega
    · decide
  generalize (if Utf8.valid r then r.toNat else Utf8.runeError) = c at hc
  simp only
  repeat' split
  all_goals first
    | (exfalso; omega)
    | (refine ⟨by simp [ByteArray.size], by simp [ByteArray.size], ?_⟩; simp only [ByteArray.get!]; simp; omega)
/-- an iterator over a string, set -/
def setIter (w : World) (b : Nat) (s : ByteArray) (p : Nat) : World := { w with heap := w.heap.setIfInBounds b (.stringIter s p) }
theorem setIter_at {w : World} {b : Nat} {s t : ByteArray} {p q : Nat} (h : w.heap[b]? = some (.stringIter t q)) : (setIter w b s p).heap[b]? = some (.stringIter s p) := by
  have hb : b < w.heap.size := by
    rcases Nat.lt_or_ge b w.heap.size with h' | h'
    · exact h'
    · rw [Array.getElem?_eq_none h'] at h; simp at h
  simp [setIter, hb]
theorem setIter_below (w : World) (b B : Nat) (s : ByteArray) (p : Nat) (hB : B ≤ b) : Below B w (setIter w b s p) :=
  ⟨rfl, rfl, rfl, by simp [setIter], fun k hk => by simp only [setIter]; rw [Array.getElem?_setIfInBounds_ne]; omega⟩
theorem next_at (w : World) (b : Nat) (s : ByteArray) (pos : Nat) (ty : TypeId) (hb : w.heap[b]? = some (.stringIter s pos)) (h : pos < s.size) :
    (Instr.next (.pointer (some ⟨b, 0, none⟩)) true ty).run Tryz.prog w = .ok (.tuple #[.bool true, .int .i64 pos, .int .i32 (Utf8.decode s pos).1]) (setIter w b s (pos + (Utf8.decode s pos).2)) := by
  simp only [Instr.next, getObj, setObj, Sem.run_bind, Sem.run, hb, Result.andThen, h, if_true]
  simp [goInt, Sem.run, hb, setIter]
theorem next_over (w : World) (b : Nat) (s : ByteArray) (pos : Nat) (ty : TypeId) (hb : w.heap[b]? = some (.stringIter s pos)) (h : ¬ pos < s.size) :
    (Instr.next (.pointer (some ⟨b, 0, none⟩)) true ty).run Tryz.prog w = .ok (.tuple #[.bool false]) w := by
  simp [Instr.next, getObj, Sem.run, hb, h]
def iterPos (w : World) (b : Nat) : Nat := match w.heap[b]? with
  | some (.stringIter _ p) => p
  | _ => 0
theorem iterPos_is {w : World} {b : Nat} {s : ByteArray} {p : Nat} (h : w.heap[b]? = some (.stringIter s p)) : iterPos w b = p := by unfold iterPos; rw [h]
theorem ok_decode (s : ByteArray) (k : Nat) (h : k < s.size) : ∃ r n : Nat, Utf8.decode s k = (r, n) ∧ ((Gt.okB (s.data.toList[k]'h) = true ∧ n = 1 ∧ 33 ≤ r ∧ r ≤ 126 ∧ r ≠ 35) ∨ (Gt.okB (s.data.toList[k]'h) = false ∧ ((r < 33 ∨ 126 < r) ∨ r = 35))) := by
  have hc : s.data.toList[k]'h = s[k]'h := rfl
  rw [hc]
  by_cases ha : (s[k]'h).toNat < 128
  · refine ⟨_, _, decode_ascii s k h ha, ?_⟩
    cases hok : Gt.okB (s[k]'h) with
    | true =>
      left
      unfold Gt.okB at hok
      simp at hok
      refine ⟨rfl, rfl, hok.1.1, hok.1.2, fun e => hok.2 (UInt8.toNat_inj.1 e)⟩
    | false =>
      right
      refine ⟨rfl, ?_⟩
      unfold Gt.okB at hok
      simp at hok
      by_cases h1 : 33 ≤ (s[k]'h).toNat
      · by_cases h2 : (s[k]'h).toNat ≤ 126
        · right; rw [hok h1 h2]; rfl
        · left; right; omega
      · left; left; omega
  · obtain ⟨r, n, hd, h1, _⟩ := decode_hi s k h (by omega)
    refine ⟨r, n, hd, .inr ⟨?_, .inl (.inr (by omega))⟩⟩
    unfold Gt.okB
    rw [show decide ((s[k]'h).toNat ≤ 126) = false from decide_eq_false (by omega)]
    simp
end Go.Proofs.YtgfammlmbjmkoaaGreatDoor

/- strings.IndexRune of "/\x00" at a rune above 127: none; strings.IndexAny, ContainsAny of any text; which parts may be. -/
namespace Go.Proofs.YtgfammlmbjmkoaaGreatDoor
set_option linter.unusedVariables false
set_option linter.unusedSimpArgs false
open Go.RowKit Go.Shelf
set_option maxHeartbeats 2000000
set_option maxRecDepth 100000
namespace Gt
/-- a byte that no part may have -/
def badB (c : UInt8) : Bool := c == 47 || c == 0
theorem ix_bad : ∀ c : Fin 256, decide (0 ≤ Lib.indexByte [47, 0] (UInt8.ofNat c.val)) = badB (UInt8.ofNat c.val) := by decide +kernel
theorem ix_bad' (c : UInt8) : decide (0 ≤ Lib.indexByte [47, 0] c) = badB c := by
  have := ix_bad ⟨c.toNat, c.toNat_lt⟩
  simpa using this
theorem any_take (l : List UInt8) (k n : Nat) (hk : (l.take k).any badB = false) (hn : k + n ≤ l.length) (h : ∀ j, k ≤ j → j < k + n → ∀ hj : j < l.length, 128 ≤ (l[j]'hj).toNat) : (l.take (k + n)).any badB = false := by
  rw [List.any_eq_false] at hk ⊢
  intro x hx
  rw [List.mem_take_iff_getElem] at hx
  obtain ⟨j, hj, rfl⟩ := hx
  by_cases hjk : j < k
  · exact hk _ (List.mem_take_iff_getElem.2 ⟨j, by omega, rfl⟩)
  · have := h j (by omega) (by omega) (by omega)
    unfold badB
    simp only [Bool.or_eq_true, beq_iff_eq, not_or]
    constructor <;> (intro e; rw [e] at this; exact absurd this (by decide))
end Gt
end Go.Proofs.YtgfammlmbjmkoaaGreatDoor

/- strings.IndexAny and ContainsAny of any text at "/\x00"; which parts may be. -/
namespace Go.Proofs.YtgfammlmbjmkoaaGreatDoor
set_option linter.unusedVariables false
set_option linter.unusedSimpArgs false
open Go.RowKit Go.Shelf
set_option maxHeartbeats 2000000
set_option maxRecDepth 100000
theorem index_bad : ∀ l : List UInt8, decide (0 ≤ Lib.indexAny l [47, 0]) = l.any Gt.badB
  | [] => rfl
  | b :: l => by
    have ih := index_bad l
    have hg := Lib.indexAny_ge [47, 0] l
    have hb : ([47, 0] : List UInt8).contains b = Gt.badB b := by
      unfold Gt.badB
      show List.elem b [47, 0] = _
      unfold List.elem
      cases h1 : b == 47
      · unfold List.elem
        cases h2 : b == 0 <;> rfl
      · rfl
    rw [List.any_cons, ← ih, ← hb]
    have hu : Lib.indexAny (b :: l) [47, 0] = if ([47, 0] : List UInt8).contains b = true then 0 else if (Lib.indexAny l [47, 0] == -1) = true then -1 else Lib.indexAny l [47, 0] + 1 := by simp only [Lib.indexAny]
    rw [hu]
    by_cases h : ([47, 0] : List UInt8).contains b = true
    · rw [if_pos h, h]; rfl
    · rw [if_neg h, Bool.eq_false_iff.2 h, Bool.false_or]
      split
      · rename_i he
        rw [beq_iff_eq.1 he]
      · rename_i he
        have : Lib.indexAny l [47, 0] ≠ -1 := fun e => he (beq_iff_eq.2 e)
        exact decide_eq_decide.2 ⟨fun _ => by omega, fun _ => by omega⟩
end Go.Proofs.YtgfammlmbjmkoaaGreatDoor

/- target: which parts may be (fine), part. -/
namespace Go.Proofs.YtgfammlmbjmkoaaGreatDoor
set_option linter.unusedVariables false
set_option linter.unusedSimpArgs false
open Go.RowKit Go.Shelf
set_option maxHeartbeats 2000000
set_option maxRecDepth 100000
theorem all_bad (l : List UInt8) : (l.all fun c => c != 47 && c != 0) = !l.any Gt.badB := by
  induction l with
  | nil => rfl
  | cons c l ih =>
    rw [List.all_cons, List.any_cons, ih]
    unfold Gt.badB
    cases h1 : c == 47 <;> cases h2 : c == 0 <;> simp [bne, h1, h2]
end Go.Proofs.YtgfammlmbjmkoaaGreatDoor

/- The reference's at, part. -/
namespace Go.Proofs.YtgfammlmbjmkoaaGreatDoor
set_option linter.unusedVariables false
set_option linter.unusedSimpArgs false
open Go.RowKit Go.Shelf
set_option maxHeartbeats 2000000
set_option maxRecDepth 100000
end Go.Proofs.YtgfammlmbjmkoaaGreatDoor

/- target: pair's closure; asks; Parse's closures. -/
namespace Go.Proofs.YtgfammlmbjmkoaaGreatDoor
set_option linter.unusedVariables false
set_option linter.unusedSimpArgs false
open Go.RowKit Go.Shelf
set_option maxHeartbeats 2000000
set_option maxRecDepth 100000
end Go.Proofs.YtgfammlmbjmkoaaGreatDoor

/- Slices of texts in memory; the reference's Right. -/
namespace Go.Proofs.YtgfammlmbjmkoaaGreatDoor
set_option linter.unusedVariables false
set_option linter.unusedSimpArgs false
open Go.RowKit Go.Shelf
set_option maxHeartbeats 2000000
set_option maxRecDepth 100000
/-- a slice of texts -/
def SR (w : World) (v : Value) (L : List ByteArray) : Prop :=
  (∃ p c, v = .slice p 0 c ∧ L = []) ∨ ∃ b off cap, v = .slice (some ⟨b, off, none⟩) L.length cap ∧ b < w.heap.size ∧ ∀ j (h : j < L.length), w.cell? ⟨b, off + j, none⟩ = some (.string L[j])
theorem SR.below {w w' : World} {v : Value} {L : List ByteArray} (h : SR w v L) (k : Below w.heap.size w w') : SR w' v L := by
  rcases h with h | ⟨b, off, cap, h1, h2, h3⟩
  · exact .inl h
  · exact .inr ⟨b, off, cap, h1, Nat.lt_of_lt_of_le h2 k.size, fun j hj => (k.cell (p := ⟨b, off + j, none⟩) h2).trans (h3 j hj)⟩
theorem right_rec (L : List (List UInt8)) : Gt.right L = (L.all Gt.fine && decide (0 < L.length)) := by
  unfold Gt.right
  cases L with
  | nil => rfl
  | cons a l => simp [Bool.and_comm]
end Go.Proofs.YtgfammlmbjmkoaaGreatDoor

/- A list's items, the reference's: those of the text Ti. -/
namespace Go.Proofs.YtgfammlmbjmkoaaGreatDoor
set_option linter.unusedVariables false
set_option linter.unusedSimpArgs false
open Go.RowKit Go.Shelf
set_option maxHeartbeats 1000000
theorem itm_nil (cur : List UInt8) : Tp.itm cur [] = [Tp.trim cur].filter Tp.some? := rfl
theorem itm_comma (cur l : List UInt8) : Tp.itm cur (44 :: l) = [Tp.trim cur].filter Tp.some? ++ Tp.itm [] l := by
  unfold Tp.itm
  rw [Tp.parts, if_pos rfl, List.map_cons, ← List.singleton_append, List.filter_append]
theorem itm_more (cur l : List UInt8) (c : UInt8) (h : c ≠ 44) : Tp.itm cur (c :: l) = Tp.itm (cur ++ [c]) l := by
  unfold Tp.itm
  rw [Tp.parts, if_neg h]
theorem cut_snoc (l : List UInt8) (a k : Nat) (h : a ≤ k) (hk : k < l.length) : (l.drop a).take (k - a) ++ [l[k]] = (l.drop a).take (k + 1 - a) := by
  rw [show k + 1 - a = (k - a) + 1 by omega, List.take_succ_eq_append_getElem (by rw [List.length_drop]; omega), List.getElem_drop]
  congr 3
  omega
theorem drop_here (l : List UInt8) (k : Nat) (hk : k < l.length) : l.drop k = l[k] :: l.drop (k + 1) := List.drop_eq_getElem_cons hk
/-- the reference's place in the text: what is gathered, and where the part began -/
def ItAt (l : List UInt8) (L : List (List UInt8)) (a k : Nat) : Prop :=
  L.length ≤ k ∧ ((k ≤ l.length ∧ a ≤ k ∧ L ++ Tp.itm ((l.drop a).take (k - a)) (l.drop k) = Tp.items l) ∨ (k = l.length + 1 ∧ L = Tp.items l))
theorem itAt_start (l : List UInt8) : ItAt l [] 0 0 := ⟨Nat.le_refl _, .inl ⟨Nat.zero_le _, Nat.le_refl _, rfl⟩⟩
theorem itAt_more {l : List UInt8} {L : List (List UInt8)} {a k : Nat} (h : ItAt l L a k) (hk : k < l.length) (hc : l[k] ≠ 44) : ItAt l L a (k + 1) := by
  obtain ⟨h1, h2⟩ := h
  rcases h2 with ⟨_, ha, h2⟩ | ⟨h2, _⟩
  · refine ⟨by omega, .inl ⟨by omega, by omega, ?_⟩⟩
    rw [drop_here l k hk, itm_more _ _ _ hc, cut_snoc l a k ha hk] at h2
    exact h2
  · omega
theorem itAt_cut {l : List UInt8} {L : List (List UInt8)} {a k : Nat} (h : ItAt l L a k) (hk : k ≤ l.length) (hc : ∀ h : k < l.length, l[k] = 44) : ItAt l (L ++ [Tp.trim ((l.drop a).take (k - a))].filter Tp.some?) (k + 1) (k + 1) := by
  obtain ⟨h1, h2⟩ := h
  rcases h2 with ⟨_, ha, h2⟩ | ⟨h2, _⟩
  · refine ⟨?_, ?_⟩
    · have := List.length_filter_le Tp.some? [Tp.trim ((l.drop a).take (k - a))]
      rw [List.length_append]
      simp only [List.length_singleton] at this
      omega
    · by_cases hlt : k < l.length
      · refine .inl ⟨hlt, Nat.le_refl _, ?_⟩
        rw [drop_here l k hlt, hc hlt, itm_comma] at h2
        rw [Nat.sub_self, List.take_zero, List.append_assoc]
        exact h2
      · refine .inr ⟨by omega, ?_⟩
        have : k = l.length := by omega
        rw [this, List.drop_length, itm_nil] at h2
        rw [this]
        exact h2
  · omega
theorem slice_mid (u : ByteArray) (w : World) (a k : Nat) (h : a ≤ k) (hk : k ≤ u.size) (hu : u.size ≤ 9223372036854775807) : (Instr.slice 9 (.string u) (some (.int .i64 (a : Int))) (some (.int .i64 (k : Int))) none).run Tryz.prog w = .ok (.string (u.extract a k)) w := by
  have h1 : (a : Int) ≤ k := by omega
  have h2 : (k : Int) ≤ u.size := by omega
  simp [go_sem, Tryz.underlying9, h1, h2]
theorem index_at (u : ByteArray) (w : World) (k : Nat) (h : k < u.size) : (Instr.index 9 (.string u) (.int .i64 (k : Int))).run Tryz.prog w = .ok (.int .u8 ((u[k]).toNat : Int)) w := by
  have hi : (0 : Int) ≤ (k : Int) ∧ (k : Int) < u.size := by omega
  rw [run_index_string w 9 u .i64 _ Tryz.underlying9, dif_pos hi]
  simp only [Int.toNat_natCast]
end Go.Proofs.YtgfammlmbjmkoaaGreatDoor

/- The reference's between: what stands between bytes of a kind. -/
namespace Go.Proofs.YtgfammlmbjmkoaaGreatDoor
set_option linter.unusedVariables false
set_option linter.unusedSimpArgs false
open Go.RowKit Go.Shelf
set_option maxHeartbeats 4000000
set_option maxRecDepth 100000
end Go.Proofs.YtgfammlmbjmkoaaGreatDoor

/- target: made of texts, by a function that may give up. -/
namespace Go.Proofs.YtgfammlmbjmkoaaGreatDoor
set_option linter.unusedVariables false
set_option linter.unusedSimpArgs false
open Go.RowKit Go.Shelf
set_option maxHeartbeats 4000000
set_option maxRecDepth 100000
theorem _root_.Go.World.ownsRow.belowed {w w' : World} {base : Nat} {e : TypeId} {size : Nat} {v : Value} {n : Nat} {xs : List Value} (h : w.ownsRow base e size v n xs) (k : Below w.heap.size w w') : w'.ownsRow base e size v n xs := by
  refine ⟨h.1, h.2.imp id ?_⟩
  rintro ⟨g, cap, cur, h1, h2, h3, h4⟩
  refine ⟨g, cap, cur, h1, h2, (k.block g ?_).trans h3, h4⟩
  rcases Nat.lt_or_ge g w.heap.size with h' | h'
  · exact h'
  · rw [Array.getElem?_eq_none h'] at h3; simp at h3
end Go.Proofs.YtgfammlmbjmkoaaGreatDoor

/- route: parts made of texts, texts made of parts. -/
namespace Go.Proofs.YtgfammlmbjmkoaaGreatDoor
set_option linter.unusedVariables false
set_option linter.unusedSimpArgs false
open Go.RowKit Go.Shelf
set_option maxHeartbeats 4000000
set_option maxRecDepth 100000
theorem own_geP {w : World} {B : Nat} {e : TypeId} {s : Nat} {v : Value} {n : Nat} {xs : List Value} (h : w.ownsRow B e s v n xs) : ∀ k, v.ownBlock = some k → B ≤ k := fun k hk => (h.lt k hk).1
theorem part_enter (args : Array Value) (W : World) : (callFunc 64 args).run Tryz.prog W = .ok (.enter 64 args) W := by
  simp [callFunc, go_sem, Tryz.func64]
  rw [if_neg (by decide), if_neg (by decide)]
theorem word_enter (args : Array Value) (W : World) : (callFunc 43 args).run Tryz.prog W = .ok (.enter 43 args) W := by
  simp [callFunc, go_sem, Tryz.func43]
  rw [if_neg (by decide), if_neg (by decide)]
theorem rt_madeP (v : Value) (L : List (List UInt8)) (w : World) (hv : XS w v L) (hL : L.length ≤ 100000) (hl : ∀ s ∈ L, s.length ≤ 30000) (ht : Tabs w) :
    Calls Tryz.prog 63 #[.func (.func 64) #[] #[], v] w fun e w' =>
      ((∃ R r, Gt.all? Ro.part L = some R ∧ e = .returned r ∧ w'.ownsRow w.heap.size 35 2 r R.length (pts R)) ∨ (Gt.all? Ro.part L = none ∧ e = rtNo)) ∧ Below w.heap.size w w' := by
  have hce := part_enter
  obtain ⟨i0, hi, hz0, hz1, hz2⟩ := info_parts (show (Tryz.prog.info? 35).map (fun i => (i.zero, i.size, i.bytes)) = some (some (.agg #[.int .i64 0, .string ByteArray.empty]), 2, 24) by kernel_rfl)
  obtain ⟨B, hB⟩ : ∃ B, w.heap.size = B := ⟨_, rfl⟩
  rw [hB]
  have HT := Lib.hid ht
  clear ht
  rcases hv with ⟨p0, c0, rfl, rfl⟩ | ⟨b, off, cap, rfl, hc⟩
  · go_enter Tryz.func63, Tryz.ntmps63
    go_wp2_with fail
    go_loopw [4, 9] (fun v i wr => v = .slice none 0 0 ∧ i = .int .i64 0 ∧ wr = w) (fun _ _ _ => 0)
    case atStart => exact ⟨rfl, rfl, rfl⟩
    case round =>
      obtain ⟨rfl, rfl, rfl⟩ := hrel
      go_wp2_with fail
      go_ret
      exact ⟨.inl ⟨[], _, rfl, rfl, World.ownsRow_nil _ _ _ _⟩, Below.refl _ _⟩
  · have HC := Lib.hid hc
    have HLL := Lib.hid hl
    obtain ⟨N, hN⟩ : ∃ N, L.length = N := ⟨_, rfl⟩
    have HNL := Lib.hid hN
    rw [hN] at hL ⊢
    clear hc hl hN
    go_enter Tryz.func63, Tryz.ntmps63
    go_wp2_with fail
    go_loopw [4, 9] (fun v i wr => ∃ (k : Nat) (acc : List Ro.Pt), k ≤ N ∧ i = .int .i64 k ∧ Gt.AAt Ro.part L acc k ∧ wr.ownsRow B 35 2 v acc.length (pts acc) ∧ Below B w wr)
      (fun _ i _ => N - (intOf i).toNat)
    case atStart => exact ⟨0, [], Nat.zero_le _, rfl, Gt.aAt_start _ _, World.ownsRow_nil _ _ _ _, Below.refl _ _⟩
    case round =>
      obtain ⟨k, acc, hk, rfl, hat, hown, hbl⟩ := hrel
      have HA := Lib.hid hat
      have HO := Lib.hid hown
      have HBL := Lib.hid hbl
      clear hat hown hbl
      by_cases hlt : k < N
      · have HKL := Lib.hid (show k < L.length by have := HNL.out; omega)
        have hbw : b < B := by rw [← hB]; exact lt_of_cell (HC.out k HKL.out)
        have hck : wr.cell? ⟨b, off + k, none⟩ = some (sv (L.getD k [])) := (HBL.out.cell (p := ⟨b, off + k, none⟩) hbw).trans (HC.out k HKL.out)
        obtain ⟨S, hS, hSd⟩ := sv_is (L.getD k [])
        rw [hS] at hck
        have HMK := Lib.hid (show L[k]'HKL.out = S.data.toList by rw [hSd, getD_is L [] k HKL.out])
        have HSS := Lib.hid (show S.size ≤ 30000 by
          have h1 := HLL.out (L[k]'HKL.out) (List.getElem_mem _)
          rw [HMK.out] at h1; exact h1)
        have K := Lib.hid (rt_part S wr HSS.out (HT.out.below (hB ▸ HBL.out)))
        clear hS hSd hbw
        cases hg : Ro.part S.data.toList with
        | none =>
          rw [hg] at K
          have HN := Lib.hid (Gt.aAt_bad HA.out HKL.out (by rw [HMK.out]; exact hg))
          clear hg
          go_wp2_with fail
          refine K.out.mono ?_
          rintro e w2 ⟨rfl, hb2⟩
          exact ⟨rfl, .inr ⟨HN.out, rfl⟩, HBL.out.trans (hb2.mono (hB ▸ HBL.out.size))⟩
        | some q =>
          rw [hg] at K
          have HN := Lib.hid (Gt.aAt_next HA.out HKL.out (by rw [HMK.out]; exact hg))
          clear hg
          go_wp2_with fail
          refine K.out.mono ?_
          rintro e w2 ⟨rfl, hb2⟩
          have HB2 := Lib.hid (HBL.out.trans (hb2.mono (hB ▸ HBL.out.size)))
          have HO2 := Lib.hid (show w2.ownsRow B 35 2 _ acc.length (pts acc) from HO.out.belowed hb2)
          simp only [ptEnd, pv]
          clear hb2 K
          go_wp2_with (at_builtin; refine wpList_append_own _ rfl _ _ 23 rfl B 35 i0 (.agg #[.int .i64 0, .string ByteArray.empty]) 2 24 Tryz.underlying23 hi hz0 hz1 hz2 rfl (by decide) _ _ _ rfl (HO2.out.alloc _) ⟨w2.heap.size, 0, none⟩ 1 1 [.int .i64 q.1, sv q.2] rfl rfl ?c1 ?c2 ?c3 ?c4 ?c5 ?_)
          case c1 =>
            intro j u hj
            match j, hj with
            | 0, hj => simp at hj; subst hj; simp [Addr.add, sv]
            | 1, hj => simp at hj; subst hj; simp [Addr.add, sv]
          case c2 => intro u hu; simp [sv] at hu; rcases hu with rfl | rfl <;> rfl
          case c3 => have := HA.out.2.1; unfold maxLen; omega
          case c4 => have := HA.out.2.1; omega
          case c5 => have := HB2.out.size; simp; omega
          intro v' w3 hown' hgrow _
          have HB3 := Lib.hid (show Below B w w3 from Below.grown (HB2.out.alloc (by have := HB2.out.size; omega) _) hgrow (by have := HB2.out.size; simp; omega) (own_geP HO2.out))
          have HO3 := Lib.hid (show w3.ownsRow B 35 2 v' (acc ++ [q]).length (pts (acc ++ [q])) by
            rw [pts_snoc, List.length_append]
            exact hown')
          clear hgrow hown'
          go_wp2
          go_roundw
          case rel => exact ⟨k + 1, acc ++ [q], hlt, by go_num, HN.out, HO3.out, HB3.out⟩
          case measure => simp [intOf]; omega
      · have HE := Lib.hid (Gt.aAt_end HA.out (by rw [HNL.out]; omega))
        go_wp2_with fail
        go_ret
        exact ⟨.inl ⟨acc, _, HE.out, rfl, HO.out⟩, HBL.out⟩
theorem rt_madeW (v : Value) (L : List Ro.Pt) (w : World) (hv : PtS w v L) (hL : L.length ≤ 100000) (hl : ∀ s ∈ L, s.2.length ≤ 30000) (ht : Tabs w) :
    Calls Tryz.prog 42 #[.func (.func 43) #[] #[], v] w fun e w' =>
      ((∃ R r, Gt.all? Ro.word L = some R ∧ e = .returned r ∧ w'.ownsRow w.heap.size 9 1 r R.length (R.map sv)) ∨ (Gt.all? Ro.word L = none ∧ e = rtNo)) ∧ Below w.heap.size w w' := by
  have hce := word_enter
  obtain ⟨i0, hi, hz0, hz1, hz2⟩ := info_parts (show (Tryz.prog.info? 9).map (fun i => (i.zero, i.size, i.bytes)) = some (some (.string ByteArray.empty), 1, 16) by kernel_rfl)
  obtain ⟨B, hB⟩ : ∃ B, w.heap.size = B := ⟨_, rfl⟩
  rw [hB]
  have HT := Lib.hid ht
  clear ht
  rcases hv with ⟨p0, c0, rfl, rfl⟩ | ⟨b, off, cap, rfl, _, _, hc⟩
  · go_enter Tryz.func42, Tryz.ntmps42
    go_wp2_with fail
    go_loopw [4, 9] (fun v i wr => v = .slice none 0 0 ∧ i = .int .i64 0 ∧ wr = w) (fun _ _ _ => 0)
    case atStart => exact ⟨rfl, rfl, rfl⟩
    case round =>
      obtain ⟨rfl, rfl, rfl⟩ := hrel
      go_wp2_with fail
      go_ret
      exact ⟨.inl ⟨[], _, rfl, rfl, World.ownsRow_nil _ _ _ _⟩, Below.refl _ _⟩
  · have HC := Lib.hid hc
    have HLL := Lib.hid hl
    obtain ⟨N, hN⟩ : ∃ N, L.length = N := ⟨_, rfl⟩
    have HNL := Lib.hid hN
    rw [hN] at hL ⊢
    clear hc hl hN
    go_enter Tryz.func42, Tryz.ntmps42
    go_wp2_with fail
    go_loopw [4, 9] (fun v i wr => ∃ (k : Nat) (acc : List (List UInt8)), k ≤ N ∧ i = .int .i64 k ∧ Gt.AAt Ro.word L acc k ∧ wr.ownsRow B 9 1 v acc.length (acc.map sv) ∧ Below B w wr)
      (fun _ i _ => N - (intOf i).toNat)
    case atStart => exact ⟨0, [], Nat.zero_le _, rfl, Gt.aAt_start _ _, World.ownsRow_nil _ _ _ _, Below.refl _ _⟩
    case round =>
      obtain ⟨k, acc, hk, rfl, hat, hown, hbl⟩ := hrel
      have HA := Lib.hid hat
      have HO := Lib.hid hown
      have HBL := Lib.hid hbl
      clear hat hown hbl
      by_cases hlt : k < N
      · have HKL := Lib.hid (show k < L.length by have := HNL.out; omega)
        have hbw : b < B := by rw [← hB]; exact lt_of_cell (HC.out k HKL.out).1
        have x0 := (HBL.out.cell (p := ⟨b, off + k * 2, none⟩) hbw).trans (HC.out k HKL.out).1
        have x1 := (HBL.out.cell (p := ⟨b, off + k * 2 + 1, none⟩) hbw).trans (HC.out k HKL.out).2
        have HMK := Lib.hid (getD_is L (0, []) k HKL.out)
        have HML := Lib.hid (HLL.out (L[k]'HKL.out) (List.getElem_mem _))
        rw [← HMK.out] at HML
        obtain ⟨⟨kd, tl⟩, hq⟩ : ∃ q, L.getD k (0, []) = q := ⟨_, rfl⟩
        rw [hq] at x0 x1 HMK HML
        simp only at x0 x1 HML
        obtain ⟨tb, htb, htl⟩ := sv_is tl
        rw [htb] at x1
        obtain ⟨W1, hW1⟩ : ∃ Z, wr.alloc (.cells #[.int .i64 kd, .string tb] 35) = Z := ⟨_, rfl⟩
        have hb1 : Below wr.heap.size wr W1 := by rw [← hW1]; exact (Below.refl _ _).alloc (Nat.le_refl _) _
        have HB1 := Lib.hid (HBL.out.trans (hb1.mono (hB ▸ HBL.out.size)))
        have HO1 := Lib.hid (show W1.ownsRow B 9 1 _ acc.length (acc.map sv) from HO.out.belowed hb1)
        have K := Lib.hid (rt_word kd tb W1 (by have h1 := HML.out; rw [← htl] at h1; have h2 : tb.data.toList.length = tb.size := rfl; omega) (HT.out.below (hB ▸ HB1.out)))
        rw [htl] at K
        have HW1 := Lib.hid hW1
        have HSZ := Lib.hid (show W1.heap.size = wr.heap.size + 1 by rw [← hW1]; simp)
        have g0 : W1.cell? ⟨wr.heap.size, 0, none⟩ = some (.int .i64 kd) := by rw [← hW1]; simp
        have g1 : W1.cell? ⟨wr.heap.size, 1, none⟩ = some (.string tb) := by rw [← hW1]; simp
        clear hq htb htl hbw hb1 hW1
        cases hg : Ro.word (kd, tl) with
        | none =>
          rw [hg] at K
          have HN := Lib.hid (Gt.aAt_bad HA.out HKL.out (by rw [← HMK.out]; exact hg))
          clear hg
          go_wp2_with fail
          rw [HW1.out]
          go_wp2_with fail
          refine K.out.mono ?_
          rintro e w2 ⟨rfl, hb2⟩
          exact ⟨rfl, .inr ⟨HN.out, rfl⟩, HB1.out.trans (hb2.mono (hB ▸ HB1.out.size))⟩
        | some q =>
          rw [hg] at K
          have HN := Lib.hid (Gt.aAt_next HA.out HKL.out (by rw [← HMK.out]; exact hg))
          clear hg
          go_wp2_with fail
          rw [HW1.out]
          go_wp2_with fail
          refine K.out.mono ?_
          rintro e w2 ⟨rfl, hb2⟩
          have HB2 := Lib.hid (HB1.out.trans (hb2.mono (hB ▸ HB1.out.size)))
          have HO2 := Lib.hid (show w2.ownsRow B 9 1 _ acc.length (acc.map sv) from HO1.out.belowed hb2)
          obtain ⟨qb, hqb, hqd⟩ := sv_is q
          have HTQ := Lib.hid hqb
          simp only [wdEnd]
          rw [hqb]
          clear hb2 K hqb hqd
          go_wp2_with (at_builtin; refine wpList_append_own _ rfl _ _ 41 rfl B 9 i0 (.string ByteArray.empty) 1 16 Tryz.underlying41 hi hz0 hz1 hz2 rfl (by decide) _ _ _ rfl (HO2.out.alloc _) ⟨w2.heap.size, 0, none⟩ 1 1 [.string qb] rfl rfl ?c1 ?c2 ?c3 ?c4 ?c5 ?_)
          case c1 =>
            intro j u hj
            match j, hj with
            | 0, hj => simp at hj; subst hj; simp [Addr.add]
          case c2 => intro u hu; simp at hu; subst hu; rfl
          case c3 => have := HA.out.2.1; unfold maxLen; omega
          case c4 => have := HA.out.2.1; omega
          case c5 => have := HB2.out.size; simp; omega
          intro v' w3 hown' hgrow _
          have HB3 := Lib.hid (show Below B w w3 from Below.grown (HB2.out.alloc (by have := HB2.out.size; omega) _) hgrow (by have := HB2.out.size; simp; omega) (own_geP HO2.out))
          have HO3 := Lib.hid (show w3.ownsRow B 9 1 v' (acc ++ [q]).length ((acc ++ [q]).map sv) by
            rw [List.map_append, List.length_append]
            show w3.ownsRow B 9 1 v' _ (_ ++ [sv q])
            rw [HTQ.out]
            exact hown')
          clear hgrow hown'
          go_wp2
          go_roundw
          case rel => exact ⟨k + 1, acc ++ [q], hlt, by go_num, HN.out, HO3.out, HB3.out⟩
          case measure => simp [intOf]; omega
      · have HE := Lib.hid (Gt.aAt_end HA.out (by rw [HNL.out]; omega))
        go_wp2_with fail
        go_ret
        exact ⟨.inl ⟨acc, _, HE.out, rfl, HO.out⟩, HBL.out⟩
end Go.Proofs.YtgfammlmbjmkoaaGreatDoor

/- target: pair. -/
namespace Go.Proofs.YtgfammlmbjmkoaaGreatDoor
set_option linter.unusedVariables false
set_option linter.unusedSimpArgs false
open Go.RowKit Go.Shelf
set_option maxHeartbeats 4000000
set_option maxRecDepth 100000
/-- the cell of MaxLen holds a number -/
def Mx (w : World) : Prop := ∃ m, w.cell? ⟨0, 0, none⟩ = some (.int .i64 m)
theorem Mx.below {w w' : World} {B : Nat} (h : Mx w) (k : Below B w w') (hB : 0 < B) : Mx w' := by
  obtain ⟨m, hm⟩ := h
  exact ⟨m, (k.cell (p := ⟨0, 0, none⟩) hB).trans hm⟩
/-- how a pair's reading ends -/
def prEnd (o : Option (List UInt8 × List UInt8)) : Ending := match o with
  | some (k, v) => .returned (.agg #[.string ⟨k.toArray⟩, .string ⟨v.toArray⟩])
  | none => .panicked [{ v := errno 210, recovered := false }]
theorem pair_all (l : List UInt8) : Gt.all? (Gt.dec true) [l.take (Gs.pos 61 l), l.drop (Gs.pos 61 l + 1)] = (Gt.pairOf l).map fun p => [p.1, p.2] := by
  unfold Gt.pairOf
  cases h1 : Gt.dec true (l.take (Gs.pos 61 l)) with
  | none => rw [Gt.all_none h1]; rfl
  | some a =>
    rw [Gt.all_some h1]
    cases h2 : Gt.dec true (l.drop (Gs.pos 61 l + 1)) with
    | none => rw [Gt.all_none h2]; rfl
    | some b => rw [Gt.all_some h2, Gt.all_nil]; rfl
end Go.Proofs.YtgfammlmbjmkoaaGreatDoor

/- route: read. -/
namespace Go.Proofs.YtgfammlmbjmkoaaGreatDoor
set_option linter.unusedVariables false
set_option linter.unusedSimpArgs false
open Go.RowKit Go.Shelf
set_option maxHeartbeats 4000000
set_option maxRecDepth 100000
/-- what the calls lean on -/
structure KX (w : World) : Prop where
  mx : Mx w
  pos : 0 < w.heap.size
  tabs : Tabs w
theorem KX.below {w w' : World} (h : KX w) (hb : Below w.heap.size w w') : KX w' := ⟨h.mx.below hb h.pos, Nat.lt_of_lt_of_le h.pos hb.size, h.tabs.below hb⟩
/-- strokes -/
def cnt (l : List UInt8) : Nat := Lib.count l [47]
theorem cnt_cons (c : UInt8) (l : List UInt8) : cnt (c :: l) = (if c = 47 then 1 else 0) + cnt l := by
  unfold cnt
  by_cases h : c = 47
  · subst h; rw [if_pos rfl, Lib.count_cons_eq]
  · rw [if_neg h, Lib.count_cons_ne c 47 l h, Nat.zero_add]
theorem cnt_nil : cnt [] = 0 := by unfold cnt; rw [Lib.count_miss (by simp [Lib.index])]
theorem cnt_append : ∀ a b : List UInt8, cnt (a ++ b) = cnt a + cnt b
  | [], b => by rw [cnt_nil]; simp
  | c :: a, b => by rw [List.cons_append, cnt_cons, cnt_cons, cnt_append a b]; omega
theorem cnt_le : ∀ l : List UInt8, cnt l ≤ l.length
  | [] => by rw [cnt_nil]; exact Nat.le_refl _
  | c :: l => by
    have := cnt_le l
    rw [cnt_cons, List.length_cons]
    split <;> omega
theorem cnt_hi {l : List UInt8} (h : ∀ c ∈ l, 128 ≤ c.toNat) : cnt l = 0 := by
  induction l with
  | nil => exact cnt_nil
  | cons c l ih =>
    have hc : c ≠ 47 := by
      intro e
      have := h c List.mem_cons_self
      rw [e] at this
      exact absurd this (by decide)
    rw [cnt_cons, if_neg hc, ih fun d hd => h d (List.mem_cons_of_mem _ hd)]
/-- what a step over a text does to the count -/
theorem cnt_step (s : ByteArray) (k : Nat) (h : k < s.size) : ∃ r n : Nat, Utf8.decode s k = (r, n) ∧ 1 ≤ n ∧ k + n ≤ s.size ∧ r ≤ 1114111 ∧ ((r = 47 ∧ cnt (s.data.toList.take (k + n)) = cnt (s.data.toList.take k) + 1) ∨ (r ≠ 47 ∧ cnt (s.data.toList.take (k + n)) = cnt (s.data.toList.take k))) := by
  have hl : k < s.data.toList.length := h
  by_cases ha : (s[k]'h).toNat < 128
  · refine ⟨_, _, decode_ascii s k h ha, Nat.le_refl _, h, by omega, ?_⟩
    rw [List.take_succ_eq_append_getElem hl, cnt_append, cnt_cons, cnt_nil]
    have hc : s.data.toList[k]'hl = s[k]'h := rfl
    rw [hc]
    by_cases h47 : s[k]'h = 47
    · left; rw [h47]; exact ⟨rfl, rfl⟩
    · right; rw [if_neg h47]; exact ⟨fun e => h47 (UInt8.toNat_inj.1 e), rfl⟩
  · obtain ⟨r, n, hd, h1, h2, h3, h4, h5⟩ := decode_hi s k h (by omega)
    refine ⟨r, n, hd, h3, h4, h2, .inr ⟨by omega, ?_⟩⟩
    rw [List.take_add, cnt_append, Nat.add_eq_left]
    refine cnt_hi ?_
    intro c hc
    obtain ⟨j, hj, rfl⟩ := List.mem_iff_getElem.1 hc
    rw [List.length_take, List.length_drop] at hj
    rw [List.getElem_take, List.getElem_drop]
    exact h5 (k + j) (by omega) (by omega) (by have : s.data.toList.length = s.size := rfl; omega)
theorem rt_prefix (s : ByteArray) (w : World) (hs : s.size ≤ 1000000) :
    Calls Tryz.prog 62 #[.string s, .string ⟨#[47]⟩] w fun e w' => e = .returned (.bool (s.data.toList.head? == some 47)) ∧ w' = w := by
  obtain ⟨R, hR⟩ : ∃ R, (s.data.toList.head? == some 47) = R := ⟨_, rfl⟩
  rw [hR]
  have HR := Lib.hid hR
  clear hR
  have K : Calls Tryz.prog 74 #[.string s, .string ⟨#[47]⟩] w fun e w' => e = .returned (.bool R) ∧ w' = w := by
    by_cases h0 : s.size = 0
    · have HN := Lib.hid (show R = false by
        rw [← HR.out]
        have h1 : s.data.toList = [] := List.length_eq_zero_iff.1 h0
        rw [h1]; rfl)
      have h1 : ¬ (1 : Int) ≤ (s.size : Int) := by omega
      have h2 : decide ((1 : Int) ≤ (s.size : Int)) = false := decide_eq_false h1
      go_enter Tryz.func74, Tryz.ntmps74
      go_wp2_with fail
      go_ret
      exact ⟨by rw [HN.out]; rfl, rfl⟩
    · have h1 : 1 ≤ s.size := by omega
      have HQ := Lib.hid (show ((s.extract 0 1).toList == [47]) = R by
        rw [← HR.out, ByteArray.toList_eq, Lib.extract_data]
        cases hl : s.data.toList with
        | nil => exact absurd (show s.size = 0 from by have : s.data.toList.length = s.size := rfl; rw [hl] at this; exact this.symm) h0
        | cons c l => simp)
      go_enter Tryz.func74, Tryz.ntmps74
      go_wp2_with fail
      go_ret
      exact ⟨ret_bool HQ.out, rfl⟩
  have K := Lib.hid K
  go_enter Tryz.func62, Tryz.ntmps62
  go_wp2_with fail
  refine K.out.mono ?_
  rintro e w' ⟨rfl, rfl⟩
  go_wp2
  go_ret
  exact ⟨rfl, rfl⟩
/-- what SplitN leaves of a text with so many strokes -/
theorem rt_split (s : ByteArray) (n : Nat) (w : World) (hs : s.size ≤ 1000000) (hn : n = cnt s.data.toList + 1) (hm : Mx w) :
    Calls Tryz.prog 65 #[.string s, .string ⟨#[47]⟩, .int .i64 n] w fun e w' => ∃ v, e = .returned v ∧ XS w' v (Gs.parts 47 [] s.data.toList) ∧ Below w.heap.size w w' := by
  obtain ⟨m, hm⟩ := hm
  have hc : cnt s.data.toList ≤ s.size := cnt_le s.data.toList
  refine (Tryz.strings_SplitN s ⟨#[47]⟩ n m w (by omega) hm (Nat.le_refl 1) (by omega) (by omega)).mono ?_
  have h1 : min n (s.size + 1) = n := by omega
  have h2 : n - 1 = Lib.countB s ⟨#[47]⟩ := by
    rw [hn]; rfl
  rw [h1, h2]
  have hp := Gs.splitB_is 47 s
  obtain ⟨D, hD⟩ : ∃ D, Lib.splitB ⟨#[47]⟩ 0 (Lib.countB s ⟨#[47]⟩) s = D := ⟨_, rfl⟩
  rw [hD] at hp ⊢
  have hlen : D.length = n := by
    have h3 := Lib.splitB_all ⟨#[47]⟩ (Nat.le_refl 1) 0 _ s rfl
    rw [hD] at h3
    rw [h3, hn]; rfl
  rintro e w' ⟨rfl, rfl⟩
  refine ⟨_, rfl, ?_, (Below.refl _ _).alloc (Nat.le_refl _) _⟩
  rw [← hp]
  refine .inr ⟨w.heap.size, 0, n, by rw [List.length_map], fun j hj => ?_⟩
  rw [List.length_map] at hj
  have hcell : Lib.cellsOf D n = (D.map Value.string).toArray := by
    unfold Lib.cellsOf
    rw [hlen, Nat.sub_self]; simp
  have hd : (D.map fun x => x.data.toList).getD j [] = D[j].data.toList := by
    rw [List.getD_eq_getElem?_getD, List.getElem?_map, List.getElem?_eq_getElem hj]; rfl
  rw [hcell, hd]
  unfold sv
  simp [List.getElem?_eq_getElem hj]
/-- parts in a block of their own -/
def PtO (w : World) (v : Value) (L : List Ro.Pt) : Prop := w.ownsRow 0 35 2 v L.length (pts L)
theorem PtO.below {w w' : World} {v : Value} {L : List Ro.Pt} (h : PtO w v L) (k : Below w.heap.size w w') : PtO w' v L := World.ownsRow.belowed h k
theorem PtO.pts {w : World} {v : Value} {L : List Ro.Pt} (h : PtO w v L) : PtS w v L := PtS.of h
theorem PtO.of {w : World} {B : Nat} {v : Value} {L : List Ro.Pt} (h : w.ownsRow B 35 2 v L.length (Go.Proofs.YtgfammlmbjmkoaaGreatDoor.pts L)) : PtO w v L := by
  refine ⟨h.1, h.2.imp id ?_⟩
  rintro ⟨g, cap, cur, h1, h2, h3⟩
  exact ⟨g, cap, cur, h1, Nat.zero_le _, h3⟩
theorem rt_read (s : ByteArray) (w : World) (hs : s.size ≤ 30000) (hk : KX w) :
    Calls Tryz.prog 37 #[.string s] w fun e w' =>
      ((∃ L r, Ro.parse s.data.toList = some L ∧ e = .returned r ∧ PtO w' r L) ∨ (Ro.parse s.data.toList = none ∧ e = rtNo)) ∧ Below w.heap.size w w' := by
  have HI := Lib.hid (fun W => (World.iter_heap W s 0))
  have HSL := Lib.hid (show s.data.toList.length = s.size from rfl)
  have HK := Lib.hid hk
  clear hk
  go_enter Tryz.func37, Tryz.ntmps37
  go_wp2_with fail
  go_loopw [3] (fun x wr => ∃ k : Nat, k ≤ s.size ∧ x = .int .i64 (cnt (s.data.toList.take k)) ∧ wr.heap[w.heap.size]? = some (.stringIter s k) ∧ Below w.heap.size w wr)
    (fun _ wr => s.size - iterPos wr w.heap.size)
  case atStart => exact ⟨0, Nat.zero_le _, by rw [List.take_zero, cnt_nil]; rfl, HI.out w, (Below.refl _ _).alloc (Nat.le_refl _) _⟩
  case round =>
    obtain ⟨k, hk, rfl, hit, hbl⟩ := hrel
    have HIT := Lib.hid hit
    have HBL := Lib.hid hbl
    obtain ⟨c, hc⟩ : ∃ c, cnt (s.data.toList.take k) = c := ⟨_, rfl⟩
    have hcb : c ≤ 30000 := by
      have h1 := cnt_le (s.data.toList.take k)
      rw [List.length_take] at h1
      have := HSL.out
      omega
    rw [hc]
    have HC := Lib.hid hc
    clear hc
    by_cases hlt : k < s.size
    · have hn := fun ty => next_at wr w.heap.size s k ty hit hlt
      obtain ⟨r, n, hdec, hn1, hkn, hr, hor⟩ := cnt_step s k hlt
      rw [hdec] at hn
      rw [HC.out] at hor
      have HS2 := Lib.hid (setIter_at (s := s) (p := k + n) hit)
      have HB2 := Lib.hid (hbl.trans (setIter_below wr w.heap.size w.heap.size s (k + n) (Nat.le_refl _)))
      have HIK := Lib.hid (iterPos_is hit)
      have HKN := Lib.hid hkn
      have HN1 := Lib.hid hn1
      clear hit hbl hdec hkn hn1
      rcases hor with ⟨h1, h2⟩ | ⟨h1, h2⟩
      · subst h1
        have H2 := Lib.hid h2
        clear h2
        go_wp2_with fail
        go_roundw
        case rel => exact ⟨k + n, HKN.out, by rw [H2.out]; go_num, HS2.out, HB2.out⟩
        case measure => rw [iterPos_is HS2.out, HIK.out]; have := HN1.out; omega
      · have e1 : ((r : Int) == 47) = false := beq_eq_false_iff_ne.2 (by omega)
        have H2 := Lib.hid h2
        clear h2 h1
        go_wp2_with fail
        go_roundw
        case rel => exact ⟨k + n, HKN.out, by rw [H2.out], HS2.out, HB2.out⟩
        case measure => rw [iterPos_is HS2.out, HIK.out]; have := HN1.out; omega
    · have hn := fun ty => next_over wr w.heap.size s k ty hit hlt
      have HCA := Lib.hid (show cnt s.data.toList = c by
        have := HC.out
        rwa [List.take_of_length_le (by rw [HSL.out]; omega)] at this)
      clear hit hbl HC
      by_cases hsz : s.size ≤ 1024
      · have h1 : decide ((s.size : Int) ≤ 1024) = true := decide_eq_true (by omega)
        have KP := Lib.hid (rt_prefix s wr (by omega))
        cases hp : (s.data.toList.head? == some 47) with
        | false =>
          rw [hp] at KP
          have HNO := Lib.hid (Ro.parse_bad (s := s.data.toList) (by unfold Ro.fine; rw [hp, Bool.and_false]))
          clear hp
          go_wp2_with fail
          refine KP.out.mono ?_
          rintro e w2 ⟨rfl, hw2⟩
          subst w2
          go_wp2_with fail
          refine (rt_must_no 360 _).mono ?_
          rintro e w2 ⟨rfl, hw2⟩
          subst w2
          exact ⟨rfl, .inr ⟨HNO.out, rfl⟩, HBL.out⟩
        | true =>
          rw [hp] at KP
          have HF := Lib.hid (show Ro.fine s.data.toList = true by unfold Ro.fine; rw [hp, decide_eq_true (show s.data.toList.length ≤ 1024 by rw [HSL.out]; exact hsz)]; rfl)
          have hpos : 1 ≤ s.size := by
            have h2 := HSL.out
            cases hl : s.data.toList with
            | nil => rw [hl] at hp; exact absurd hp (by decide)
            | cons a l => rw [hl] at h2; simp at h2; omega
          obtain ⟨t, ht⟩ : ∃ t, s.extract 1 s.size = t := ⟨_, rfl⟩
          have HT := Lib.hid (show t.data.toList = s.data.toList.drop 1 by
            rw [← ht, Lib.extract_data, List.take_of_length_le (by rw [List.length_drop]; have := HSL.out; omega)])
          have HTS := Lib.hid (show t.size ≤ 30000 by
            have h3 : t.data.toList.length = t.size := rfl
            rw [HT.out, List.length_drop] at h3; have := HSL.out; omega)
          have HCN := Lib.hid (show c = cnt t.data.toList + 1 by
            rw [HT.out, ← HCA.out]
            cases hl : s.data.toList with
            | nil => rw [hl] at hp; exact absurd hp (by decide)
            | cons a l =>
              rw [hl] at hp
              have : a = 47 := by simpa using hp
              rw [cnt_cons, if_pos this, List.drop_one, List.tail_cons]; omega)
          have HTE := Lib.hid ht
          clear hp ht
          go_wp2_with fail
          refine KP.out.mono ?_
          rintro e w2 ⟨rfl, hw2⟩
          subst w2
          go_wp2_with fail
          refine (rt_must 360 _).mono ?_
          rintro e w2 ⟨rfl, hw2⟩
          subst w2
          go_wp2_with fail
          rw [HTE.out]
          refine (rt_split t c wr (by have := HTS.out; omega) HCN.out (HK.out.below HBL.out).mx).mono ?_
          rintro e w3 ⟨v, rfl, hx, hb3⟩
          have HX := Lib.hid hx
          have HB3 := Lib.hid (HBL.out.trans (hb3.mono HBL.out.size))
          clear hx hb3
          obtain ⟨p, cp, rfl⟩ := HX.out.slice
          have HPL := Lib.hid (show (Gs.parts 47 [] t.data.toList).length ≤ 100000 by
            have h4 := Gs.parts_many 47 t.data.toList []
            have h3 : t.data.toList.length = t.size := rfl
            have := HTS.out; omega)
          have KM := Lib.hid (rt_madeP _ _ w3 HX.out HPL.out (fun x hx => by
            have h4 := Gs.parts_len 47 t.data.toList [] x hx
            have h3 : t.data.toList.length = t.size := rfl
            have := HTS.out
            simp at h4; omega) (HK.out.below HB3.out).tabs)
          have HSG := Lib.hid (show Ro.segs s.data.toList = Gs.parts 47 [] t.data.toList by unfold Ro.segs; rw [HT.out])
          go_wp2_with fail
          refine KM.out.mono ?_
          rintro e w4 ⟨⟨L, r, hL, rfl, hown⟩ | ⟨hL, rfl⟩, hb4⟩
          · have HB4 := Lib.hid (HB3.out.trans (hb4.mono HB3.out.size))
            have HPT := Lib.hid (PtS.of hown)
            have HPO := Lib.hid (PtO.of hown)
            have HLL := Lib.hid (show L.length ≤ 100000 by rw [Gt.all_length hL]; exact HPL.out)
            have HPI := Lib.hid (Ro.parse_is HF.out (HSG.out ▸ hL))
            clear hL hown hb4
            obtain ⟨p', cp', rfl⟩ := HPT.out.slice
            go_wp2_with fail
            refine (rt_right _ L w4 HPT.out HLL.out).mono ?_
            cases hr : Ro.right L with
            | true =>
              have HR := Lib.hid (HPI.out.trans (if_pos hr))
              clear hr
              rintro e w5 ⟨rfl, hb5⟩
              have HB5 := Lib.hid (HB4.out.trans (hb5.mono HB4.out.size))
              have HP5 := Lib.hid (HPO.out.below hb5)
              clear hb5
              simp only [if_true]
              go_wp2_with fail
              go_ret
              exact ⟨.inl ⟨L, _, HR.out, rfl, HP5.out⟩, HB5.out⟩
            | false =>
              have HR := Lib.hid (HPI.out.trans (if_neg (by rw [hr]; decide)))
              clear hr
              rintro e w5 ⟨rfl, hb5⟩
              exact ⟨rfl, .inr ⟨HR.out, rfl⟩, HB4.out.trans (hb5.mono HB4.out.size)⟩
          · exact ⟨rfl, .inr ⟨Ro.parse_none (HSG.out ▸ hL), rfl⟩, HB3.out.trans (hb4.mono HB3.out.size)⟩
      · have h1 : decide ((s.size : Int) ≤ 1024) = false := decide_eq_false (by omega)
        have HNO := Lib.hid (Ro.parse_bad (s := s.data.toList) (by unfold Ro.fine; rw [decide_eq_false (by rw [HSL.out]; exact hsz)]; rfl))
        clear hsz
        go_wp2_with fail
        refine (rt_must_no 360 _).mono ?_
        rintro e w2 ⟨rfl, hw2⟩
        subst w2
        exact ⟨rfl, .inr ⟨HNO.out, rfl⟩, HBL.out⟩
end Go.Proofs.YtgfammlmbjmkoaaGreatDoor

/- route: Parse, Check. -/
namespace Go.Proofs.YtgfammlmbjmkoaaGreatDoor
set_option linter.unusedVariables false
set_option linter.unusedSimpArgs false
open Go.RowKit Go.Shelf
set_option maxHeartbeats 4000000
set_option maxRecDepth 100000
theorem PtS.set1 {w : World} {v : Value} {L : List Ro.Pt} {T : Nat} {x : Value} {t : TypeId} (h : PtS w v L) (hT : w.heap[T]? = some (.cells #[x] t (0, 0))) (i : Nat) (y : Value) : PtS (w.setCell ⟨T, i, none⟩ y) v L := by
  rcases h with h | ⟨b, off, cap, h1, h2, h4, h3⟩
  · exact .inl h
  · refine .inr ⟨b, off, cap, h1, h2, h4, fun j hj => ?_⟩
    obtain ⟨h5, h6⟩ := h3 j hj
    have hne : b ≠ T := by
      intro e
      subst e
      simp only [World.cell?, hT, Option.isSome_none, Bool.false_eq_true, if_false] at h6
      match hz : off + j * 2 + 1, h6 with
      | 0, _ => omega
      | k + 1, h6 => simp at h6
    rw [World.cell?_setCell_other, World.cell?_setCell_other]
    · exact ⟨h5, h6⟩
    · intro e; exact hne (by simpa using (congrArg Addr.block e).symm)
    · intro e; exact hne (by simpa using (congrArg Addr.block e).symm)
theorem rt_clearP (a : Addr) (w : World) (old : Value) (hc : w.cell? a = some old) (hz : w.frozen? a = false) :
    Calls Tryz.prog 36 #[.pointer (some a)] w fun e w' => e = .returned (.tuple #[]) ∧ w' = w.setCell a (.slice none 0 0) := by
  go_enter Tryz.func36, Tryz.ntmps36
  go_wp2
  simp [bodyPost, results, Tryz.results36, go_sem]
theorem clearP_enter (cap : Array Value) (W : World) : (callFunc 36 cap).run Tryz.prog W = .ok (.enter 36 cap) W := by
  simp [callFunc, go_sem, Tryz.func36]
  rw [if_neg (by decide), if_neg (by decide)]
/-- what Parse tells -/
def RdOut (o : Option (List Ro.Pt)) (e : Ending) (w : World) : Prop := match o with
  | some L => ∃ r, e = .returned (.tuple #[r, .int .i64 0]) ∧ PtS w r L
  | none => e = .returned (.tuple #[.slice none 0 0, .int .i64 360])
theorem rt_Parse (s : ByteArray) (w : World) (hs : s.size ≤ 30000) (hk : KX w) :
    Calls Tryz.prog 12 #[.string s] w fun e w' => RdOut (Ro.parse s.data.toList) e w' ∧ Below w.heap.size w w' := by
  have hmf : ∀ (fn : Fn) (first cap : Array Value) (w : World), (Instr.makeFunc fn first cap).run Tryz.prog w = .ok (.func fn first cap) w := fun _ _ _ _ => rfl
  obtain ⟨W3, hW3⟩ : ∃ W, (w.alloc (.cells #[.slice none 0 0] 23)).alloc (.cells #[.int .i64 0] 24) = W := ⟨_, rfl⟩
  have HSZ := Lib.hid (show W3.heap.size = w.heap.size + 2 by rw [← hW3]; simp)
  have HB := Lib.hid (show Below w.heap.size w W3 by
    rw [← hW3]
    exact ((Below.refl _ _).alloc (Nat.le_refl _) _).alloc (by simp) _)
  have HC0 := Lib.hid (show W3.heap[w.heap.size]? = some (.cells #[.slice none 0 0] 23 (0, 0)) by
    rw [← hW3, Below.heap_alloc _ _ _ (by simp)]
    exact World.alloc_heap_new _ _)
  have HC1 := Lib.hid (show W3.heap[w.heap.size + 1]? = some (.cells #[.int .i64 0] 24 (0, 0)) by
    rw [← hW3]
    have := World.alloc_heap_new (w.alloc (.cells #[.slice none 0 0] 23)) (.cells #[.int .i64 0] 24)
    simpa using this)
  have HW3 := Lib.hid hW3
  clear hW3
  have K := Lib.hid (rt_read s W3 hs (hk.below HB.out))
  obtain ⟨o, ho⟩ : ∃ o, Ro.parse s.data.toList = o := ⟨_, rfl⟩
  rw [ho] at K ⊢
  clear ho
  go_enter_defers Tryz.func12, Tryz.ntmps12
  go_wp2_with fail
  rw [HW3.out]
  refine K.out.mono ?_
  rintro e w4 ⟨hor, hb⟩
  have hd0 : w4.heap[w.heap.size]? = some (.cells #[.slice none 0 0] 23 (0, 0)) := (hb.block _ (by rw [HSZ.out]; omega)).trans HC0.out
  have hd1 : w4.heap[w.heap.size + 1]? = some (.cells #[.int .i64 0] 24 (0, 0)) := (hb.block _ (by rw [HSZ.out]; omega)).trans HC1.out
  have HB4 := Lib.hid (HB.out.trans (hb.mono HB.out.size))
  have c0 : w4.cell? ⟨w.heap.size, 0, none⟩ = some (.slice none 0 0) := by simp [World.cell?, hd0]
  have c1 : w4.cell? ⟨w.heap.size + 1, 0, none⟩ = some (.int .i64 0) := by simp [World.cell?, hd1]
  have z0 : w4.frozen? ⟨w.heap.size, 0, none⟩ = false := frozen_of_row _ _ _ _ _ hd0
  have z1 : w4.frozen? ⟨w.heap.size + 1, 0, none⟩ = false := frozen_of_row _ _ _ _ _ hd1
  have HD0 := Lib.hid hd0
  have HD1 := Lib.hid hd1
  clear hb hd0 hd1 K
  rcases hor with ⟨L, r, rfl, rfl, hp⟩ | ⟨rfl, rfl⟩
  · have HP := Lib.hid hp.pts
    clear hp
    obtain ⟨p, cp, rfl⟩ := HP.out.slice
    go_wp2
    refine leaves_cons (f := 35) (args := #[.pointer (some ⟨w.heap.size + 1, 0, none⟩), .func (.func 36) #[] #[.pointer (some ⟨w.heap.size, 0, none⟩)]]) (by simp) (by simp [go_sem]) ?_
    refine (rt_caught_idle _ _ _).mono ?_
    rintro e u' w'' ⟨rfl, rfl, rfl⟩
    simp [Leaves, settle, results, Tryz.results12, go_sem, c0, c1]
    exact ⟨⟨_, rfl, (HP.out.set1 HD0.out 0 _).set1 (by rw [Below.heap_setCell _ _ _ _ (by simp)]; exact HD1.out) 0 _⟩, (HB4.out.setCell (Nat.le_refl _) _).setCell (Nat.le_succ _) _⟩
  · refine leaves_cons (f := 35) (args := #[.pointer (some ⟨w.heap.size + 1, 0, none⟩), .func (.func 36) #[] #[.pointer (some ⟨w.heap.size, 0, none⟩)]]) (by simp) (by simp [go_sem]) ?_
    have c2 : (w4.setCell ⟨w.heap.size, 0, none⟩ (.slice none 0 0)).cell? ⟨w.heap.size + 1, 0, none⟩ = some (.int .i64 0) := by rw [World.cell?_setCell_other]; exact c1; simp
    have z2 : (w4.setCell ⟨w.heap.size, 0, none⟩ (.slice none 0 0)).frozen? ⟨w.heap.size + 1, 0, none⟩ = false := by simpa using z1
    refine (rt_caught ⟨w.heap.size + 1, 0, none⟩ 36 #[.pointer (some ⟨w.heap.size, 0, none⟩)] 360 [] w4 (w4.setCell ⟨w.heap.size, 0, none⟩ (.slice none 0 0)) (clearP_enter _) (rt_clearP _ _ _ c0 z0) (.int .i64 0) c2 z2).mono ?_
    rintro e u' w'' ⟨rfl, rfl, rfl⟩
    simp [Leaves, settle, results, Tryz.results12, go_sem, c0, c1]
    exact ⟨rfl, (HB4.out.setCell (Nat.le_refl _) _).setCell (Nat.le_succ _) _⟩
/-- an error's number -/
def rtErr {α : Type} (o : Option α) : Int := if o.isSome then 0 else 360
theorem RdOut.some {o : Option (List Ro.Pt)} {e : Ending} {w : World} (h : RdOut o e w) : ∃ r L, e = .returned (.tuple #[r, .int .i64 (rtErr o)]) ∧ PtS w r L ∧ o.getD [] = L := by
  cases o with
  | none => exact ⟨_, _, h, .inl ⟨none, 0, rfl, rfl⟩, rfl⟩
  | some L => obtain ⟨r, h1, h2⟩ := h; exact ⟨r, L, h1, h2, rfl⟩
theorem rt_Check (s : ByteArray) (w : World) (hs : s.size ≤ 30000) (hk : KX w) :
    Calls Tryz.prog 16 #[.string s] w fun e w' => e = .returned (.int .i64 (rtErr (Ro.parse s.data.toList))) ∧ Below w.heap.size w w' := by
  have K := Lib.hid (rt_Parse s w hs hk)
  clear hk
  obtain ⟨o, ho⟩ : ∃ o, Ro.parse s.data.toList = o := ⟨_, rfl⟩
  rw [ho] at K ⊢
  clear ho
  go_enter Tryz.func16, Tryz.ntmps16
  go_wp2_with fail
  refine K.out.mono ?_
  rintro e w2 ⟨ho, hb⟩
  obtain ⟨r, L, rfl, hp, _⟩ := ho.some
  obtain ⟨p, c, rfl⟩ := hp.slice
  have HB := Lib.hid hb
  clear ho hp hb
  go_wp2_with fail
  go_ret
  exact ⟨rfl, HB.out⟩
end Go.Proofs.YtgfammlmbjmkoaaGreatDoor

/- route: Text. -/
namespace Go.Proofs.YtgfammlmbjmkoaaGreatDoor
set_option linter.unusedVariables false
set_option linter.unusedSimpArgs false
open Go.RowKit Go.Shelf
set_option maxHeartbeats 4000000
set_option maxRecDepth 100000
theorem join_flat : ∀ L : List (List UInt8), Lib.join L [] = L.flatten
  | [] => rfl
  | [x] => by simp [Lib.join]
  | x :: y :: L => by
    have := join_flat (y :: L)
    simp [Lib.join] at this ⊢
    exact this
theorem flat_len {K : Nat} : ∀ {L : List (List UInt8)}, (∀ x ∈ L, x.length ≤ K) → L.flatten.length ≤ L.length * K
  | [], _ => by simp
  | x :: L, h => by
    have h1 := flat_len (L := L) (fun y hy => h y (List.mem_cons_of_mem _ hy))
    have h2 := h x List.mem_cons_self
    rw [List.flatten_cons, List.length_append, List.length_cons, Nat.add_mul]
    omega
def fbo (l : List UInt8) : ByteArray := ⟨l.toArray⟩
theorem rt_join {w : World} {B n : Nat} {v : Value} (L : List (List UInt8)) (h : w.ownsRow B 9 1 v n (L.map sv)) (hj : L.flatten.length ≤ 140737488355328) (hl : L.length ≤ 100000) :
    Calls Tryz.prog 41 #[v, .string ⟨#[]⟩] w fun e w' => e = .returned (sv L.flatten) ∧ Below w.heap.size w w' := by
  have hn : n = L.length := by have := h.1; simp at this; omega
  subst hn
  rcases h.2 with ⟨rfl, h0⟩ | ⟨g, cap, cur, rfl, hBg, hg, hnc, _, hcs, htk⟩
  · obtain rfl := List.length_eq_zero_iff.1 h0
    refine (Tryz.strings_Join_none none 0 ⟨#[]⟩ w).mono ?_
    rintro e w' ⟨rfl, rfl⟩
    exact ⟨rfl, Below.refl _ _⟩
  · have hlt : g < w.heap.size := (Array.getElem?_eq_some_iff.1 hg).1
    have hm : (L.map fbo).map (·.data.toList) = L := by
      rw [List.map_map]
      conv => rhs; rw [← List.map_id L]
      refine List.map_congr_left (fun l _ => ?_)
      simp [fbo]
    have K := Tryz.strings_Join g 0 cap (L.map fbo) ⟨#[]⟩ w (fun j x hx => by
      rw [List.getElem?_map] at hx
      cases hLj : L[j]? with
      | none => rw [hLj] at hx; cases hx
      | some l =>
        rw [hLj] at hx
        cases hx
        have hjl : j < L.length := (List.getElem?_eq_some_iff.1 hLj).1
        have h1 : cur.toList[j]? = some (sv l) := by
          have h2 : (cur.toList.take (L.length * 1))[j]? = some (sv l) := by rw [htk, List.getElem?_map, hLj]; rfl
          rwa [List.getElem?_take_of_lt (by omega)] at h2
        rw [Nat.zero_add]
        simp only [World.cell?, hg, Option.isSome_none, Bool.false_eq_true, if_false]
        rw [Array.getElem?_toList] at h1
        exact h1) hlt (by rw [List.length_map]; omega) (by rw [List.length_map]; exact hnc) (by rw [hm]; show (Lib.join L []).length ≤ _; rw [join_flat]; exact hj)
    rw [hm, List.length_map, show (⟨#[]⟩ : ByteArray).data.toList = [] from rfl, join_flat] at K
    exact K
theorem word_len {p : Ro.Pt} {x : List UInt8} {m : Nat} (h : Ro.word p = some x) (hp : p.2.length ≤ m) : x.length ≤ 3 * m + 3 := by
  unfold Ro.word at h
  have he := (Gt.enc_length p.2).2
  by_cases h1 : p.1 = 1
  · rw [if_pos h1] at h; cases h; simp; omega
  rw [if_neg h1] at h
  by_cases h2 : p = (2, [])
  · rw [if_pos h2] at h; cases h; simp
  rw [if_neg h2] at h
  by_cases h3 : p = (3, [])
  · rw [if_pos h3] at h; cases h; simp
  · rw [if_neg h3] at h; cases h
theorem rt_clearT (a : Addr) (w : World) (old : Value) (hc : w.cell? a = some old) (hz : w.frozen? a = false) :
    Calls Tryz.prog 39 #[.pointer (some a)] w fun e w' => e = .returned (.tuple #[]) ∧ w' = w.setCell a (.string ⟨#[]⟩) := by
  go_enter Tryz.func39, Tryz.ntmps39
  go_wp2
  simp [bodyPost, results, Tryz.results39, go_sem]
theorem clearT_enter (cap : Array Value) (W : World) : (callFunc 39 cap).run Tryz.prog W = .ok (.enter 39 cap) W := by
  simp [callFunc, go_sem, Tryz.func39]
  rw [if_neg (by decide), if_neg (by decide)]
/-- what Text tells -/
def txOut (o : Option (List UInt8)) : Ending := .returned (.tuple #[sv (o.getD []), .int .i64 (rtErr o)])
/-- a list that is none: the panic is caught -/
theorem text_door (R : Option (List UInt8)) (hR : R = none) (x : ByteArray) (w W : World) (hB : Below w.heap.size w W) (hT : W.heap[w.heap.size]? = some (.cells #[.string x] 9 (0, 0))) (hE : W.heap[w.heap.size + 1]? = some (.cells #[.int .i64 0] 24 (0, 0)))
    (x0 x4 x5 x6 x7 x8 x9 x10 x11 x12 x13 x14 : Value) :
    bodyPostD Tryz.prog Tryz.f17 (fun e w' => e = txOut R ∧ Below w.heap.size w w') (.panic [{ v := errno 360, recovered := false }])
      { tmps := #[x0, undef, .pointer (some ⟨w.heap.size, 0, none⟩), .pointer (some ⟨w.heap.size + 1, 0, none⟩), x4, x5, x6, x7, x8, x9, x10, x11, x12, x13, x14], defers := [{ target := Target.fn (Fn.func 35) #[], args := #[.pointer (some ⟨w.heap.size + 1, 0, none⟩), .func (.func 39) #[] #[.pointer (some ⟨w.heap.size, 0, none⟩)]] }] } W := by
  subst hR
  have c0 : W.cell? ⟨w.heap.size, 0, none⟩ = some (.string x) := by simp [World.cell?, hT]
  have c1 : W.cell? ⟨w.heap.size + 1, 0, none⟩ = some (.int .i64 0) := by simp [World.cell?, hE]
  have z0 : W.frozen? ⟨w.heap.size, 0, none⟩ = false := frozen_of_row _ _ _ _ _ hT
  have z1 : W.frozen? ⟨w.heap.size + 1, 0, none⟩ = false := frozen_of_row _ _ _ _ _ hE
  refine leaves_cons (f := 35) (args := #[.pointer (some ⟨w.heap.size + 1, 0, none⟩), .func (.func 39) #[] #[.pointer (some ⟨w.heap.size, 0, none⟩)]]) (by simp) (by simp [go_sem]) ?_
  have c2 : (W.setCell ⟨w.heap.size, 0, none⟩ (.string ⟨#[]⟩)).cell? ⟨w.heap.size + 1, 0, none⟩ = some (.int .i64 0) := by rw [World.cell?_setCell_other]; exact c1; simp
  have z2 : (W.setCell ⟨w.heap.size, 0, none⟩ (.string ⟨#[]⟩)).frozen? ⟨w.heap.size + 1, 0, none⟩ = false := by simpa using z1
  refine (rt_caught ⟨w.heap.size + 1, 0, none⟩ 39 #[.pointer (some ⟨w.heap.size, 0, none⟩)] 360 [] W (W.setCell ⟨w.heap.size, 0, none⟩ (.string ⟨#[]⟩)) (clearT_enter _) (rt_clearT _ _ _ c0 z0) (.int .i64 0) c2 z2).mono ?_
  rintro e u' w'' ⟨rfl, rfl, rfl⟩
  simp [Leaves, settle, results, Tryz.results17, go_sem, c0, c1]
  exact ⟨rfl, (hB.setCell (Nat.le_refl _) _).setCell (Nat.le_succ _) _⟩
theorem rt_Text (v : Value) (L : List Ro.Pt) (w : World) (hv : PtS w v L) (hL : L.length ≤ 2000) (hl : ∀ p ∈ L, p.2.length ≤ 30000) (hk : KX w) :
    Calls Tryz.prog 17 #[v] w fun e w' => e = txOut (Ro.text L) ∧ Below w.heap.size w w' := by
  have hmf : ∀ (fn : Fn) (first cap : Array Value) (w : World), (Instr.makeFunc fn first cap).run Tryz.prog w = .ok (.func fn first cap) w := fun _ _ _ _ => rfl
  obtain ⟨W3, hW3⟩ : ∃ W, (w.alloc (.cells #[.string ⟨#[]⟩] 9)).alloc (.cells #[.int .i64 0] 24) = W := ⟨_, rfl⟩
  have HSZ := Lib.hid (show W3.heap.size = w.heap.size + 2 by rw [← hW3]; simp)
  have HB := Lib.hid (show Below w.heap.size w W3 by
    rw [← hW3]
    exact ((Below.refl _ _).alloc (Nat.le_refl _) _).alloc (by simp) _)
  have HC0 := Lib.hid (show W3.heap[w.heap.size]? = some (.cells #[.string ⟨#[]⟩] 9 (0, 0)) by
    rw [← hW3, Below.heap_alloc _ _ _ (by simp)]
    exact World.alloc_heap_new _ _)
  have HC1 := Lib.hid (show W3.heap[w.heap.size + 1]? = some (.cells #[.int .i64 0] 24 (0, 0)) by
    rw [← hW3]
    have := World.alloc_heap_new (w.alloc (.cells #[.string ⟨#[]⟩] 9)) (.cells #[.int .i64 0] 24)
    simpa using this)
  have HW3 := Lib.hid hW3
  have HV3 := Lib.hid (hv.below HB.out)
  have HK := Lib.hid (hk.below HB.out)
  have HLL := Lib.hid hl
  obtain ⟨p, c, rfl⟩ := hv.slice
  obtain ⟨n, hn⟩ : ∃ n, L.length = n := ⟨_, rfl⟩
  have KR := Lib.hid (rt_right _ L W3 HV3.out (by omega))
  obtain ⟨R, hR⟩ : ∃ R, Ro.text L = R := ⟨_, rfl⟩
  rw [hR]
  have HR := Lib.hid hR
  rw [hn] at HV3 KR ⊢
  have HN := Lib.hid hn
  clear hW3 hv hl hn hR
  cases hr : Ro.right L with
  | false =>
    rw [hr] at KR
    have HNO := Lib.hid (HR.out.symm.trans (Ro.text_bad hr))
    clear hr
    go_enter_defers Tryz.func17, Tryz.ntmps17
    go_wp2_with fail
    rw [HW3.out]
    refine KR.out.mono ?_
    rintro e w4 ⟨rfl, hb⟩
    have k := text_door R HNO.out ⟨#[]⟩ w w4 (HB.out.trans (hb.mono HB.out.size)) ((hb.block _ (by rw [HSZ.out]; omega)).trans HC0.out) ((hb.block _ (by rw [HSZ.out]; omega)).trans HC1.out)
    exact k _ _ _ _ _ _ _ _ _ _ _ _
  | true =>
    rw [hr] at KR
    have HRT := Lib.hid hr
    clear hr
    go_enter_defers Tryz.func17, Tryz.ntmps17
    go_wp2_with fail
    rw [HW3.out]
    refine KR.out.mono ?_
    rintro e w4 ⟨rfl, hb4⟩
    have HB4 := Lib.hid (HB.out.trans (hb4.mono HB.out.size))
    have HC40 := Lib.hid ((hb4.block _ (by rw [HSZ.out]; omega)).trans HC0.out)
    have HC41 := Lib.hid ((hb4.block _ (by rw [HSZ.out]; omega)).trans HC1.out)
    have HZ4 := Lib.hid (show w.heap.size + 2 ≤ w4.heap.size by rw [← HSZ.out]; exact hb4.size)
    have KM := Lib.hid (rt_madeW _ L w4 (HV3.out.below hb4) (by have := HN.out; omega) HLL.out (HK.out.below hb4).tabs)
    clear hb4
    simp only [if_true]
    go_wp2_with fail
    refine KM.out.mono ?_
    rintro e w5 ⟨⟨ws, r, hws, rfl, hown⟩ | ⟨hws, rfl⟩, hb5⟩
    · have HB5 := Lib.hid (HB4.out.trans (hb5.mono HB4.out.size))
      have HC50 := Lib.hid ((hb5.block _ (by have := HZ4.out; omega)).trans HC40.out)
      have HC51 := Lib.hid ((hb5.block _ (by have := HZ4.out; omega)).trans HC41.out)
      have HZ5 := Lib.hid (Nat.le_trans HZ4.out hb5.size)
      have hwl : ∀ x ∈ ws, x.length ≤ 90003 := fun x hx => by
        obtain ⟨q, hq, hqx⟩ := Gt.all_each hws x hx
        have := word_len hqx (HLL.out q hq)
        omega
      have hwn : ws.length ≤ 2000 := by rw [Gt.all_length hws]; exact hL
      have hfl : ws.flatten.length ≤ 2000 * 90003 := Nat.le_trans (flat_len hwl) (Nat.mul_le_mul_right _ hwn)
      have HTX := Lib.hid (HR.out.symm.trans (Ro.text_is HRT.out hws))
      have KJ := Lib.hid (rt_join ws hown (by omega) (by omega))
      obtain ⟨tb, htb, htd⟩ := sv_is ws.flatten
      rw [htb] at KJ
      have HTB := Lib.hid htb
      have HTS := Lib.hid (show ws.flatten.length = tb.size by rw [← htd]; rfl)
      have hts : tb.size ≤ 180006000 := by rw [← HTS.out]; omega
      clear hb5 hws hown hwl hwn hfl htb htd
      go_wp2_with fail
      refine KJ.out.mono ?_
      rintro e w6 ⟨rfl, hb6⟩
      have HB6 := Lib.hid (HB5.out.trans (hb6.mono HB5.out.size))
      have hd0 := (hb6.block _ (by have := HZ5.out; omega)).trans HC50.out
      have hd1 := (hb6.block _ (by have := HZ5.out; omega)).trans HC51.out
      have HD1 := Lib.hid hd1
      have HD0 := Lib.hid hd0
      have c0 : w6.cell? ⟨w.heap.size, 0, none⟩ = some (.string ⟨#[]⟩) := by simp [World.cell?, hd0]
      have c1 : w6.cell? ⟨w.heap.size + 1, 0, none⟩ = some (.int .i64 0) := by simp [World.cell?, hd1]
      have z0 : w6.frozen? ⟨w.heap.size, 0, none⟩ = false := frozen_of_row _ _ _ _ _ hd0
      have z1 : w6.frozen? ⟨w.heap.size + 1, 0, none⟩ = false := frozen_of_row _ _ _ _ _ hd1
      clear hd0 hd1 hb6
      by_cases hle : tb.size ≤ 1024
      · have h1 : decide ((tb.size : Int) ≤ 1024) = true := decide_eq_true (by omega)
        have HY := Lib.hid (HTX.out.trans (if_pos (by rw [HTS.out]; exact hle)))
        clear hle
        go_wp2_with fail
        refine (rt_must 360 _).mono ?_
        rintro e w7 ⟨rfl, hw7⟩
        subst w7
        go_wp2
        refine leaves_cons (f := 35) (args := #[.pointer (some ⟨w.heap.size + 1, 0, none⟩), .func (.func 39) #[] #[.pointer (some ⟨w.heap.size, 0, none⟩)]]) (by simp) (by simp [go_sem]) ?_
        refine (rt_caught_idle _ _ _).mono ?_
        rintro e u' w'' ⟨rfl, rfl, rfl⟩
        simp [Leaves, settle, results, Tryz.results17, go_sem, c0, c1]
        exact ⟨by rw [HY.out]; show _ = Ending.returned (.tuple #[sv ws.flatten, .int .i64 0]); rw [HTB.out], (((HB6.out.setCell (Nat.le_refl _) _).setCell (Nat.le_refl _) _).setCell (Nat.le_succ _) _)⟩
      · have h1 : decide ((tb.size : Int) ≤ 1024) = false := decide_eq_false (by omega)
        have HY := Lib.hid (HTX.out.trans (if_neg (by rw [HTS.out]; exact hle)))
        clear hle
        go_wp2_with fail
        refine (rt_must_no 360 _).mono ?_
        rintro e w7 ⟨rfl, hw7⟩
        subst w7
        have k := text_door R HY.out tb w (w6.setCell ⟨w.heap.size, 0, none⟩ (.string tb)) (HB6.out.setCell (Nat.le_refl _) _) (heap_setCell_same _ _ 0 _ _ _ HD0.out) (by rw [Below.heap_setCell _ _ _ _ (by simp)]; exact HD1.out)
        exact k _ _ _ _ _ _ _ _ _ _ _ _
    · have HNO := Lib.hid (HR.out.symm.trans (Ro.text_none hws))
      have k := text_door R HNO.out ⟨#[]⟩ w w5 (HB4.out.trans (hb5.mono HB4.out.size)) ((hb5.block _ (by have := HZ4.out; omega)).trans HC40.out) ((hb5.block _ (by have := HZ4.out; omega)).trans HC41.out)
      exact k _ _ _ _ _ _ _ _ _ _ _ _
end Go.Proofs.YtgfammlmbjmkoaaGreatDoor

/- target: pairs made of texts. -/
namespace Go.Proofs.YtgfammlmbjmkoaaGreatDoor
set_option linter.unusedVariables false
set_option linter.unusedSimpArgs false
open Go.RowKit Go.Shelf
set_option maxHeartbeats 4000000
set_option maxRecDepth 100000
/-- pairs' cells -/
def prs (l : List (List UInt8 × List UInt8)) : List Value := l.flatMap fun p => [tx p.1, tx p.2]
theorem prs_snoc (l : List (List UInt8 × List UInt8)) (p : List UInt8 × List UInt8) : prs (l ++ [p]) = prs l ++ [tx p.1, tx p.2] := by unfold prs; rw [List.flatMap_append]; simp
theorem own_ge2 {w : World} {B : Nat} {e : TypeId} {s : Nat} {v : Value} {n : Nat} {xs : List Value} (h : w.ownsRow B e s v n xs) : ∀ k, v.ownBlock = some k → B ≤ k := fun k hk => (h.lt k hk).1
end Go.Proofs.YtgfammlmbjmkoaaGreatDoor

/- target: Parse's clearing closure. -/
namespace Go.Proofs.YtgfammlmbjmkoaaGreatDoor
set_option linter.unusedVariables false
set_option linter.unusedSimpArgs false
open Go.RowKit Go.Shelf
set_option maxHeartbeats 2000000
set_option maxRecDepth 100000
end Go.Proofs.YtgfammlmbjmkoaaGreatDoor

/- Slices of bytes, and slices of such, as they lie in memory. No condition but those that each lemma states. -/
namespace Go.Proofs.YtgfammlmbjmkoaaGreatDoor
set_option linter.unusedVariables false
set_option linter.unusedSimpArgs false
open Go.RowKit
def by8 (b : UInt8) : Value := .int .u8 (b.toNat : Int)
/-- a slice of bytes -/
def BRow (w : World) (v : Value) (l : List UInt8) : Prop := ∃ ao cap, v = .slice ao l.length cap ∧ l.length ≤ cap ∧
  ((ao = none ∧ l = [] ∧ cap = 0) ∨ ∃ g o, ao = some ⟨g, o, none⟩ ∧ ∀ j, j < l.length → w.cell? ⟨g, o + j, none⟩ = some (by8 (l.getD j 0)))
theorem BRow.below {w w' : World} {v : Value} {l : List UInt8} (h : BRow w v l) (hb : Below w.heap.size w w') : BRow w' v l := by
  obtain ⟨ao, cap, rfl, hc, h⟩ := h
  refine ⟨ao, cap, rfl, hc, ?_⟩
  rcases h with h | ⟨g, o, rfl, h⟩
  · exact .inl h
  · exact .inr ⟨g, o, rfl, fun j hj => cell_below hb (h j hj)⟩
theorem BRow.nil (w : World) : BRow w (.slice none 0 0) [] := ⟨none, 0, rfl, Nat.le_refl _, .inl ⟨rfl, rfl, rfl⟩⟩
/-- one block holds no byte: what else holds bytes lies elsewhere -/
theorem BRow.grown {w w' : World} {v : Value} {l : List UInt8} {K : Nat} {x : Value} {t : TypeId} (h : BRow w v l) (hK : w.heap[K]? = some (.cells #[x] t (0, 0))) (hx : ∀ k n, x ≠ .int k n) (hg : w.grownBy w' (some K)) : BRow w' v l := by
  obtain ⟨ao, cap, rfl, hc, h⟩ := h
  refine ⟨ao, cap, rfl, hc, ?_⟩
  rcases h with h | ⟨g, o, rfl, h⟩
  · exact .inl h
  · refine .inr ⟨g, o, rfl, fun j hj => ?_⟩
    have hc := h j hj
    have hne : some g ≠ some K := by
      intro e
      obtain rfl : g = K := by simpa using e
      simp only [World.cell?, hK, Option.bind_eq_bind] at hc
      rcases Nat.eq_zero_or_pos (o + j) with h0 | h0
      · rw [h0] at hc
        simp [by8] at hc
        exact hx _ _ hc
      · have : (#[x] : Array Value)[o + j]? = none := Array.getElem?_eq_none (by simp; omega)
        simp [this] at hc
    have hlt := lt_of_cell hc
    exact (World.cell?_of_block (a := ⟨g, o + j, none⟩) (hg.block g hlt hne)).trans hc
/-- a slice of slices of bytes -/
def BRows (w : World) (v : Value) (L : List (List UInt8)) : Prop := ∃ p c, v = .slice p L.length c ∧ L.length ≤ c ∧
  ((p = none ∧ L = [] ∧ c = 0) ∨ ∃ g o, p = some ⟨g, o, none⟩ ∧ ∀ k, k < L.length → ∃ x, w.cell? ⟨g, o + k, none⟩ = some x ∧ BRow w x (L.getD k []))
theorem BRows.below {w w' : World} {v : Value} {L : List (List UInt8)} (h : BRows w v L) (hb : Below w.heap.size w w') : BRows w' v L := by
  obtain ⟨p, c, rfl, hc, h⟩ := h
  refine ⟨p, c, rfl, hc, ?_⟩
  rcases h with h | ⟨g, o, rfl, h⟩
  · exact .inl h
  · refine .inr ⟨g, o, rfl, fun k hk => ?_⟩
    obtain ⟨x, h1, h2⟩ := h k hk
    exact ⟨x, cell_below hb h1, h2.below hb⟩
/-- what a slice of the call's own owns reads as bytes -/
theorem BRow.of_own {w : World} {base : Nat} {v : Value} {l : List UInt8} {n : Nat} (h : w.ownsRow base 5 1 v n (l.map by8)) : BRow w v l := by
  have hl : n = l.length := by have := h.1; simpa using this.symm
  subst hl
  rcases h.2 with ⟨rfl, h0⟩ | ⟨g, cap, cur, rfl, hb, hg, hn, hm, hs, ht⟩
  · have : l = [] := List.length_eq_zero_iff.1 h0
    subst this
    exact BRow.nil w
  · refine ⟨_, cap, rfl, hn, .inr ⟨g, 0, rfl, fun j hj => ?_⟩⟩
    rw [Nat.zero_add]
    unfold World.cell?
    rw [show (⟨g, j, none⟩ : Addr).block = g from rfl, hg]
    show (if (none : Option _).isSome then none else cur[j]?) = _
    have h1 : (cur.toList.take (l.length * 1))[j]? = (l.map by8)[j]? := by rw [ht]
    rw [List.getElem?_take_of_lt (by omega)] at h1
    rw [if_neg (by simp), ← Array.getElem?_toList, h1, List.getElem?_map, List.getElem?_eq_getElem hj, List.getD_eq_getElem?_getD, List.getElem?_eq_getElem hj]
    rfl
theorem conv_brow {w : World} {v : Value} {l : List UInt8} (h : BRow w v l) : (convert 46 9 v).run Tryz.prog w = .ok (.string ⟨l.toArray⟩) w := by
  obtain ⟨ao, cap, rfl, hc, h⟩ := h
  rcases h with ⟨rfl, rfl, rfl⟩ | ⟨g, o, rfl, h⟩
  · rw [show ([] : List UInt8).length = 0 from rfl, run_convert_bytes_string w 46 9 5 none 0 0 Tryz.underlying46 Tryz.underlying5 Tryz.underlying9]
    rfl
  · refine run_convert_bytes_back w 46 9 5 ⟨g, o, none⟩ cap l Tryz.underlying46 Tryz.underlying5 Tryz.underlying9 (fun j hj => ?_)
    rw [Lib.add_plain, h j hj, List.getD_eq_getElem?_getD, List.getElem?_eq_getElem hj]
    rfl
theorem by8_one (u : Value) (l : List UInt8) (h : u ∈ l.map by8) : u.oneCell' = true := by
  obtain ⟨b, _, rfl⟩ := List.mem_map.1 h
  rfl
/-- the bytes of a row, as append asks for them -/
theorem BRow.news {w : World} {g o : Nat} {l : List UInt8} (h : ∀ j, j < l.length → w.cell? ⟨g, o + j, none⟩ = some (by8 (l.getD j 0))) (j : Nat) (u : Value) (hj : (l.map by8)[j]? = some u) : w.cell? ((⟨g, o, none⟩ : Addr).add j) = some u := by
  rw [List.getElem?_map] at hj
  rcases hl : l[j]? with _ | x
  · rw [hl] at hj; cases hj
  · rw [hl] at hj
    have hlt := (List.getElem?_eq_some_iff.1 hl).1
    rw [Lib.add_plain, h j hlt, List.getD_eq_getElem?_getD, hl]
    exact hj
end Go.Proofs.YtgfammlmbjmkoaaGreatDoor

/- The reference's Decode. -/
namespace Go.Proofs.YtgfammlmbjmkoaaGreatDoor
set_option linter.unusedVariables false
set_option linter.unusedSimpArgs false
open Go.RowKit Go.Shelf
set_option maxHeartbeats 4000000
set_option maxRecDepth 100000
/-- what the slots of the drawn region hold -/
def RdF (s : ByteArray) (i : Nat) (x1 x2 d1 d2 y : Int) (v0 : Value) (B n : Nat) (xs : List Value) : Nat → World → Value → Prop
  | 0, _, v => v = v0
  | 1, _, v => v = .string s
  | 2, _, v => v = .int .i64 i
  | 3, _, v => v = .int .i64 (i + 1 : Nat)
  | 4, _, v => v = .int .u8 x1
  | 5, _, v => v = .int .u64 d1
  | 6, _, v => v = .int .u64 (16 * d1)
  | 7, _, v => v = .string s
  | 8, _, v => v = .int .i64 i
  | 9, _, v => v = .int .i64 (i + 2 : Nat)
  | 10, _, v => v = .int .u8 x2
  | 11, _, v => v = .int .u64 d2
  | 12, _, v => v = .int .u64 (16 * d1 + d2)
  | 13, _, v => v = .int .u8 y
  | 14, w, v => ∃ g, v = .slice (some ⟨g, 0, none⟩) 1 1 ∧ w.heap[g]? = some (.cells #[.int .u8 y] 5 (0, 0)) ∧ v0.ownBlock ≠ some g
  | 15, w, v => w.ownsRow B 5 1 v (n + 1) (xs ++ [.int .u8 y])
  | 16, w, v => w.ownsRow B 5 1 v (n + 1) (xs ++ [.int .u8 y])
  | _, _, _ => False
def rdSlot (i : Nat) : Nat := ([46, 47, 48, 49, 50, 51, 52, 53, 54, 55, 56, 57, 58, 59, 60, 61, 6] : List Nat).getD i 46
theorem rdSlot_lt (i : Nat) : rdSlot i < 77 := by
  unfold rdSlot
  match i with
  | 0 | 1 | 2 | 3 | 4 | 5 | 6 | 7 | 8 | 9 | 10 | 11 | 12 | 13 | 14 | 15 | 16 => decide
  | n + 17 => simp
theorem rdSlot_inj : ∀ i, i < 17 → ∀ j, j < 17 → rdSlot i = rdSlot j → i = j := by decide
theorem RdF.alloc {s : ByteArray} {i : Nat} {x1 x2 d1 d2 y : Int} {v0 : Value} {B n : Nat} {xs : List Value} (j : Nat) (w : World) (o : Obj) (v : Value) (h : RdF s i x1 x2 d1 d2 y v0 B n xs j w v) : RdF s i x1 x2 d1 d2 y v0 B n xs j (w.alloc o) v := by
  match j, h with
  | 0, h | 1, h | 2, h | 3, h | 4, h | 5, h | 6, h | 7, h | 8, h | 9, h | 10, h | 11, h | 12, h | 13, h => exact h
  | 14, ⟨g, h1, h2, h3⟩ =>
    refine ⟨g, h1, ?_, h3⟩
    rw [Below.heap_alloc _ _ _ (Array.getElem?_eq_some_iff.1 h2).1]
    exact h2
  | 15, h => exact World.ownsRow.alloc h _
  | 16, h => exact World.ownsRow.alloc h _
  | n + 17, h => exact h.elim
/-- the world, as far as the region has come -/
def RdT (w0 : World) (v0 : Value) (B n : Nat) (xs : List Value) (f : Nat → Bool) (w : World) : Prop :=
  Below B w0 w ∧ (f 15 = false → w.ownsRow B 5 1 v0 n xs ∧ f 16 = false) ∧ (f 0 = false → f 15 = false) ∧ (f 14 = false → f 15 = false)
/-- one operation that leaves the world -/
theorem s2_same {P : Program} {o : Oper} {a : Act} {w : World} {Q : Exit → Act → World → Prop} {F : Nat → World → Value → Prop} {T : (Nat → Bool) → World → Prop} {f : Nat → Bool} {i : Nat} (v : Value)
    (h : o.wp P a w (fun a' w' => a' = a.put o.dst v ∧ w' = w) Q) (hF : F i w v) (hT : T (fun j => if j = i then true else f j) w) :
    o.wp P a w (fun a' w' => ∃ v, a' = a.put o.dst v ∧ F i w' v ∧ T (fun j => if j = i then true else f j) w' ∧ ∀ j v', f j = true → F j w v' → F j w' v') Q := by
  refine Oper.wp_mono ?_ h
  rintro a' w' ⟨rfl, rfl⟩
  exact ⟨v, rfl, hF, hT, fun _ _ _ h => h⟩
theorem rdT_step {w0 w : World} {v0 : Value} {B n : Nat} {xs : List Value} {f : Nat → Bool} {i : Nat} (h : RdT w0 v0 B n xs f w) (h1 : i ≠ 15) (h2 : i ≠ 16) : RdT w0 v0 B n xs (fun j => if j = i then true else f j) w := by
  obtain ⟨a, b, c, d⟩ := h
  refine ⟨a, fun h3 => ?_, fun h3 => ?_, fun h3 => ?_⟩
  · have h4 : f 15 = false := by simpa [Ne.symm h1] using h3
    exact ⟨(b h4).1, by simpa [Ne.symm h2] using (b h4).2⟩
  · have : f 0 = false := by by_cases e : 0 = i <;> simp_all
    simpa [Ne.symm h1] using c this
  · have : f 14 = false := by by_cases e : 14 = i <;> simp_all
    simpa [Ne.symm h1] using d this
theorem ev_tmp {a : Act} {t : Nat} {v : Value} (h : a.tmps.getD t undef = v) : a.tmps[t]?.getD undef = v := by rw [← Array.getD_eq_getD_getElem?]; exact h
/-- what Decode answers -/
theorem call_same {P : Program} {o : Oper} {a : Act} {w : World} {Q : Exit → Act → World → Prop} (t k : Nat) (ty : Array TypeId) (v r : Value) (ho : o.op = Op.call { callee := .value (.func k), args := #[.tmp t], argTypes := ty }) (hv : a.tmps.getD t undef = v)
    (eg : ∀ args w, (callFunc k args).run P w = .ok (.enter k args) w) (hc : Calls P k #[v] w fun e w' => e = .returned r ∧ w = w') :
    o.wp P a w (fun a' w' => a' = a.put o.dst r ∧ w' = w) Q := by
  have e := ev_tmp hv
  have e2 : a.eval (.func k) = .func (.func k) #[] #[] := rfl
  unfold Oper.wp execOp
  simp [ho, resolve, invoke, e2, e, eg, go_sem]
  refine hc.mono ?_
  rintro z w' ⟨rfl, rfl⟩
  exact ⟨rfl, rfl⟩
theorem ref_Decode (s : ByteArray) (pl : Bool) (w : World) (hs : s.size ≤ 1000000) :
    Calls Tryz.prog 66 #[.string s, .bool pl] w fun e w' => e = .returned (decOut (Gt.dec pl s.data.toList)) ∧ Below w.heap.size w w' := by
  obtain ⟨i0, hi, hz0, hz1, hz2⟩ := info_parts (show (Tryz.prog.info? 5).map (fun i => (i.zero, i.size, i.bytes)) = some (some (.int .u8 0), 1, 1) by kernel_rfl)
  obtain ⟨B, hB⟩ : ∃ B, w.heap.size = B := ⟨_, rfl⟩
  rw [hB]
  have HL := Lib.hid (show s.data.toList.length = s.size from rfl)
  have HIX := Lib.hid (fun k h W => index_at s W k h)
  obtain ⟨O, hO⟩ : ∃ O, Gt.dec pl s.data.toList = O := ⟨_, rfl⟩
  rw [hO]
  have HO := Lib.hid hO
  clear hO
  go_enter Tryz.func66, Tryz.ntmps66
  go_wp2_with fail
  go_loopw [6, 7] (fun v i wr => ∃ (k : Nat) (acc : List UInt8), i = .int .i64 k ∧ Gt.DAt pl s.data.toList acc k ∧ wr.ownsRow B 5 1 v acc.length (acc.map by8) ∧ Below B w wr)
    (fun _ i _ => s.size - (intOf i).toNat)
  case atStart => exact ⟨0, [], rfl, Gt.dAt_start _ _, World.ownsRow_nil _ _ _ _, Below.refl _ _⟩
  case round =>
    obtain ⟨k, acc, rfl, hat, hown, hbl⟩ := hrel
    obtain ⟨V, rfl⟩ : ∃ V, V = u6 := ⟨_, rfl⟩
    have hk : k ≤ s.size := hat.1
    have hacc : acc.length ≤ k := hat.2.1
    have HA := Lib.hid hat
    have HN := Lib.hid hown
    have HB := Lib.hid hbl
    clear hat hown hbl
    by_cases hlt : k < s.size
    · have HKL := Lib.hid (show k < s.data.toList.length from hlt)
      obtain ⟨c, hcc⟩ : ∃ c, s.data.toList[k]'HKL.out = c := ⟨_, rfl⟩
      have HC := Lib.hid hcc
      obtain ⟨x, hx⟩ : ∃ x : Int, (c.toNat : Int) = x := ⟨_, rfl⟩
      have hsx : ((s[k]'hlt).toNat : Int) = x := by rw [← hx, ← hcc]; rfl
      have HX := Lib.hid hx
      clear hx hcc
      by_cases he : x = 37
      · subst he
        have HC37 := Lib.hid (show c = 37 from UInt8.toNat_inj.1 (by have := HX.out; show c.toNat = 37; omega))
        by_cases hsh : s.size ≤ k + 2
        · have HE := Lib.hid (Gt.dAt_short HA.out HKL.out (HC.out.trans HC37.out) (by rw [HL.out]; exact hsh))
          go_wp2_with fail
          go_ret2
          exact ⟨by rw [← HO.out, HE.out]; rfl, HB.out⟩
        · have hk1 : k + 1 < s.size := by omega
          have hk2 : k + 2 < s.size := by omega
          have HK1 := Lib.hid (show k + 1 < s.data.toList.length by rw [HL.out]; exact hk1)
          have HK2 := Lib.hid (show k + 2 < s.data.toList.length by rw [HL.out]; exact hk2)
          obtain ⟨b1, hb1⟩ : ∃ b, s.data.toList[k + 1]'HK1.out = b := ⟨_, rfl⟩
          obtain ⟨b2, hb2⟩ : ∃ b, s.data.toList[k + 2]'HK2.out = b := ⟨_, rfl⟩
          obtain ⟨x1, hx1⟩ : ∃ x : Int, (b1.toNat : Int) = x := ⟨_, rfl⟩
          obtain ⟨x2, hx2⟩ : ∃ x : Int, (b2.toNat : Int) = x := ⟨_, rfl⟩
          have r1 : ∀ W, (Instr.index 9 (.string s) (.int .i64 ((k : Int) + 1))).run Tryz.prog W = .ok (.int .u8 x1) W := fun W => by
            have := HIX.out (k + 1) hk1 W
            rw [show ((s[k + 1]'hk1).toNat : Int) = x1 by rw [← hx1, ← hb1]; rfl] at this
            exact this
          have r2 : ∀ W, (Instr.index 9 (.string s) (.int .i64 ((k : Int) + 2))).run Tryz.prog W = .ok (.int .u8 x2) W := fun W => by
            have := HIX.out (k + 2) hk2 W
            rw [show ((s[k + 2]'hk2).toNat : Int) = x2 by rw [← hx2, ← hb2]; rfl] at this
            exact this
          have K1 := Lib.hid (fun W => ref_digit x1 W (by omega) (by have := b1.toNat_lt; omega))
          have K2 := Lib.hid (fun W => ref_digit x2 W (by omega) (by have := b2.toNat_lt; omega))
          have HV1 := Lib.hid (show Gt.hx (s.data.toList[k + 1]'HK1.out) = Dp.digV x1 by unfold Gt.hx; rw [hb1, hx1])
          have HV2 := Lib.hid (show Gt.hx (s.data.toList[k + 2]'HK2.out) = Dp.digV x2 by unfold Gt.hx; rw [hb2, hx2])
          have hl1 := Dp.digV_lo x1
          have hl2 := Dp.digV_lo x2
          obtain ⟨d1, hd1⟩ : ∃ d, Dp.digV x1 = d := ⟨_, rfl⟩
          obtain ⟨d2, hd2⟩ : ∃ d, Dp.digV x2 = d := ⟨_, rfl⟩
          rw [hd1] at K1 HV1 hl1
          rw [hd2] at K2 HV2 hl2
          have HB12 := Lib.hid (show Gt.two (s.data.toList[k + 1]'HK1.out) (s.data.toList[k + 2]'HK2.out) = Gt.two b1 b2 by rw [hb1, hb2])
          have HH := Lib.hid (show Gt.hx b1 = d1 ∧ Gt.hx b2 = d2 by rw [← hb1, ← hb2]; exact ⟨HV1.out, HV2.out⟩)
          clear hb1 hb2 hx1 hx2 hd1 hd2 hsh
          by_cases h1 : 15 < d1
          · have HE := Lib.hid (Gt.dAt_bad HA.out HK2.out (HC.out.trans HC37.out) (fun h => by have := h.1; rw [HV1.out] at this; omega))
            go_wp2_with fail
            refine (K1.out _).mono ?_
            rintro e w3 ⟨rfl, rfl⟩
            go_wp2_with fail
            go_ret2
            exact ⟨by rw [← HO.out, HE.out]; rfl, HB.out⟩
          · by_cases h2 : 15 < d2
            · have HE := Lib.hid (Gt.dAt_bad HA.out HK2.out (HC.out.trans HC37.out) (fun h => by have := h.2; rw [HV2.out] at this; omega))
              go_wp2_with fail
              refine (K1.out _).mono ?_
              rintro e w3 ⟨rfl, rfl⟩
              go_wp2_with fail
              refine (K2.out _).mono ?_
              rintro e w3 ⟨rfl, rfl⟩
              go_wp2_with fail
              go_ret2
              exact ⟨by rw [← HO.out, HE.out]; rfl, HB.out⟩
            · have HD := Lib.hid (Gt.dAt_pct HA.out HK2.out (HC.out.trans HC37.out) ⟨by rw [HV1.out]; omega, by rw [HV2.out]; omega⟩)
              rw [HB12.out] at HD
              have HTW := Lib.hid (show ((Gt.two b1 b2).toNat : Int) = 16 * d1 + d2 by rw [Gt.two_val _ _ ⟨by rw [HH.out.1]; omega, by rw [HH.out.2]; omega⟩, HH.out.1, HH.out.2])
              go_wp2_with fail
              refine (K1.out _).mono ?_
              rintro e w3 ⟨rfl, rfl⟩
              go_wp2_with fail
              refine (K2.out _).mono ?_
              rintro e w3 ⟨rfl, rfl⟩
              go_wp2_with fail
              have HWS := Lib.hid (show IntKind.i64.wrap ((k : Int) + 1) = (k : Int) + 1 ∧ IntKind.i64.wrap ((k : Int) + 2) = (k : Int) + 2 ∧ IntKind.u64.wrap (16 * d1) = 16 * d1 ∧ IntKind.u64.wrap (16 * d1 + d2) = 16 * d1 + d2 ∧ IntKind.u8.wrap (16 * d1 + d2) = 16 * d1 + d2 from
                ⟨IntWalk.i64_in _ (by omega), IntWalk.i64_in _ (by omega), by simp only [IntKind.wrap_u64]; omega, by simp only [IntKind.wrap_u64]; omega, by simp only [IntKind.wrap_u8]; omega⟩)
              refine region_slots2 rdSlot (RdF s k x1 x2 d1 d2 (16 * d1 + d2) V B acc.length (acc.map by8)) (RdT w V B acc.length (acc.map by8)) (by kernel_rfl) (by kernel_rfl) rdSlot_lt (fun i j hi hj => rdSlot_inj i hi j hj) ?start ?dst ?step ?done
              case start => exact ⟨HB.out.drew, fun _ => ⟨HN.out.belowed (Below.refl _ _).drew, rfl⟩, fun _ => rfl, fun _ => rfl⟩
              case dst =>
                intro i o ho
                match i, ho with
                | 0, ho | 1, ho | 2, ho | 3, ho | 4, ho | 5, ho | 6, ho | 7, ho | 8, ho | 9, ho | 10, ho | 11, ho | 12, ho | 13, ho | 14, ho | 15, ho | 16, ho => cases ho; rfl
                | n + 17, ho => exact absurd ho (by simp)
              case step =>
                intro f a' W i o ho hfi hpre hT hrest hyet
                match i, ho with
                | 0, ho =>
                  cases ho
                  have q : a'.tmps[6]?.getD undef = V := ev_tmp (hyet 16 (by decide) (hT.2.1 (hT.2.2.1 hfi)).2)
                  exact s2_same (V) (by unfold Oper.wp execOp; go_simp; all_goals ((try simp only [q]); (try go_simp); first | done | rfl | exact ⟨rfl, rfl⟩ | rw [HWS.out.1] | rw [HWS.out.2.1] | rw [HWS.out.2.2.1] | rw [HWS.out.2.2.2.1] | rw [HWS.out.2.2.2.2] | trivial)) rfl (rdT_step hT (by decide) (by decide))
                | 1, ho =>
                  cases ho
                  have q : a'.tmps[0]?.getD undef = .string s := ev_tmp (hrest 0 (by decide))
                  exact s2_same (.string s) (by unfold Oper.wp execOp; go_simp; all_goals ((try simp only [q]); (try go_simp); first | done | rfl | exact ⟨rfl, rfl⟩ | rw [HWS.out.1] | rw [HWS.out.2.1] | rw [HWS.out.2.2.1] | rw [HWS.out.2.2.2.1] | rw [HWS.out.2.2.2.2] | trivial)) rfl (rdT_step hT (by decide) (by decide))
                | 2, ho =>
                  cases ho
                  have q : a'.tmps[7]?.getD undef = .int .i64 k := ev_tmp (hrest 7 (by decide))
                  exact s2_same (.int .i64 k) (by unfold Oper.wp execOp; go_simp; all_goals ((try simp only [q]); (try go_simp); first | done | rfl | exact ⟨rfl, rfl⟩ | rw [HWS.out.1] | rw [HWS.out.2.1] | rw [HWS.out.2.2.1] | rw [HWS.out.2.2.2.1] | rw [HWS.out.2.2.2.2] | trivial)) rfl (rdT_step hT (by decide) (by decide))
                | 3, ho =>
                  cases ho
                  have q2 : a'.tmps[48]?.getD undef = .int .i64 k := ev_tmp (hpre { on := 2, ground := .data } (by simp) rfl).2
                  exact s2_same (.int .i64 (k + 1 : Nat)) (by unfold Oper.wp execOp; go_simp; all_goals ((try simp only [q2]); (try go_simp); first | done | rfl | exact ⟨rfl, rfl⟩ | rw [HWS.out.1] | rw [HWS.out.2.1] | rw [HWS.out.2.2.1] | rw [HWS.out.2.2.2.1] | rw [HWS.out.2.2.2.2] | trivial)) rfl (rdT_step hT (by decide) (by decide))
                | 4, ho =>
                  cases ho
                  have q1 : a'.tmps[47]?.getD undef = .string s := ev_tmp (hpre { on := 1, ground := .data } (by simp) rfl).2
                  have q3 : a'.tmps[49]?.getD undef = .int .i64 (k + 1 : Nat) := ev_tmp (hpre { on := 3, ground := .data } (by simp) rfl).2
                  exact s2_same (.int .u8 x1) (by unfold Oper.wp execOp; go_simp; all_goals ((try simp only [q1, q3]); (try go_simp); first | done | rfl | exact ⟨rfl, rfl⟩ | rw [HWS.out.1] | rw [HWS.out.2.1] | rw [HWS.out.2.2.1] | rw [HWS.out.2.2.2.1] | rw [HWS.out.2.2.2.2] | trivial)) rfl (rdT_step hT (by decide) (by decide))
                | 5, ho =>
                  cases ho
                  have q : a'.tmps.getD 50 undef = .int .u8 x1 := (hpre { on := 4, ground := .data } (by simp) rfl).2
                  exact s2_same (.int .u64 d1) (call_same 50 77 _ _ _ rfl q (enters_of Tryz.func77 (by kernel_rfl) rfl) (K1.out W)) rfl (rdT_step hT (by decide) (by decide))
                | 6, ho =>
                  cases ho
                  have q5 : a'.tmps[51]?.getD undef = .int .u64 d1 := ev_tmp (hpre { on := 5, ground := .data } (by simp) rfl).2
                  exact s2_same (.int .u64 (16 * d1)) (by unfold Oper.wp execOp; go_simp; all_goals ((try simp only [q5]); (try go_simp); first | done | rfl | exact ⟨rfl, rfl⟩ | rw [HWS.out.1] | rw [HWS.out.2.1] | rw [HWS.out.2.2.1] | rw [HWS.out.2.2.2.1] | rw [HWS.out.2.2.2.2] | trivial)) rfl (rdT_step hT (by decide) (by decide))
                | 7, ho =>
                  cases ho
                  have q : a'.tmps[0]?.getD undef = .string s := ev_tmp (hrest 0 (by decide))
                  exact s2_same (.string s) (by unfold Oper.wp execOp; go_simp; all_goals ((try simp only [q]); (try go_simp); first | done | rfl | exact ⟨rfl, rfl⟩ | rw [HWS.out.1] | rw [HWS.out.2.1] | rw [HWS.out.2.2.1] | rw [HWS.out.2.2.2.1] | rw [HWS.out.2.2.2.2] | trivial)) rfl (rdT_step hT (by decide) (by decide))
                | 8, ho =>
                  cases ho
                  have q : a'.tmps[7]?.getD undef = .int .i64 k := ev_tmp (hrest 7 (by decide))
                  exact s2_same (.int .i64 k) (by unfold Oper.wp execOp; go_simp; all_goals ((try simp only [q]); (try go_simp); first | done | rfl | exact ⟨rfl, rfl⟩ | rw [HWS.out.1] | rw [HWS.out.2.1] | rw [HWS.out.2.2.1] | rw [HWS.out.2.2.2.1] | rw [HWS.out.2.2.2.2] | trivial)) rfl (rdT_step hT (by decide) (by decide))
                | 9, ho =>
                  cases ho
                  have q8 : a'.tmps[54]?.getD undef = .int .i64 k := ev_tmp (hpre { on := 8, ground := .data } (by simp) rfl).2
                  exact s2_same (.int .i64 (k + 2 : Nat)) (by unfold Oper.wp execOp; go_simp; all_goals ((try simp only [q8]); (try go_simp); first | done | rfl | exact ⟨rfl, rfl⟩ | rw [HWS.out.1] | rw [HWS.out.2.1] | rw [HWS.out.2.2.1] | rw [HWS.out.2.2.2.1] | rw [HWS.out.2.2.2.2] | trivial)) rfl (rdT_step hT (by decide) (by decide))
                | 10, ho =>
                  cases ho
                  have q7 : a'.tmps[53]?.getD undef = .string s := ev_tmp (hpre { on := 7, ground := .data } (by simp) rfl).2
                  have q9 : a'.tmps[55]?.getD undef = .int .i64 (k + 2 : Nat) := ev_tmp (hpre { on := 9, ground := .data } (by simp) rfl).2
                  exact s2_same (.int .u8 x2) (by unfold Oper.wp execOp; go_simp; all_goals ((try simp only [q7, q9]); (try go_simp); first | done | rfl | exact ⟨rfl, rfl⟩ | rw [HWS.out.1] | rw [HWS.out.2.1] | rw [HWS.out.2.2.1] | rw [HWS.out.2.2.2.1] | rw [HWS.out.2.2.2.2] | trivial)) rfl (rdT_step hT (by decide) (by decide))
                | 11, ho =>
                  cases ho
                  have q : a'.tmps.getD 56 undef = .int .u8 x2 := (hpre { on := 10, ground := .data } (by simp) rfl).2
                  exact s2_same (.int .u64 d2) (call_same 56 77 _ _ _ rfl q (enters_of Tryz.func77 (by kernel_rfl) rfl) (K2.out W)) rfl (rdT_step hT (by decide) (by decide))
                | 12, ho =>
                  cases ho
                  have q6 : a'.tmps[52]?.getD undef = .int .u64 (16 * d1) := ev_tmp (hpre { on := 6, ground := .data } (by simp) rfl).2
                  have q11 : a'.tmps[57]?.getD undef = .int .u64 d2 := ev_tmp (hpre { on := 11, ground := .data } (by simp) rfl).2
                  exact s2_same (.int .u64 (16 * d1 + d2)) (by unfold Oper.wp execOp; go_simp; all_goals ((try simp only [q6, q11]); (try go_simp); first | done | rfl | exact ⟨rfl, rfl⟩ | rw [HWS.out.1] | rw [HWS.out.2.1] | rw [HWS.out.2.2.1] | rw [HWS.out.2.2.2.1] | rw [HWS.out.2.2.2.2] | trivial)) rfl (rdT_step hT (by decide) (by decide))
                | 13, ho =>
                  cases ho
                  have q12 : a'.tmps[58]?.getD undef = .int .u64 (16 * d1 + d2) := ev_tmp (hpre { on := 12, ground := .data } (by simp) rfl).2
                  exact s2_same (.int .u8 (16 * d1 + d2)) (by unfold Oper.wp execOp; go_simp; all_goals ((try simp only [q12]); (try go_simp); first | done | rfl | exact ⟨rfl, rfl⟩ | rw [HWS.out.1] | rw [HWS.out.2.1] | rw [HWS.out.2.2.1] | rw [HWS.out.2.2.2.1] | rw [HWS.out.2.2.2.2] | trivial)) rfl (rdT_step hT (by decide) (by decide))
                | 14, ho =>
                  cases ho
                  have q : a'.tmps[59]?.getD undef = .int .u8 (16 * d1 + d2) := ev_tmp (hpre { on := 13, ground := .data } (by simp) rfl).2
                  have hO := hT.2.1 (hT.2.2.2 hfi)
                  have hT' := rdT_step hT (i := 14) (by decide) (by decide)
                  unfold Oper.wp execOp
                  go_simp
                  refine ⟨_, rfl, ⟨W.heap.size, rfl, World.alloc_heap_new _ _, fun h => Nat.lt_irrefl _ (hO.1.lt _ h).2⟩, ?_, fun j u _ h => RdF.alloc j _ _ u h⟩
                  obtain ⟨ta, tb, tc, td⟩ := hT'
                  exact ⟨ta.alloc (by have := hT.1.size; omega) _, fun h => ⟨(tb h).1.alloc _, (tb h).2⟩, tc, td⟩
                | 15, ho =>
                  cases ho
                  have q46 : a'.eval (.tmp 46) = V := (hpre { on := 0, ground := .data } (by simp) rfl).2
                  obtain ⟨g, hg1, hg2, hg3⟩ := (hpre { on := 14, ground := .data } (by simp) rfl).2
                  have q60 : a'.eval (.tmp 60) = .slice (some ⟨g, 0, none⟩) 1 1 := hg1
                  have f0 := (hpre { on := 0, ground := .data } (by simp) rfl).1
                  have f14 := (hpre { on := 14, ground := .data } (by simp) rfl).1
                  have hO := hT.2.1 hfi
                  refine wp_append_own _ _ _ 46 rfl B 5 i0 (.int .u8 0) 1 1 Tryz.underlying46 hi hz0 hz1 hz2 rfl (by decide) V acc.length (acc.map by8) q46 hO.1 ⟨g, 0, none⟩ 1 1 [.int .u8 (16 * d1 + d2)] q60 rfl ?_ ?_ ?_ ?_ ?_ ?_
                  · intro j u hj
                    match j, hj with
                    | 0, hj => simp at hj; subst hj; simp [Addr.add, World.cell?, hg2]
                  · intro u hu; simp at hu; subst hu; rfl
                  · unfold maxLen; omega
                  · omega
                  · have := hT.1.size; omega
                  · intro v' w' hown' hgrow _
                    refine ⟨v', rfl, hown', ⟨Below.grown hT.1 hgrow (by have := hT.1.size; omega) (own_ge hO.1), fun h => by simp at h, fun h => by simp [f0] at h, fun h => by simp [f14] at h⟩, fun j u hj hF => ?_⟩
                    match j, hF with
                    | 0, h | 1, h | 2, h | 3, h | 4, h | 5, h | 6, h | 7, h | 8, h | 9, h | 10, h | 11, h | 12, h | 13, h => exact h
                    | 14, ⟨g', h1, h2, h3⟩ => exact ⟨g', h1, (hgrow.block g' (Array.getElem?_eq_some_iff.1 h2).1 (Ne.symm h3)).trans h2, h3⟩
                    | 15, h => rw [hfi] at hj; cases hj
                    | 16, h => rw [hO.2] at hj; cases hj
                    | n + 17, h => exact h.elim
                | 16, ho =>
                  cases ho
                  have h15 := hpre { on := 15, ground := .data } (by simp) rfl
                  obtain ⟨z, hz⟩ : ∃ z, a'.tmps.getD 61 undef = z := ⟨_, rfl⟩
                  have hF15 : W.ownsRow B 5 1 z (acc.length + 1) (acc.map by8 ++ [.int .u8 (16 * d1 + d2)]) := by rw [← hz]; exact h15.2
                  have q := ev_tmp hz
                  refine s2_same z (by unfold Oper.wp execOp; go_simp; all_goals ((try simp only [q]); first | done | rfl)) hF15 ?_
                  obtain ⟨ta, tb, tc, td⟩ := hT
                  exact ⟨ta, fun h => by simp [h15.1] at h, fun h => by simpa using tc (by simpa using h), fun h => by simpa using td (by simpa using h)⟩
                | n + 17, ho => exact absurd ho (by simp)
              case done =>
                intro f vs W hall hT hvs
                have v0 : vs 0 = V := hvs 0 (by decide)
                have v1 : vs 1 = .string s := hvs 1 (by decide)
                have v2 : vs 2 = .int .i64 k := hvs 2 (by decide)
                have v3 : vs 3 = .int .i64 (k + 1 : Nat) := hvs 3 (by decide)
                have v4 : vs 4 = .int .u8 x1 := hvs 4 (by decide)
                have v5 : vs 5 = .int .u64 d1 := hvs 5 (by decide)
                have v6 : vs 6 = .int .u64 (16 * d1) := hvs 6 (by decide)
                have v7 : vs 7 = .string s := hvs 7 (by decide)
                have v8 : vs 8 = .int .i64 k := hvs 8 (by decide)
                have v9 : vs 9 = .int .i64 (k + 2 : Nat) := hvs 9 (by decide)
                have v10 : vs 10 = .int .u8 x2 := hvs 10 (by decide)
                have v11 : vs 11 = .int .u64 d2 := hvs 11 (by decide)
                have v12 : vs 12 = .int .u64 (16 * d1 + d2) := hvs 12 (by decide)
                have v13 : vs 13 = .int .u8 (16 * d1 + d2) := hvs 13 (by decide)
                obtain ⟨y14, hy14⟩ : ∃ z, vs 14 = z := ⟨_, rfl⟩
                obtain ⟨y15, hy15⟩ : ∃ z, vs 15 = z := ⟨_, rfl⟩
                obtain ⟨y16, hy16⟩ : ∃ z, vs 16 = z := ⟨_, rfl⟩
                have HO1 := Lib.hid (show W.ownsRow B 5 1 y16 (acc ++ [Gt.two b1 b2]).length ((acc ++ [Gt.two b1 b2]).map by8) by
                  rw [List.map_append, List.length_append, ← hy16]
                  show W.ownsRow B 5 1 (vs 16) (acc.length + 1) (acc.map by8 ++ [.int .u8 ((Gt.two b1 b2).toNat : Int)])
                  rw [HTW.out]
                  exact hvs 16 (by decide))
                have HB1 := Lib.hid hT.1
                simp only [fillN, List.size_toArray, List.length_cons, List.length_nil, Nat.reduceAdd, show List.range 17 = [0, 1, 2, 3, 4, 5, 6, 7, 8, 9, 10, 11, 12, 13, 14, 15, 16] from rfl, List.foldl_cons, List.foldl_nil, show rdSlot 0 = 46 from rfl, show rdSlot 1 = 47 from rfl, show rdSlot 2 = 48 from rfl, show rdSlot 3 = 49 from rfl, show rdSlot 4 = 50 from rfl, show rdSlot 5 = 51 from rfl, show rdSlot 6 = 52 from rfl, show rdSlot 7 = 53 from rfl, show rdSlot 8 = 54 from rfl, show rdSlot 9 = 55 from rfl, show rdSlot 10 = 56 from rfl, show rdSlot 11 = 57 from rfl, show rdSlot 12 = 58 from rfl, show rdSlot 13 = 59 from rfl, show rdSlot 14 = 60 from rfl, show rdSlot 15 = 61 from rfl, show rdSlot 16 = 6 from rfl, v0, v1, v2, v3, v4, v5, v6, v7, v8, v9, v10, v11, v12, v13, hy14, hy15, hy16]
                clear v0 v1 v2 v3 v4 v5 v6 v7 v8 v9 v10 v11 v12 v13 hy14 hy15 hy16 hvs hT
                go_simp
                go_wp2_with fail
                go_roundw
                case rel => exact ⟨k + 3, acc ++ [Gt.two b1 b2], by go_num, HD.out, HO1.out, HB1.out⟩
                case measure => simp [intOf]; omega
      · have e1 : (x == 37) = false := beq_eq_false_iff_ne.2 he
        have HD1 := Lib.hid (Gt.dAt_one HA.out HKL.out (fun e => he (by rw [← HX.out, ← HC.out, e]; rfl)))
        rw [HC.out] at HD1
        by_cases hp : pl = true ∧ x = 43
        · obtain ⟨rfl, rfl⟩ := hp
          have HBL := Lib.hid (show Gt.bl true c = 32 by
            have : c = 43 := UInt8.toNat_inj.1 (by have := HX.out; show c.toNat = 43; omega)
            subst this; rfl)
          rw [HBL.out] at HD1
          clear he
          go_wp2_with (at_builtin; refine wpList_append_own _ rfl _ _ 46 rfl B 5 i0 (.int .u8 0) 1 1 Tryz.underlying46 hi hz0 hz1 hz2 rfl (by decide) _ _ _ rfl (HN.out.alloc _) ⟨wr.heap.size, 0, none⟩ 1 1 [.int .u8 32] rfl rfl ?a1 ?a2 ?a3 ?a4 ?a5 ?_)
          case a1 =>
            intro j u hj
            match j, hj with
            | 0, hj => simp at hj; subst hj; simp [Addr.add]
          case a2 => intro u hu; simp at hu; subst hu; rfl
          case a3 => unfold maxLen; omega
          case a4 => omega
          case a5 => have := HB.out.size; simp; omega
          intro v' w1 hown' hgrow _
          have HB1 := Lib.hid (show Below B w w1 from Below.grown (HB.out.alloc (by have := HB.out.size; omega) _) hgrow (by have := HB.out.size; simp; omega) (own_ge HN.out))
          have HO1 := Lib.hid (show w1.ownsRow B 5 1 v' (acc ++ [32]).length ((acc ++ [32]).map by8) by
            rw [List.map_append, List.length_append]
            exact hown')
          clear hgrow hown'
          go_wp2
          go_roundw
          case rel => exact ⟨k + 1, acc ++ [32], by go_num, HD1.out, HO1.out, HB1.out⟩
          case measure => simp [intOf]; omega
        · have HBL := Lib.hid (show Gt.bl pl c = c by
            unfold Gt.bl
            rw [if_neg]
            intro h
            rw [Bool.and_eq_true, beq_iff_eq] at h
            exact hp ⟨h.1, by rw [← HX.out, h.2]; rfl⟩)
          rw [HBL.out] at HD1
          have HPP := Lib.hid hp
          clear he hp
          cases pl with
          | false =>
            go_wp2_with (at_builtin; refine wpList_append_own _ rfl _ _ 46 rfl B 5 i0 (.int .u8 0) 1 1 Tryz.underlying46 hi hz0 hz1 hz2 rfl (by decide) _ _ _ rfl (HN.out.alloc _) ⟨wr.heap.size, 0, none⟩ 1 1 [.int .u8 x] rfl rfl ?b1 ?b2 ?b3 ?b4 ?b5 ?_)
            case b1 =>
              intro j u hj
              match j, hj with
              | 0, hj => simp at hj; subst hj; simp [Addr.add]
            case b2 => intro u hu; simp at hu; subst hu; rfl
            case b3 => unfold maxLen; omega
            case b4 => omega
            case b5 => have := HB.out.size; simp; omega
            intro v' w1 hown' hgrow _
            have HB1 := Lib.hid (show Below B w w1 from Below.grown (HB.out.alloc (by have := HB.out.size; omega) _) hgrow (by have := HB.out.size; simp; omega) (own_ge HN.out))
            have HO1 := Lib.hid (show w1.ownsRow B 5 1 v' (acc ++ [c]).length ((acc ++ [c]).map by8) by
              rw [List.map_append, List.length_append]
              show w1.ownsRow B 5 1 v' (acc.length + 1) (acc.map by8 ++ [.int .u8 (c.toNat : Int)])
              rw [HX.out]
              exact hown')
            clear hgrow hown'
            go_wp2
            go_roundw
            case rel => exact ⟨k + 1, acc ++ [c], by go_num, HD1.out, HO1.out, HB1.out⟩
            case measure => simp [intOf]; omega
          | true =>
            have e2 : (x == 43) = false := beq_eq_false_iff_ne.2 (fun e => HPP.out ⟨rfl, e⟩)
            go_wp2_with (at_builtin; refine wpList_append_own _ rfl _ _ 46 rfl B 5 i0 (.int .u8 0) 1 1 Tryz.underlying46 hi hz0 hz1 hz2 rfl (by decide) _ _ _ rfl (HN.out.alloc _) ⟨wr.heap.size, 0, none⟩ 1 1 [.int .u8 x] rfl rfl ?e1 ?e2 ?e3 ?e4 ?e5 ?_)
            case e2 => first | rfl | (intro u hu; simp at hu; subst hu; rfl)
            case e3 => unfold maxLen; omega
            case e4 => omega
            case e5 => have := HB.out.size; simp; omega
            intro v' w1 hown' hgrow _
            have HB1 := Lib.hid (show Below B w w1 from Below.grown (HB.out.alloc (by have := HB.out.size; omega) _) hgrow (by have := HB.out.size; simp; omega) (own_ge HN.out))
            have HO1 := Lib.hid (show w1.ownsRow B 5 1 v' (acc ++ [c]).length ((acc ++ [c]).map by8) by
              rw [List.map_append, List.length_append]
              show w1.ownsRow B 5 1 v' (acc.length + 1) (acc.map by8 ++ [.int .u8 (c.toNat : Int)])
              rw [HX.out]
              exact hown')
            clear hgrow hown'
            go_wp2
            go_roundw
            case rel => exact ⟨k + 1, acc ++ [c], by go_num, HD1.out, HO1.out, HB1.out⟩
            case measure => simp [intOf]; omega
    · have HE := Lib.hid (Gt.dAt_end HA.out (by rw [HL.out]; omega))
      have hcv := conv_brow (BRow.of_own HN.out)
      go_wp2_with fail
      go_ret2
      refine ⟨?_, HB.out⟩
      rw [← HO.out, HE.out]; rfl
end Go.Proofs.YtgfammlmbjmkoaaGreatDoor

/- The reference's plain, Encode. -/
namespace Go.Proofs.YtgfammlmbjmkoaaGreatDoor
set_option linter.unusedVariables false
set_option linter.unusedSimpArgs false
open Go.RowKit Go.Shelf
set_option maxHeartbeats 4000000
set_option maxRecDepth 100000
theorem ref_plain (x : Int) (w : World) (h0 : 0 ≤ x) (h1 : x < 256) :
    Calls Tryz.prog 72 #[.int .u8 x] w fun e w' => e = .returned (.bool (Gt.plainB x)) ∧ w' = w := by
  have HP := Lib.hid (show Gt.plainB x = (decide (97 ≤ x ∧ x ≤ 122) || decide (65 ≤ x ∧ x ≤ 90) || decide (48 ≤ x ∧ x ≤ 57) || x == 45 || x == 46 || x == 95 || x == 126) from rfl)
  go_enter Tryz.func72, Tryz.ntmps72
  go_wp2_with fail
  all_goals
    go_ret
    refine ⟨?_, rfl⟩
    refine congrArg (fun b => Ending.returned (Value.bool b)) (Bool.eq_iff_iff.2 ?_)
    first
      | decide
      | (unfold Gt.plainB; simp only [Bool.or_eq_true, decide_eq_true_eq, beq_iff_eq, true_iff, iff_true]; omega)
      | (unfold Gt.plainB; simp only [Bool.or_eq_true, decide_eq_true_eq, beq_iff_eq]; constructor <;> intro <;> omega)
theorem hexU_slice (r : Nat) (h : r < 16) (w : World) : (Instr.slice 9 (.string ⟨#[48, 49, 50, 51, 52, 53, 54, 55, 56, 57, 65, 66, 67, 68, 69, 70]⟩) (some (.int .u8 (r : Int))) (some (.int .u8 ((r : Int) + 1))) none).run Tryz.prog w = .ok (.string ⟨#[Gt.up r]⟩) w :=
  match r, h with
  | 0, _ => by kernel_rfl
  | 1, _ => by kernel_rfl
  | 2, _ => by kernel_rfl
  | 3, _ => by kernel_rfl
  | 4, _ => by kernel_rfl
  | 5, _ => by kernel_rfl
  | 6, _ => by kernel_rfl
  | 7, _ => by kernel_rfl
  | 8, _ => by kernel_rfl
  | 9, _ => by kernel_rfl
  | 10, _ => by kernel_rfl
  | 11, _ => by kernel_rfl
  | 12, _ => by kernel_rfl
  | 13, _ => by kernel_rfl
  | 14, _ => by kernel_rfl
  | 15, _ => by kernel_rfl
  | n + 16, h => absurd h (by omega)
theorem ref_Encode (s : ByteArray) (w : World) (hs : s.size ≤ 100000) :
    Calls Tryz.prog 45 #[.string s] w fun e w' => e = .returned (.string ⟨(Gt.enc s.data.toList).toArray⟩) ∧ Below w.heap.size w w' := by
  have HL := Lib.hid (show s.data.toList.length = s.size from rfl)
  go_enter Tryz.func45, Tryz.ntmps45
  go_wp2_with fail
  go_loopw [3, 4] (fun t i wr => ∃ (k : Nat) (T : ByteArray), k ≤ s.size ∧ i = .int .i64 k ∧ t = .string T ∧ T.data.toList = Gt.enc (s.data.toList.take k) ∧ Below w.heap.size w wr)
    (fun _ i _ => s.size - (intOf i).toNat)
  case atStart => exact ⟨0, ⟨#[]⟩, Nat.zero_le _, rfl, rfl, rfl, Below.refl _ _⟩
  case round =>
    obtain ⟨k, T, hk, rfl, rfl, hT, hbl⟩ := hrel
    have HT := Lib.hid hT
    have HBL := Lib.hid hbl
    have hTs : T.size ≤ 300000 := by
      have h1 : T.data.toList.length = T.size := rfl
      have h2 := (Gt.enc_length (s.data.toList.take k)).2
      rw [hT] at h1
      rw [List.length_take] at h2
      omega
    clear hT hbl
    by_cases hlt : k < s.size
    · have HKL := Lib.hid (show k < s.data.toList.length from hlt)
      obtain ⟨c, hcc⟩ : ∃ c, s.data.toList[k]'HKL.out = c := ⟨_, rfl⟩
      have HTK := Lib.hid (show s.data.toList.take (k + 1) = s.data.toList.take k ++ [c] by rw [List.take_succ_eq_append_getElem HKL.out, hcc])
      obtain ⟨x, hx⟩ : ∃ x : Int, (c.toNat : Int) = x := ⟨_, rfl⟩
      have hsx : ((s[k]'hlt).toNat : Int) = x := by rw [← hx, ← hcc]; rfl
      have HC := Lib.hid hcc
      have HX := Lib.hid hx
      have hr1 : (0 : Int) ≤ x := by omega
      have hr2 : x < 256 := by have := c.toNat_lt; omega
      clear hx hcc
      have K := Lib.hid (ref_plain x wr hr1 hr2)
      cases hp : Gt.plainB x with
      | true =>
        rw [hp] at K
        have HE1 := Lib.hid (show Gt.enc1 c = [c] by unfold Gt.enc1; rw [HX.out, if_pos hp])
        clear hp
        go_wp2_with fail
        refine K.out.mono ?_
        rintro e w2 ⟨rfl, hw2⟩
        subst w2
        have HN := Lib.hid (show (T ++ s.extract k (k + 1)).data.toList = Gt.enc (s.data.toList.take (k + 1)) by
          rw [HTK.out, Gt.enc_snoc, HE1.out, ← HT.out, ByteArray.data_append, Array.toList_append, Lib.extract_data, Nat.add_sub_cancel_left, Gt.drop1 _ _ HKL.out, HC.out]
          rfl)
        go_wp2_with fail
        go_roundw
        case rel => exact ⟨k + 1, _, hlt, by go_num, rfl, HN.out, HBL.out⟩
        case measure => simp [intOf]; omega
      | false =>
        rw [hp] at K
        have HE1 := Lib.hid (show Gt.enc1 c = [37, Gt.up (c.toNat / 16), Gt.up (c.toNat % 16)] by unfold Gt.enc1; rw [HX.out, hp]; rfl)
        clear hp
        obtain ⟨a, ha⟩ : ∃ a, c.toNat / 16 = a := ⟨_, rfl⟩
        obtain ⟨d, hd⟩ : ∃ d, c.toNat % 16 = d := ⟨_, rfl⟩
        have HXA := Lib.hid (show x / 16 = (a : Int) by have := HX.out; omega)
        have HXD := Lib.hid (show x % 16 = (d : Int) by have := HX.out; omega)
        have ha16 : a < 16 := by have := c.toNat_lt; omega
        have hd16 : d < 16 := by omega
        have hsa := hexU_slice a ha16
        have hsd := hexU_slice d hd16
        have hai : (a : Int) ≤ 15 := by omega
        have hdi : (d : Int) ≤ 15 := by omega
        rw [ha, hd] at HE1
        have HN := Lib.hid (show (T ++ ⟨#[37]⟩ ++ ⟨#[Gt.up a]⟩ ++ ⟨#[Gt.up d]⟩ : ByteArray).data.toList = Gt.enc (s.data.toList.take (k + 1)) by
          rw [HTK.out, Gt.enc_snoc, HE1.out, ← HT.out]
          simp [ByteArray.data_append])
        clear ha hd
        go_wp2_with fail
        refine K.out.mono ?_
        rintro e w2 ⟨rfl, hw2⟩
        subst w2
        go_wp2_with fail
        go_quiet (fail)
        obtain ⟨w2, hw2⟩ : ∃ W, wr.drewN nq = W := ⟨_, rfl⟩
        have HB2 := Lib.hid (show Below w.heap.size w w2 by rw [← hw2]; exact below_drewN HBL.out _)
        rw [hw2]
        clear hw2
        rw [HXA.out, HXD.out]
        go_wp2_with fail
        go_quiet (fail)
        go_wp2_with fail
        have HB3 := Lib.hid (below_drewN HB2.out nq)
        go_roundw
        case rel => exact ⟨k + 1, _, hlt, by go_num, rfl, HN.out, HB3.out⟩
        case measure => simp [intOf]; omega
    · have HTK := Lib.hid (show s.data.toList.take k = s.data.toList from List.take_of_length_le (by rw [HL.out]; omega))
      rw [HTK.out] at HT
      have HF := Lib.hid (show (⟨(Gt.enc s.data.toList).toArray⟩ : ByteArray) = T by apply ByteArray.ext; apply Array.ext'; exact HT.out.symm)
      go_wp2
      go_ret
      exact ⟨by rw [HF.out]; rfl, HBL.out⟩
end Go.Proofs.YtgfammlmbjmkoaaGreatDoor

/- route: Fits, Covers; the reference's part, Parts. -/
namespace Go.Proofs.YtgfammlmbjmkoaaGreatDoor
set_option linter.unusedVariables false
set_option linter.unusedSimpArgs false
open Go.RowKit Go.Shelf
set_option maxHeartbeats 4000000
set_option maxRecDepth 100000
namespace Ro
/-- does a path fit a text that may be a pattern? -/
def fitsT (s : List UInt8) (P : List (List UInt8)) : Bool := match parse s with
  | some l => fits l P
  | none => false
theorem fitsT_some {s : List UInt8} {l : List Pt} (h : parse s = some l) (P : List (List UInt8)) : fitsT s P = fits l P := by unfold fitsT; rw [h]
theorem fitsT_none {s : List UInt8} (h : parse s = none) (P : List (List UInt8)) : fitsT s P = false := by unfold fitsT; rw [h]
def coversT (a b : List UInt8) : Bool := match parse a, parse b with
  | some l, some o => covers l o
  | _, _ => false
theorem coversT_some {a b : List UInt8} {l o : List Pt} (h : parse a = some l) (h2 : parse b = some o) : coversT a b = covers l o := by unfold coversT; rw [h, h2]
theorem coversT_none {a b : List UInt8} (h : parse a = none) : coversT a b = false := by unfold coversT; rw [h]
theorem coversT_none2 {a b : List UInt8} (h : parse b = none) : coversT a b = false := by unfold coversT; rw [h]; split <;> simp_all
end Ro
theorem rt_Fits (s : ByteArray) (u : Value) (P : List (List UInt8)) (w : World) (hs : s.size ≤ 30000) (hu : XS w u P) (hP : P.length ≤ 100000) (hk : KX w) :
    Calls Tryz.prog 20 #[.string s, u] w fun e w' => e = .returned (.bool (Ro.fitsT s.data.toList P)) ∧ Below w.heap.size w w' := by
  have K := Lib.hid (rt_Parse s w hs hk)
  clear hk
  obtain ⟨R, hR⟩ : ∃ R, Ro.fitsT s.data.toList P = R := ⟨_, rfl⟩
  rw [hR]
  have HR := Lib.hid hR
  obtain ⟨p, c, rfl⟩ := hu.slice
  have HU := Lib.hid hu
  have HSZ := Lib.hid (show s.data.toList.length = s.size from rfl)
  clear hR hu
  cases ho : Ro.parse s.data.toList with
  | none =>
    rw [ho] at K
    have HN := Lib.hid (HR.out.symm.trans (Ro.fitsT_none ho P))
    clear ho
    go_enter Tryz.func20, Tryz.ntmps20
    go_wp2_with fail
    refine K.out.mono ?_
    rintro e w2 ⟨h, hb⟩
    have HB := Lib.hid hb
    obtain rfl := h
    clear hb
    go_wp2_with fail
    go_ret
    exact ⟨by rw [HN.out]; rfl, HB.out⟩
  | some L =>
    rw [ho] at K
    have HN := Lib.hid (HR.out.symm.trans (Ro.fitsT_some ho P))
    have HLL := Lib.hid (Ro.parse_many ho).2
    clear ho
    go_enter Tryz.func20, Tryz.ntmps20
    go_wp2_with fail
    refine K.out.mono ?_
    rintro e w2 ⟨h, hb⟩
    obtain ⟨r, rfl, hp⟩ := h
    have HB := Lib.hid hb
    have HP := Lib.hid hp
    obtain ⟨q, d, rfl⟩ := hp.slice
    clear hb hp
    go_wp2_with fail
    refine (rt_fits _ _ L P w2 HP.out (HU.out.below HB.out) (by have := HLL.out; omega) hP).mono ?_
    rintro e w3 ⟨rfl, hb3⟩
    rw [← HN.out]
    have HB3 := Lib.hid (HB.out.trans (hb3.mono HB.out.size))
    clear hb3
    go_wp2_with fail
    go_ret
    exact ⟨rfl, HB3.out⟩
theorem rt_Covers (a b : ByteArray) (w : World) (ha : a.size ≤ 30000) (hb : b.size ≤ 30000) (hk : KX w) :
    Calls Tryz.prog 22 #[.string a, .string b] w fun e w' => e = .returned (.bool (Ro.coversT a.data.toList b.data.toList)) ∧ Below w.heap.size w w' := by
  have K := Lib.hid (rt_Parse a w ha hk)
  have K2 := Lib.hid (fun W (h : Below w.heap.size w W) => rt_Parse b W hb (hk.below h))
  clear hk
  obtain ⟨R, hR⟩ : ∃ R, Ro.coversT a.data.toList b.data.toList = R := ⟨_, rfl⟩
  rw [hR]
  have HR := Lib.hid hR
  clear hR
  cases ho : Ro.parse a.data.toList with
  | none =>
    rw [ho] at K
    have HN := Lib.hid (HR.out.symm.trans (Ro.coversT_none ho))
    clear ho
    go_enter Tryz.func22, Tryz.ntmps22
    go_wp2_with fail
    refine K.out.mono ?_
    rintro e w2 ⟨h, hb⟩
    have HB := Lib.hid hb
    obtain rfl := h
    clear hb
    go_wp2_with fail
    refine (K2.out _ HB.out).mono ?_
    rintro e w3 ⟨h, hb3⟩
    obtain ⟨r, L, rfl, hp, _⟩ := h.some
    obtain ⟨q, d, rfl⟩ := hp.slice
    have HB3 := Lib.hid (HB.out.trans (hb3.mono HB.out.size))
    clear hb3 hp h
    go_wp2_with fail
    go_ret
    exact ⟨by rw [HN.out]; rfl, HB3.out⟩
  | some L =>
    rw [ho] at K
    have HL := Lib.hid ho
    have HLL := Lib.hid (Ro.parse_many ho).2
    clear ho
    cases ho : Ro.parse b.data.toList with
    | none =>
      rw [ho] at K2
      have HN := Lib.hid (HR.out.symm.trans (Ro.coversT_none2 ho))
      clear ho
      go_enter Tryz.func22, Tryz.ntmps22
      go_wp2_with fail
      refine K.out.mono ?_
      rintro e w2 ⟨h, hb⟩
      obtain ⟨r, rfl, hp⟩ := h
      have HB := Lib.hid hb
      obtain ⟨q, d, rfl⟩ := hp.slice
      clear hb hp
      go_wp2_with fail
      refine (K2.out _ HB.out).mono ?_
      rintro e w3 ⟨h, hb3⟩
      obtain rfl := h
      have HB3 := Lib.hid (HB.out.trans (hb3.mono HB.out.size))
      clear hb3
      go_wp2_with fail
      go_ret
      exact ⟨by rw [HN.out]; rfl, HB3.out⟩
    | some O =>
      rw [ho] at K2
      have HN := Lib.hid (HR.out.symm.trans (Ro.coversT_some HL.out ho))
      have HOL := Lib.hid (Ro.parse_many ho).2
      clear ho
      go_enter Tryz.func22, Tryz.ntmps22
      go_wp2_with fail
      refine K.out.mono ?_
      rintro e w2 ⟨h, hb⟩
      obtain ⟨r, rfl, hp⟩ := h
      have HB := Lib.hid hb
      have HP := Lib.hid hp
      obtain ⟨q, d, rfl⟩ := hp.slice
      clear hb hp
      go_wp2_with fail
      refine (K2.out _ HB.out).mono ?_
      rintro e w3 ⟨h, hb3⟩
      obtain ⟨r3, rfl, hp3⟩ := h
      have HB3 := Lib.hid (HB.out.trans (hb3.mono HB.out.size))
      have HP3 := Lib.hid (HP.out.below hb3)
      have HQ3 := Lib.hid hp3
      obtain ⟨q3, d3, rfl⟩ := hp3.slice
      clear hb3 hp3
      go_wp2_with fail
      refine (rt_covers _ _ L O w3 HP3.out HQ3.out (by have := HLL.out; omega) (by have := HOL.out; omega)).mono ?_
      rintro e w4 ⟨rfl, hb4⟩
      rw [← HN.out]
      have HB4 := Lib.hid (HB3.out.trans (hb4.mono HB3.out.size))
      clear hb4
      go_wp2_with fail
      go_ret
      exact ⟨rfl, HB4.out⟩
/-- what the reference's part tells -/
def rpOut (o : Option Ro.Pt) : Ending := match o with
  | some p => .returned (.tuple #[pv p, .bool true])
  | none => .returned (.tuple #[.agg #[.int .i64 0, .string ⟨#[]⟩], .bool false])
theorem rf_part (s : ByteArray) (w : World) (hs : s.size ≤ 30000) :
    Calls Tryz.prog 38 #[.string s] w fun e w' => e = rpOut (Ro.part s.data.toList) ∧ Below w.heap.size w w' := by
  obtain ⟨W1, hW1⟩ : ∃ W, w.alloc (.cells #[.int .i64 0, .string ⟨#[]⟩] 35) = W := ⟨_, rfl⟩
  have HB1 := Lib.hid (show Below w.heap.size w W1 by rw [← hW1]; exact (Below.refl _ _).alloc (Nat.le_refl _) _)
  have HC1 := Lib.hid (show W1.heap[w.heap.size]? = some (.cells #[.int .i64 0, .string ⟨#[]⟩] 35 (0, 0)) by rw [← hW1]; exact World.alloc_heap_new _ _)
  have HZ1 := Lib.hid (show W1.heap.size = w.heap.size + 1 by rw [← hW1]; simp)
  have HW1 := Lib.hid hW1
  clear hW1
  have a0 : W1.cell? ⟨w.heap.size, 0, none⟩ = some (.int .i64 0) := by simp [World.cell?, HC1.out]
  have a1 : W1.cell? ⟨w.heap.size, 1, none⟩ = some (.string ⟨#[]⟩) := by simp [World.cell?, HC1.out]
  have y0 : W1.frozen? ⟨w.heap.size, 0, none⟩ = false := frozen_of_row _ _ _ _ _ HC1.out
  have y1 : W1.frozen? ⟨w.heap.size, 1, none⟩ = false := frozen_of_row _ _ _ _ _ HC1.out
  by_cases h1 : s.data.toList = [42]
  · obtain rfl := ba_ext h1
    have e : Ro.part (⟨[42].toArray⟩ : ByteArray).data.toList = some (2, []) := Ro.part_one
    rw [e]
    clear e h1
    go_enter Tryz.func38, Tryz.ntmps38
    go_wp2_with fail
    simp [bodyPost, results, Tryz.results38, go_sem]
    exact ⟨rfl, (Below.refl _ _).alloc (Nat.le_refl _) _⟩
  by_cases h2 : s.data.toList = [42, 42]
  · obtain rfl := ba_ext h2
    have e : Ro.part (⟨[42, 42].toArray⟩ : ByteArray).data.toList = some (3, []) := Ro.part_rest
    rw [e]
    clear e h1 h2
    go_enter Tryz.func38, Tryz.ntmps38
    go_wp2_with fail
    simp [bodyPost, results, Tryz.results38, go_sem]
    exact ⟨rfl, (Below.refl _ _).alloc (Nat.le_refl _) _⟩
  have HPN := Lib.hid (Ro.part_none h1 h2)
  have HPS := Lib.hid (fun o => Ro.part_some (o := o) h1 h2)
  have q1 : (s.toList == [42]) = false := by rw [ByteArray.toList_eq]; exact beq_eq_false_iff_ne.2 h1
  have q2 : (s.toList == [42, 42]) = false := by rw [ByteArray.toList_eq]; exact beq_eq_false_iff_ne.2 h2
  clear h1 h2
  have HDL := Lib.hid (fun r (h : Gt.dec false s.data.toList = some r) => Gt.dec_length false _ s.data.toList r (Nat.le_refl _) h)
  have HSZ := Lib.hid (show s.data.toList.length = s.size from rfl)
  have KD := Lib.hid (fun W => ref_Decode s false W (by omega))
  have KE := Lib.hid (fun (z : ByteArray) W (h : z.size ≤ 100000) => ref_Encode z W h)
  obtain ⟨R, hR⟩ : ∃ R, Ro.part s.data.toList = R := ⟨_, rfl⟩
  rw [hR]
  have HR := Lib.hid hR
  clear hR
  go_enter Tryz.func38, Tryz.ntmps38
  go_wp2_with fail
  rw [HW1.out]
  go_wp2_with fail
  refine (KD.out _).mono ?_
  rintro e w4 ⟨rfl, hb4⟩
  have HB4 := Lib.hid (HB1.out.trans (hb4.mono HB1.out.size))
  have HC4 := Lib.hid ((hb4.block _ (by rw [HZ1.out]; omega)).trans HC1.out)
  have HZ4 := Lib.hid (Nat.lt_of_lt_of_le (show w.heap.size < W1.heap.size by rw [HZ1.out]; omega) hb4.size)
  clear hb4 a0 a1 y0 y1
  cases hd : Gt.dec false s.data.toList with
  | none =>
    have HRN := Lib.hid (HR.out.symm.trans (HPN.out hd))
    clear hd
    simp only [decOut]
    have c0 : w4.cell? ⟨w.heap.size, 0, none⟩ = some (.int .i64 0) := by simp [World.cell?, HC4.out]
    have c1 : w4.cell? ⟨w.heap.size, 1, none⟩ = some (.string ⟨#[]⟩) := by simp [World.cell?, HC4.out]
    have z0 : w4.frozen? ⟨w.heap.size, 0, none⟩ = false := frozen_of_row _ _ _ _ _ HC4.out
    have z1 : w4.frozen? ⟨w.heap.size, 1, none⟩ = false := frozen_of_row _ _ _ _ _ HC4.out
    go_wp2_with fail
    simp [bodyPost, results, Tryz.results38, go_sem, c0, c1, z0, z1]
    exact ⟨by rw [HRN.out]; rfl, (HB4.out.setCell (Nat.le_refl _) _).setCell (Nat.le_refl _) _⟩
  | some o =>
    have HRS := Lib.hid (HR.out.symm.trans (HPS.out o hd))
    have HOL := Lib.hid (HDL.out o hd)
    clear hd
    simp only [decOut]
    obtain ⟨ob, hob⟩ : ∃ z : ByteArray, (⟨o.toArray⟩ : ByteArray) = z := ⟨_, rfl⟩
    have hol : ob.data.toList = o := by rw [← hob]
    rw [hob]
    have HOS := Lib.hid (show ob.size ≤ 100000 by
      have h2 : ob.data.toList.length = ob.size := rfl
      have h3 := HOL.out
      have h4 := HSZ.out
      rw [hol] at h2; omega)
    have KE2 := Lib.hid (fun W => KE.out ob W HOS.out)
    rw [hol] at KE2
    have HOB := Lib.hid (show sv o = .string ob by unfold sv; rw [hob])
    clear hob hol
    go_wp2_with fail
    refine (KE2.out _).mono ?_
    rintro e w5 ⟨rfl, hb5⟩
    have HB5 := Lib.hid (HB4.out.trans (hb5.mono HB4.out.size))
    have HC5 := Lib.hid ((hb5.block _ HZ4.out).trans HC4.out)
    clear hb5
    obtain ⟨d, hdd⟩ : ∃ d, decide (Gt.enc o = s.data.toList) = d := ⟨_, rfl⟩
    obtain ⟨eb, heb⟩ : ∃ z : ByteArray, (⟨(Gt.enc o).toArray⟩ : ByteArray) = z := ⟨_, rfl⟩
    have hq : (eb.toList == s.toList) = d := by
      rw [← heb, ← hdd, ByteArray.toList_eq, ByteArray.toList_eq, Bool.eq_iff_iff, beq_iff_eq, decide_eq_true_iff]
    have hq2 : (eb.toList != s.toList) = !d := by unfold bne; rw [hq]
    rw [heb]
    have HDD := Lib.hid hdd
    clear heb hdd
    have c0 : w5.cell? ⟨w.heap.size, 0, none⟩ = some (.int .i64 0) := by simp [World.cell?, HC5.out]
    have c1 : w5.cell? ⟨w.heap.size, 1, none⟩ = some (.string ⟨#[]⟩) := by simp [World.cell?, HC5.out]
    have z0 : w5.frozen? ⟨w.heap.size, 0, none⟩ = false := frozen_of_row _ _ _ _ _ HC5.out
    have z1 : w5.frozen? ⟨w.heap.size, 1, none⟩ = false := frozen_of_row _ _ _ _ _ HC5.out
    cases d with
    | false =>
      have HRN := Lib.hid (HRS.out.trans (if_neg (of_decide_eq_false HDD.out)))
      go_wp2_with fail
      simp [bodyPost, results, Tryz.results38, go_sem, c0, c1, z0, z1]
      exact ⟨by rw [HRN.out]; rfl, (HB5.out.setCell (Nat.le_refl _) _).setCell (Nat.le_refl _) _⟩
    | true =>
      have HRY := Lib.hid (HRS.out.trans (if_pos (of_decide_eq_true HDD.out)))
      go_wp2_with fail
      simp [bodyPost, results, Tryz.results38, go_sem, c0, c1, z0, z1]
      exact ⟨by rw [HRY.out]; show _ = Ending.returned (.tuple #[.agg #[.int .i64 1, sv o], .bool true]); rw [HOB.out], (HB5.out.setCell (Nat.le_refl _) _).setCell (Nat.le_refl _) _⟩
theorem rf_Parts (v u : Value) (L P : List Ro.Pt) (w : World) (hv : PtS w v L) (hu : PtS w u P) (hL : L.length ≤ 100000) (hP : P.length ≤ 100000) :
    Calls Tryz.prog 14 #[v, u] w fun e w' => e = .returned (.bool (decide (L = P))) ∧ ∃ n, w' = w.drewN n := by
  obtain ⟨p1, c1, rfl⟩ := hv.slice
  obtain ⟨p2, c2, rfl⟩ := hu.slice
  obtain ⟨n, hn⟩ : ∃ n, L.length = n := ⟨_, rfl⟩
  obtain ⟨m, hm⟩ : ∃ n, P.length = n := ⟨_, rfl⟩
  obtain ⟨R, hR⟩ : ∃ R, decide (L = P) = R := ⟨_, rfl⟩
  rw [hn] at hv hL ⊢
  rw [hm] at hu hP ⊢
  rw [hR]
  have HV := Lib.hid hv
  have HU := Lib.hid hu
  have HN := Lib.hid hn
  have HM := Lib.hid hm
  have HR := Lib.hid hR
  clear hv hu hn hm hR
  by_cases hne : n = m
  · subst hne
    go_enter Tryz.func14, Tryz.ntmps14
    go_wp2_with fail
    go_loopw [5] (fun i wr => ∃ k j : Nat, k ≤ n ∧ i = .int .i64 k ∧ wr = w.drewN j ∧ L.take k = P.take k) (fun i _ => n - (intOf i).toNat)
    case atStart => exact ⟨0, 0, Nat.zero_le _, rfl, rfl, rfl⟩
    case round =>
      obtain ⟨k, j, hk, rfl, rfl, htk⟩ := hrel
      have HT := Lib.hid htk
      clear htk
      by_cases hlt : k < n
      · have HLK := Lib.hid (show k < L.length by rw [HN.out]; exact hlt)
        have HPK := Lib.hid (show k < P.length by rw [HM.out]; exact hlt)
        obtain ⟨b, off, rfl, _, _, _, hc⟩ := HV.out.cells HLK.out
        obtain ⟨g, o, rfl, _, _, _, hcu⟩ := HU.out.cells HPK.out
        have x0 := (hc k HLK.out).1
        have x1 := (hc k HLK.out).2
        have y0 := (hcu k HPK.out).1
        have y1 := (hcu k HPK.out).2
        have HK1 := Lib.hid (take_gd L (0, []) k HLK.out)
        have HK2 := Lib.hid (take_gd P (0, []) k HPK.out)
        obtain ⟨⟨kd, tl⟩, hq⟩ : ∃ q, L.getD k (0, []) = q := ⟨_, rfl⟩
        obtain ⟨⟨pd, pl⟩, hpl⟩ : ∃ q, P.getD k (0, []) = q := ⟨_, rfl⟩
        rw [hq] at x0 x1 HK1
        rw [hpl] at y0 y1 HK2
        simp only at x0 x1 y0 y1
        obtain ⟨tb, htb, htl⟩ := sv_is tl
        obtain ⟨pb, hpb, hpd⟩ := sv_is pl
        rw [htb] at x1
        rw [hpb] at y1
        have HQ := Lib.hid hq
        have HPL := Lib.hid hpl
        obtain ⟨d, hd⟩ : ∃ d, decide (((kd, tl) : Ro.Pt) = (pd, pl)) = d := ⟨_, rfl⟩
        have hne2 := part_ne kd pd tb pb
        rw [htl, hpd, hd] at hne2
        have HD := Lib.hid hd
        clear hc hcu hq hpl htb htl hpb hpd hd
        cases d with
        | false =>
          have HNO := Lib.hid (show R = false by
            rw [← HR.out]
            refine decide_eq_false (fun h => of_decide_eq_false HD.out ?_)
            rw [← HQ.out, ← HPL.out, h])
          go_wp2_with fail
          go_quiet (fail)
          go_wp2_with fail
          go_ret
          exact ⟨by rw [HNO.out]; rfl, j + nq, by rw [World.drewN_drewN]⟩
        | true =>
          have HE := Lib.hid (of_decide_eq_true HD.out)
          go_wp2_with fail
          go_quiet (fail)
          go_wp2_with fail
          go_roundw
          case rel => exact ⟨k + 1, j + nq, hlt, by go_num, by first | rfl | rw [World.drewN_drewN], by rw [HK1.out, HK2.out, HT.out, HE.out]⟩
          case measure => simp [intOf]; omega
      · have HYES := Lib.hid (show R = true by
          rw [← HR.out]
          refine decide_eq_true ?_
          have := HT.out
          rwa [List.take_of_length_le (by rw [HN.out]; omega), List.take_of_length_le (by rw [HM.out]; omega)] at this)
        go_wp2_with fail
        go_ret
        exact ⟨by rw [HYES.out]; rfl, _, rfl⟩
  · have HNO := Lib.hid (show R = false by
      rw [← HR.out]
      exact decide_eq_false (fun h => hne (by rw [← HN.out, ← HM.out, h])))
    have h1 : ((n : Int) != (m : Int)) = true := bne_iff_ne.2 (by omega)
    have h2 : ((n : Int) == (m : Int)) = false := beq_eq_false_iff_ne.2 (by omega)
    go_enter Tryz.func14, Tryz.ntmps14
    go_wp2_with fail
    go_ret
    exact ⟨by rw [HNO.out]; rfl, 0, rfl⟩
end Go.Proofs.YtgfammlmbjmkoaaGreatDoor

/- The reference's Parse. -/
namespace Go.Proofs.YtgfammlmbjmkoaaGreatDoor
set_option linter.unusedVariables false
set_option linter.unusedSimpArgs false
open Go.RowKit Go.Shelf
set_option maxHeartbeats 8000000
set_option maxRecDepth 100000
namespace Ro
theorem all_append {α β : Type} {f : α → Option β} : ∀ {A B : List α} {a b : List β}, Gt.all? f A = some a → Gt.all? f B = some b → Gt.all? f (A ++ B) = some (a ++ b)
  | [], B, a, b, h, h2 => by cases h; exact h2
  | x :: A, B, a, b, h, h2 => by
    cases hx : f x with
    | none => rw [Gt.all_none hx] at h; cases h
    | some y =>
      rw [Gt.all_some hx] at h
      cases hA : Gt.all? f A with
      | none => rw [hA] at h; cases h
      | some t =>
        rw [hA] at h; cases h
        rw [List.cons_append, Gt.all_some hx, all_append hA h2]; rfl
theorem all_mem_none {α β : Type} {f : α → Option β} {x : α} : ∀ {L : List α}, x ∈ L → f x = none → Gt.all? f L = none
  | y :: L, h, hx => by
    rcases List.mem_cons.1 h with rfl | h
    · exact Gt.all_none hx
    · cases hy : f y with
      | none => exact Gt.all_none hy
      | some z => rw [Gt.all_some hy, all_mem_none h hx]; rfl
theorem all_split {α β : Type} {f : α → Option β} : ∀ {A B : List α} {r : List β}, Gt.all? f (A ++ B) = some r → ∃ a b, Gt.all? f A = some a ∧ Gt.all? f B = some b ∧ r = a ++ b
  | [], B, r, h => ⟨[], r, rfl, h, rfl⟩
  | x :: A, B, r, h => by
    rw [List.cons_append] at h
    cases hx : f x with
    | none => rw [Gt.all_none hx] at h; cases h
    | some y =>
      rw [Gt.all_some hx] at h
      cases hA : Gt.all? f (A ++ B) with
      | none => rw [hA] at h; cases h
      | some t =>
        rw [hA] at h; cases h
        obtain ⟨a, b, h1, h2, h3⟩ := all_split hA
        exact ⟨y :: a, b, by rw [Gt.all_some hx, h1]; rfl, h2, by rw [h3]; rfl⟩
/-- how far the reference has read -/
def PAt (l : List UInt8) (acc : List Pt) (a k : Nat) : Prop :=
  ∃ Ls, Gs.SAt 47 l Ls a k ∧ Gt.all? part Ls = some acc ∧ (k ≤ l.length → (acc.all fun p => p.1 != 3) = true) ∧ (acc.dropLast.all fun p => p.1 != 3) = true
theorem pAt_start (l : List UInt8) : PAt l [] 0 0 := ⟨[], Gs.sAt_start 47 l, rfl, fun _ => rfl, rfl⟩
theorem pAt_ha {l : List UInt8} {acc : List Pt} {a k : Nat} (h : PAt l acc a k) (hk : k ≤ l.length) : a ≤ k := by
  obtain ⟨Ls, h1, _⟩ := h; exact Gs.sAt_ha h1 hk
theorem pAt_len {l : List UInt8} {acc : List Pt} {a k : Nat} (h : PAt l acc a k) : acc.length ≤ k := by
  obtain ⟨Ls, h1, h2, _⟩ := h
  rw [Gt.all_length h2]; exact h1.1
theorem pAt_more {l : List UInt8} {acc : List Pt} {a k : Nat} (h : PAt l acc a k) (hk : k < l.length) (hc : l[k] ≠ 47) : PAt l acc a (k + 1) := by
  obtain ⟨Ls, h1, h2, h3, h4⟩ := h
  exact ⟨Ls, Gs.sAt_more h1 hk hc, h2, fun _ => h3 (Nat.le_of_lt hk), h4⟩
/-- the part that is cut, and what stands behind it -/
theorem pAt_parts {l : List UInt8} {Ls : List (List UInt8)} {a k : Nat} (h : Gs.SAt 47 l Ls a k) (hk : k ≤ l.length) (hc : ∀ h : k < l.length, l[k] = 47) : ∃ B, Gs.parts 47 [] l = Ls ++ [(l.drop a).take (k - a)] ++ B ∧ (k < l.length → B ≠ []) := by
  have h2 := Gs.sAt_cut h hk hc
  rcases h2.2 with ⟨h3, _, h4⟩ | ⟨h3, h4⟩
  · exact ⟨_, h4.symm, fun _ => Gs.parts_ne _ _ _⟩
  · exact ⟨[], by rw [List.append_nil]; exact h4.symm, fun h5 => by omega⟩
theorem pAt_none {l : List UInt8} {acc : List Pt} {a k : Nat} (h : PAt l acc a k) (hk : k ≤ l.length) (hc : ∀ h : k < l.length, l[k] = 47) (hp : part ((l.drop a).take (k - a)) = none) : Gt.all? part (Gs.parts 47 [] l) = none := by
  obtain ⟨Ls, h1, _⟩ := h
  obtain ⟨B, h2, _⟩ := pAt_parts h1 hk hc
  refine all_mem_none ?_ hp
  rw [h2]; simp
theorem pAt_bad {l : List UInt8} {acc : List Pt} {a k : Nat} {p : Pt} (h : PAt l acc a k) (hk : k < l.length) (hc : l[k] = 47) (hp : part ((l.drop a).take (k - a)) = some p) (h3 : p.1 = 3) {R : List Pt} (hR : Gt.all? part (Gs.parts 47 [] l) = some R) : right R = false := by
  obtain ⟨Ls, h1, _⟩ := h
  obtain ⟨B, h2, hB⟩ := pAt_parts h1 (Nat.le_of_lt hk) (fun _ => hc)
  rw [h2] at hR
  obtain ⟨x, b, hx, hb, rfl⟩ := all_split hR
  obtain ⟨y, z, hy, hz, rfl⟩ := all_split hx
  have hz' : z = [p] := by rw [Gt.all_some hp] at hz; cases hz; rfl
  subst hz'
  have hbn : b ≠ [] := by
    intro e
    subst e
    exact hB hk (List.length_eq_zero_iff.1 (Gt.all_length hb).symm)
  unfold right
  have hd : ((y ++ [p] ++ b).dropLast.all fun p => p.1 != 3) = false := by
    rw [List.dropLast_append_of_ne_nil hbn, List.all_append, List.all_append, List.all_cons, h3]
    simp
  rw [hd, Bool.and_false]
theorem pAt_cut {l : List UInt8} {acc : List Pt} {a k : Nat} {p : Pt} (h : PAt l acc a k) (hk : k ≤ l.length) (hc : ∀ h : k < l.length, l[k] = 47) (hp : part ((l.drop a).take (k - a)) = some p) (h3 : p.1 ≠ 3 ∨ k = l.length) : PAt l (acc ++ [p]) (k + 1) (k + 1) := by
  obtain ⟨Ls, h1, h2, h4, h5⟩ := h
  refine ⟨_, Gs.sAt_cut h1 hk hc, all_append h2 (by rw [Gt.all_some hp]; rfl), fun hk2 => ?_, ?_⟩
  · have hp3 : p.1 ≠ 3 := by rcases h3 with h | h; exact h; omega
    rw [List.all_append, h4 hk, List.all_cons]
    simp [hp3]
  · rw [List.dropLast_concat]; exact h4 hk
theorem pAt_end {l : List UInt8} {acc : List Pt} {a k : Nat} (h : PAt l acc a k) (hk : l.length < k) : Gt.all? part (Gs.parts 47 [] l) = some acc ∧ right acc = true := by
  obtain ⟨Ls, h1, h2, h3, h4⟩ := h
  have h5 := Gs.sAt_end h1 hk
  rw [h5] at h2
  refine ⟨h2, ?_⟩
  unfold right
  rw [h4, Bool.and_true]
  have h6 := Gt.all_length h2
  have h7 := Gs.parts_ne 47 l []
  cases acc with
  | nil => exact absurd (List.length_eq_zero_iff.1 h6.symm) h7
  | cons _ _ => rfl
end Ro
theorem rhead_is {s : ByteArray} (h : 0 < s.size) : (s.data.toList.head? == some 47) = (((s[0]'h).toNat : Int) == 47) := by
  have hl : 0 < s.data.toList.length := h
  have h1 : s.data.toList.head? = some (s[0]'h) := by
    rw [List.head?_eq_getElem?, List.getElem?_eq_getElem hl]; rfl
  rw [h1, Bool.eq_iff_iff, beq_iff_eq, beq_iff_eq]
  constructor
  · intro e; rw [Option.some.inj e]; rfl
  · intro e; congr 1; exact UInt8.toNat_inj.1 (by show _ = 47; omega)
theorem drop_at {s : ByteArray} {k : Nat} (h : k + 1 < s.size) : (s.data.toList.drop 1)[k]? = some (s[k + 1]'h) := by
  have hl : k + 1 < s.data.toList.length := h
  rw [List.getElem?_drop, Nat.add_comm 1 k, List.getElem?_eq_getElem hl]; rfl
/-- what the reference's Parse tells -/
theorem rf_Parse (s : ByteArray) (w : World) (hs : s.size ≤ 30000) :
    Calls Tryz.prog 13 #[.string s] w fun e w' => RdOut (Ro.parse s.data.toList) e w' ∧ Below w.heap.size w w' := by
  obtain ⟨i0, hi, hz0, hz1, hz2⟩ := info_parts (show (Tryz.prog.info? 35).map (fun i => (i.zero, i.size, i.bytes)) = some (some (.agg #[.int .i64 0, .string ByteArray.empty]), 2, 24) by kernel_rfl)
  have HSL := Lib.hid (show s.data.toList.length = s.size from rfl)
  obtain ⟨B, hB⟩ : ∃ B, w.heap.size = B := ⟨_, rfl⟩
  rw [hB]
  by_cases hf : Ro.fine s.data.toList = true
  · have hsz : s.size ≤ 1024 := by
      unfold Ro.fine at hf; rw [Bool.and_eq_true] at hf
      have := of_decide_eq_true hf.1; rw [HSL.out] at this; exact this
    have hh : (s.data.toList.head? == some 47) = true := by unfold Ro.fine at hf; rw [Bool.and_eq_true] at hf; exact hf.2
    have hpos : 1 ≤ s.size := by
      rcases Nat.eq_zero_or_pos s.size with h | h
      · have h1 : s.data.toList = [] := List.length_eq_zero_iff.1 h
        rw [h1] at hh; exact absurd hh (by decide)
      · exact h
    obtain ⟨m, hm⟩ : ∃ m, s.size = m + 1 := ⟨s.size - 1, by omega⟩
    obtain ⟨l, hl⟩ : ∃ l, s.data.toList.drop 1 = l := ⟨_, rfl⟩
    have hll : l.length = m := by rw [← hl, List.length_drop, HSL.out]; omega
    have hs0 : (((s[0]'hpos).toNat : Int) == 47) = true := by rw [← rhead_is hpos]; exact hh
    have HPS := Lib.hid (show Ro.segs s.data.toList = Gs.parts 47 [] l by unfold Ro.segs; rw [hl])
    have HF := Lib.hid hf
    have HLL := Lib.hid hll
    have HLB := Lib.hid (fun k (hk : k + 1 < s.size) => (hl ▸ drop_at hk : l[k]? = some (s[k + 1]'hk)))
    have HEX := Lib.hid (fun a k (h : a ≤ k) => (show (s.extract (a + 1) (k + 1)).data.toList = (l.drop a).take (k - a) by
      rw [Lib.extract_data, ← hl, List.drop_drop]
      congr 1
      · omega
      · rw [Nat.add_comm 1 a]))
    clear hf hh hl hll
    have hs1 : (((s[0]'hpos).toNat : Int) != 47) = false := by unfold bne; rw [hs0]; rfl
    have HM := Lib.hid hm
    clear hm
    obtain ⟨R, hR⟩ : ∃ R, Ro.parse s.data.toList = R := ⟨_, rfl⟩
    rw [hR]
    have HR := Lib.hid hR
    have HB := Lib.hid hB
    clear hR hB
    have hn1 : ¬ (s.size : Int) < 1 := by omega
    have hn2 : ¬ (1024 : Int) < (s.size : Int) := by omega
    go_enter Tryz.func13, Tryz.ntmps13
    go_wp2_with fail
    go_loopw [4, 5, 6] (fun v fr i wr => ∃ (k a : Nat) (acc : List Ro.Pt), k ≤ m + 1 ∧ fr = .int .i64 ((a + 1 : Nat) : Int) ∧ i = .int .i64 ((k + 1 : Nat) : Int) ∧ a ≤ m + 1 ∧ Ro.PAt l acc a k ∧ wr.ownsRow B 35 2 v acc.length (pts acc) ∧ Below B w wr)
      (fun _ _ i _ => m + 2 - (intOf i).toNat)
    case atStart => exact ⟨0, 0, [], Nat.zero_le _, rfl, rfl, Nat.zero_le _, Ro.pAt_start _, World.ownsRow_nil _ _ _ _, HB.out ▸ Below.refl _ _⟩
    case round =>
      obtain ⟨k, a, acc, hk, rfl, rfl, hak, hat, hown, hbl⟩ := hrel
      have HA := Lib.hid hat
      have HO := Lib.hid hown
      have HBL := Lib.hid hbl
      clear hat hown hbl
      by_cases hkm : k ≤ m
      · have HKM := Lib.hid hkm
        have HAK := Lib.hid (Ro.pAt_ha HA.out (by rw [HLL.out]; exact hkm))
        have hlo : ((k + 1 : Nat) : Int) ≤ (s.size : Int) := by have := HM.out; omega
        by_cases hmore : k < m ∧ ∃ h : k + 1 < s.size, ((s[k + 1]'h).toNat : Int) ≠ 47
        · obtain ⟨hlt, hkl, hne⟩ := hmore
          have hx : (((s[k + 1]'hkl).toNat : Int) == 47) = false := beq_eq_false_iff_ne.2 hne
          have HN := Lib.hid (Ro.pAt_more HA.out (show k < l.length by rw [HLL.out]; exact hlt) (by
            have h1 := HLB.out k hkl
            have h2 := (List.getElem?_eq_some_iff.1 h1).2
            rw [h2]
            intro e; apply hne; rw [e]; rfl))
          have hlt1 : ((k + 1 : Nat) : Int) < (s.size : Int) := by have := HM.out; omega
          clear hne
          go_wp2_with fail
          go_roundw
          case rel => exact ⟨k + 1, a, acc, by omega, rfl, by go_num, hak, HN.out, HO.out, HBL.out⟩
          case measure => simp [intOf]; omega
        · have HC := Lib.hid (show ∀ h : k < l.length, l[k]'h = 47 from fun h => by
            rw [HLL.out] at h
            have hkl : k + 1 < s.size := by have := HM.out; omega
            have h2 := (List.getElem?_eq_some_iff.1 (HLB.out k hkl)).2
            rw [h2]
            have h3 : ((s[k + 1]'hkl).toNat : Int) = 47 := Classical.not_not.1 (fun e => hmore ⟨h, hkl, e⟩)
            exact UInt8.toNat_inj.1 (by show _ = 47; omega))
          have hak1 : ((a + 1 : Nat) : Int) ≤ ((k + 1 : Nat) : Int) := by have := HAK.out; omega
          obtain ⟨pc, hpc⟩ : ∃ z, s.extract (a + 1) (k + 1) = z := ⟨_, rfl⟩
          have HPC := Lib.hid (show pc.data.toList = (l.drop a).take (k - a) by rw [← hpc]; exact HEX.out a k HAK.out)
          have HPE := Lib.hid hpc
          have HPZ := Lib.hid (show pc.size ≤ 30000 by
            have h1 : pc.data.toList.length = pc.size := rfl
            rw [HPC.out, List.length_take, List.length_drop] at h1
            have := HLL.out; have := HM.out; omega)
          have KP := Lib.hid (rf_part pc wr HPZ.out)
          rw [HPC.out] at KP
          clear hmore hpc
          rcases Nat.lt_or_ge k m with hlt | hge
          · have hkl : k + 1 < s.size := by have := HM.out; omega
            have hx : (((s[k + 1]'hkl).toNat : Int) == 47) = true := beq_iff_eq.2 (by
              have h2 := (List.getElem?_eq_some_iff.1 (HLB.out k hkl)).2
              rw [← h2, HC.out (by rw [HLL.out]; exact hlt)]; rfl)
            have hx2 : (((s[k + 1]'hkl).toNat : Int) != 47) = false := by unfold bne; rw [hx]; rfl
            have hlt1 : ((k + 1 : Nat) : Int) < (s.size : Int) := by have := HM.out; omega
            cases hp : Ro.part ((l.drop a).take (k - a)) with
            | none =>
              rw [hp] at KP
              have HRN := Lib.hid (HR.out.symm.trans (Ro.parse_none (by rw [HPS.out]; exact Ro.pAt_none HA.out (by rw [HLL.out]; exact hkm) HC.out hp)))
              clear hp
              go_wp2_with fail
              rw [HPE.out]
              refine KP.out.mono ?_
              rintro e w2 ⟨rfl, hb2⟩
              have HB2 := Lib.hid (HBL.out.trans (hb2.mono (HB.out ▸ HBL.out.size)))
              clear hb2
              simp only [rpOut]
              go_wp2_with fail
              go_ret2
              exact ⟨by rw [HRN.out]; rfl, HB2.out.alloc (by have := HB2.out.size; have := HB.out; omega) _⟩
            | some q =>
              rw [hp] at KP
              by_cases hq3 : q.1 = 3
              · have HRN := Lib.hid (show R = none by
                  rw [← HR.out]
                  cases hall : Gt.all? Ro.part (Gs.parts 47 [] l) with
                  | none => exact Ro.parse_none (by rw [HPS.out]; exact hall)
                  | some T =>
                    rw [Ro.parse_is HF.out (by rw [HPS.out]; exact hall), if_neg]
                    rw [Ro.pAt_bad HA.out (by rw [HLL.out]; exact hlt) (HC.out (by rw [HLL.out]; exact hlt)) hp hq3 hall]
                    decide)
                obtain ⟨kd, tl⟩ := q
                obtain rfl : kd = 3 := hq3
                clear hp
                obtain ⟨tb, htb, htd⟩ := sv_is tl
                have hpv : pv (3, tl) = .agg #[.int .i64 3, .string tb] := by rw [← htb]; rfl
                go_wp2_with fail
                rw [HPE.out]
                refine KP.out.mono ?_
                rintro e w2 ⟨rfl, hb2⟩
                have HB2 := Lib.hid (HBL.out.trans (hb2.mono (HB.out ▸ HBL.out.size)))
                clear hb2
                simp only [rpOut, hpv]
                go_wp2_with fail
                go_ret2
                exact ⟨by rw [HRN.out]; rfl, HB2.out.alloc (by have := HB2.out.size; have := HB.out; omega) _⟩
              · have HN := Lib.hid (Ro.pAt_cut HA.out (by rw [HLL.out]; exact hkm) HC.out hp (.inl hq3))
                have HQ3 := Lib.hid hq3
                clear hp hq3
                go_wp2_with fail
                rw [HPE.out]
                refine KP.out.mono ?_
                rintro e w2 ⟨rfl, hb2⟩
                obtain ⟨kd, tl⟩ := q
                obtain ⟨tb, htb, htd⟩ := sv_is tl
                have hpv : pv (kd, tl) = .agg #[.int .i64 kd, .string tb] := by rw [← htb]; rfl
                simp only [rpOut, hpv]
                have HB2 := Lib.hid (HBL.out.trans (hb2.mono (HB.out ▸ HBL.out.size)))
                have HO2 := Lib.hid (show w2.ownsRow B 35 2 _ acc.length (pts acc) from HO.out.belowed hb2)
                have HTB := Lib.hid htb
                have HAL := Lib.hid (Ro.pAt_len HA.out)
                clear hb2 htb htd hpv KP
                have hk3 : ((kd : Int) == 3) = false := beq_eq_false_iff_ne.2 HQ3.out
                go_wp2_with (at_builtin; refine wpList_append_own _ rfl _ _ 23 rfl B 35 i0 (.agg #[.int .i64 0, .string ByteArray.empty]) 2 24 Tryz.underlying23 hi hz0 hz1 hz2 rfl (by decide) _ _ _ rfl ((HO2.out.alloc _).alloc _) ⟨w2.heap.size + 1, 0, none⟩ 1 1 [.int .i64 kd, .string tb] rfl rfl ?c1 ?c2 ?c3 ?c4 ?c5 ?_)
                try case c1 =>
                  intro j u hj
                  match j, hj with
                  | 0, hj => simp at hj; subst hj; simp [Addr.add]
                  | 1, hj => simp at hj; subst hj; simp [Addr.add]
                case c2 => first | exact ⟨rfl, rfl⟩ | (intro u hu; simp at hu; rcases hu with rfl | rfl <;> rfl)
                case c3 => have := HAL.out; have := HM.out; unfold maxLen; omega
                case c4 => have := HAL.out; have := HM.out; omega
                case c5 => have := HB2.out.size; have := HB.out; simp; omega
                intro v' w4 hown' hgrow _
                have HB4 := Lib.hid (show Below B w w4 from Below.grown ((HB2.out.alloc (by have := HB2.out.size; have := HB.out; omega) _).alloc (by have := HB2.out.size; have := HB.out; simp; omega) _) hgrow (by have := HB2.out.size; have := HB.out; simp; omega) (own_geP HO2.out))
                have HO4 := Lib.hid (show w4.ownsRow B 35 2 v' (acc ++ [(kd, tl)]).length (pts (acc ++ [(kd, tl)])) by
                    rw [pts_snoc, List.length_append, HTB.out]
                    exact hown')
                clear hgrow hown'
                go_wp2
                go_roundw
                case rel => exact ⟨k + 1, k + 1, _, by omega, by go_num, by go_num, by omega, HN.out, HO4.out, HB4.out⟩
                case measure => simp [intOf]; omega
          · obtain rfl : k = m := by omega
            have hlt1 : ¬ ((k + 1 : Nat) : Int) < (s.size : Int) := by have := HM.out; omega
            cases hp : Ro.part ((l.drop a).take (k - a)) with
            | none =>
              rw [hp] at KP
              have HRN := Lib.hid (HR.out.symm.trans (Ro.parse_none (by rw [HPS.out]; exact Ro.pAt_none HA.out (by rw [HLL.out]; exact Nat.le_refl _) HC.out hp)))
              clear hp
              go_wp2_with fail
              rw [HPE.out]
              refine KP.out.mono ?_
              rintro e w2 ⟨rfl, hb2⟩
              have HB2 := Lib.hid (HBL.out.trans (hb2.mono (HB.out ▸ HBL.out.size)))
              clear hb2
              simp only [rpOut]
              go_wp2_with fail
              go_ret2
              exact ⟨by rw [HRN.out]; rfl, HB2.out.alloc (by have := HB2.out.size; have := HB.out; omega) _⟩
            | some q =>
              rw [hp] at KP
              have HN := Lib.hid (Ro.pAt_cut HA.out (by rw [HLL.out]; exact Nat.le_refl _) HC.out hp (.inr HLL.out.symm))
              clear hp
              go_wp2_with fail
              rw [HPE.out]
              refine KP.out.mono ?_
              rintro e w2 ⟨rfl, hb2⟩
              obtain ⟨kd, tl⟩ := q
              obtain ⟨tb, htb, htd⟩ := sv_is tl
              have hpv : pv (kd, tl) = .agg #[.int .i64 kd, .string tb] := by rw [← htb]; rfl
              simp only [rpOut, hpv]
              have HB2 := Lib.hid (HBL.out.trans (hb2.mono (HB.out ▸ HBL.out.size)))
              have HO2 := Lib.hid (show w2.ownsRow B 35 2 _ acc.length (pts acc) from HO.out.belowed hb2)
              have HTB := Lib.hid htb
              have HAL := Lib.hid (Ro.pAt_len HA.out)
              clear hb2 htb htd hpv KP
              by_cases hk3 : kd = 3
              · subst hk3
                go_wp2_with (at_builtin; refine wpList_append_own _ rfl _ _ 23 rfl B 35 i0 (.agg #[.int .i64 0, .string ByteArray.empty]) 2 24 Tryz.underlying23 hi hz0 hz1 hz2 rfl (by decide) _ _ _ rfl ((HO2.out.alloc _).alloc _) ⟨w2.heap.size + 1, 0, none⟩ 1 1 [.int .i64 3, .string tb] rfl rfl ?d1 ?d2 ?d3 ?d4 ?d5 ?_)
                try case d1 =>
                  intro j u hj
                  match j, hj with
                  | 0, hj => simp at hj; subst hj; simp [Addr.add]
                  | 1, hj => simp at hj; subst hj; simp [Addr.add]
                case d2 => first | exact ⟨rfl, rfl⟩ | (intro u hu; simp at hu; rcases hu with rfl | rfl <;> rfl)
                case d3 => have := HAL.out; have := HM.out; unfold maxLen; omega
                case d4 => have := HAL.out; have := HM.out; omega
                case d5 => have := HB2.out.size; have := HB.out; simp; omega
                intro v' w4 hown' hgrow _
                have HB4 := Lib.hid (show Below B w w4 from Below.grown ((HB2.out.alloc (by have := HB2.out.size; have := HB.out; omega) _).alloc (by have := HB2.out.size; have := HB.out; simp; omega) _) hgrow (by have := HB2.out.size; have := HB.out; simp; omega) (own_geP HO2.out))
                have HO4 := Lib.hid (show w4.ownsRow B 35 2 v' (acc ++ [(3, tl)]).length (pts (acc ++ [(3, tl)])) by
                  rw [pts_snoc, List.length_append, HTB.out]
                  exact hown')
                clear hgrow hown'
                go_wp2
                go_roundw
                case rel => exact ⟨k + 1, k + 1, _, by omega, by go_num, by go_num, by omega, HN.out, HO4.out, HB4.out⟩
                case measure => simp [intOf]; omega
              · have hk4 : ((kd : Int) == 3) = false := beq_eq_false_iff_ne.2 hk3
                clear hk3
                go_wp2_with (at_builtin; refine wpList_append_own _ rfl _ _ 23 rfl B 35 i0 (.agg #[.int .i64 0, .string ByteArray.empty]) 2 24 Tryz.underlying23 hi hz0 hz1 hz2 rfl (by decide) _ _ _ rfl ((HO2.out.alloc _).alloc _) ⟨w2.heap.size + 1, 0, none⟩ 1 1 [.int .i64 kd, .string tb] rfl rfl ?e1 ?e2 ?e3 ?e4 ?e5 ?_)
                try case e1 =>
                  intro j u hj
                  match j, hj with
                  | 0, hj => simp at hj; subst hj; simp [Addr.add]
                  | 1, hj => simp at hj; subst hj; simp [Addr.add]
                case e2 => first | exact ⟨rfl, rfl⟩ | (intro u hu; simp at hu; rcases hu with rfl | rfl <;> rfl)
                case e3 => have := HAL.out; have := HM.out; unfold maxLen; omega
                case e4 => have := HAL.out; have := HM.out; omega
                case e5 => have := HB2.out.size; have := HB.out; simp; omega
                intro v' w4 hown' hgrow _
                have HB4 := Lib.hid (show Below B w w4 from Below.grown ((HB2.out.alloc (by have := HB2.out.size; have := HB.out; omega) _).alloc (by have := HB2.out.size; have := HB.out; simp; omega) _) hgrow (by have := HB2.out.size; have := HB.out; simp; omega) (own_geP HO2.out))
                have HO4 := Lib.hid (show w4.ownsRow B 35 2 v' (acc ++ [(kd, tl)]).length (pts (acc ++ [(kd, tl)])) by
                  rw [pts_snoc, List.length_append, HTB.out]
                  exact hown')
                clear hgrow hown'
                go_wp2
                go_roundw
                case rel => exact ⟨k + 1, k + 1, _, by omega, by go_num, by go_num, by omega, HN.out, HO4.out, HB4.out⟩
                case measure => simp [intOf]; omega
      · obtain rfl : k = m + 1 := by omega
        have hlo : ¬ ((m + 1 + 1 : Nat) : Int) ≤ (s.size : Int) := by have := HM.out; omega
        have HE := Lib.hid (Ro.pAt_end HA.out (by rw [HLL.out]; omega))
        have HRY := Lib.hid (show R = some acc by
          rw [← HR.out, Ro.parse_is HF.out (by rw [HPS.out]; exact HE.out.1), if_pos HE.out.2])
        go_wp2_with fail
        go_ret2
        exact ⟨by rw [HRY.out]; exact ⟨_, rfl, PtS.of HO.out⟩, HBL.out⟩
  · have HNO := Lib.hid (Ro.parse_bad (s := s.data.toList) (by simpa using hf))
    obtain ⟨R, hR⟩ : ∃ R, Ro.parse s.data.toList = R := ⟨_, rfl⟩
    rw [hR]
    have HR := Lib.hid (hR.symm.trans HNO.out)
    clear hR
    rcases Nat.eq_zero_or_pos s.size with h0 | h0
    · have hq : ((s.size : Int) < 1) := by omega
      have HB := Lib.hid hB
      clear hf
      go_enter Tryz.func13, Tryz.ntmps13
      go_wp2_with fail
      go_ret2
      exact ⟨by rw [HR.out]; rfl, HB.out ▸ Below.refl _ _⟩
    · by_cases hsz : s.size ≤ 1024
      · have hn1 : ¬ (s.size : Int) < 1 := by omega
        have hn2 : ¬ (1024 : Int) < (s.size : Int) := by omega
        have hx : (((s[0]'h0).toNat : Int) == 47) = false := beq_eq_false_iff_ne.2 (fun h => hf (by
          unfold Ro.fine
          rw [decide_eq_true (by rw [HSL.out]; exact hsz), Bool.true_and, rhead_is h0]
          exact beq_iff_eq.2 h))
        have HB := Lib.hid hB
        clear hf
        go_enter Tryz.func13, Tryz.ntmps13
        go_wp2_with fail
        all_goals first
          | (go_ret2; exact ⟨by rw [HR.out]; rfl, HB.out ▸ Below.refl _ _⟩)
          | trace_state
      · have hn1 : ¬ (s.size : Int) < 1 := by omega
        have hn2 : (1024 : Int) < (s.size : Int) := by omega
        have HB := Lib.hid hB
        clear hf
        go_enter Tryz.func13, Tryz.ntmps13
        go_wp2_with fail
        go_ret2
        exact ⟨by rw [HR.out]; rfl, HB.out ▸ Below.refl _ _⟩
end Go.Proofs.YtgfammlmbjmkoaaGreatDoor
