/- A range over a function, by one law: the iterator may turn one block of its own between two rounds. No condition but those that each lemma states. -/
import Derived.RangeFuncNested
import Derived.RangeFuncBound
import Derived.RangeFuncCalls
import Derived.RangeFuncLeaves
import Derived.Scope
namespace Go.Proofs.YtoidopdpnnogaaaDoor
set_option linter.unusedVariables false
set_option linter.unusedSimpArgs false
open Go.RowKit
/-- what turns beside the body: the blocks that the iterator owns; from B on, blocks that are no cells -/
structure Turn (B : Nat) (own : Nat → Prop) (W W' : World) : Prop where
  os : W'.os = W.os
  tape : W'.tape = W.tape
  output : W'.output = W.output
  size : W.heap.size ≤ W'.heap.size
  block : ∀ k, k < W.heap.size → ¬ own k → (B ≤ k → ∀ o, W.heap[k]? = some o → o.isCells = true) → W'.heap[k]? = W.heap[k]?
theorem Turn.refl (B : Nat) (own : Nat → Prop) (W : World) : Turn B own W W := ⟨rfl, rfl, rfl, Nat.le_refl _, fun _ _ _ _ => rfl⟩
theorem Turn.trans {B : Nat} {own : Nat → Prop} {X Y Z : World} (h : Turn B own X Y) (k : Turn B own Y Z) : Turn B own X Z :=
  ⟨k.os.trans h.os, k.tape.trans h.tape, k.output.trans h.output, Nat.le_trans h.size k.size, fun i hi hr hc => by
    have e := h.block i hi hr hc
    exact (k.block i (Nat.lt_of_lt_of_le hi h.size) hr (fun hb o ho => hc hb o (by rw [← e]; exact ho))).trans e⟩
theorem Turn.grown {B : Nat} {own : Nat → Prop} {row : Option Nat} {W W' : World} (h : W.grownBy W' row) (hr : ∀ b, row = some b → own b) : Turn B own W W' :=
  ⟨h.os, h.tape, h.output, h.size, fun k hk ho _ => h.block k hk (fun e => ho (hr k e.symm))⟩
theorem Turn.alloc {B : Nat} {own : Nat → Prop} (W : World) (o : Obj) : Turn B own W (W.alloc o) := .grown (World.grownBy_alloc W o none) (fun _ h => by cases h)
theorem Turn.drew {B : Nat} {own : Nat → Prop} (W : World) : Turn B own W W.drew := ⟨rfl, rfl, rfl, Nat.le_refl _, fun _ _ _ _ => rfl⟩
theorem Turn.setCell {B : Nat} {own : Nat → Prop} (W : World) (b i : Nat) (v : Value) (h : own b) : Turn B own W (W.setCell ⟨b, i, none⟩ v) :=
  ⟨rfl, rfl, rfl, (KeepsWalks.setCell W _ v).size, fun k _ ho _ => Below.heap_setCell _ _ _ k (fun e => ho (by rw [e]; exact h))⟩
theorem Turn.putObj {B l : Nat} {own : Nat → Prop} {W : World} {o : Obj} (o' : Obj) (hl : B ≤ l) (h : W.heap[l]? = some o) (hc : o.isCells = false) : Turn B own W (W.putObj l o') :=
  ⟨rfl, rfl, rfl, by simp, fun k hk hr hb => World.putObj_heap_other (fun e => by subst e; rw [hb hl o h] at hc; cases hc)⟩
theorem Turn.cells {B k : Nat} {own : Nat → Prop} {W W' : World} {o : Obj} (h : Turn B own W W') (hk : W.heap[k]? = some o) (hc : o.isCells = true) (hr : ¬ own k) : W'.heap[k]? = some o :=
  (h.block k (Array.getElem?_eq_some_iff.1 hk).1 hr (fun _ o' ho => by rw [hk] at ho; cases ho; exact hc)).trans hk
theorem Turn.boxed {B k : Nat} {own : Nat → Prop} {W W' : World} {t : TypeId} {v : Value} (h : Turn B own W W') (hk : Boxed W k t v) (hr : ¬ own k) : Boxed W' k t v := h.cells hk rfl hr
theorem Turn.low {B k : Nat} {own : Nat → Prop} {W W' : World} {o : Obj} (h : Turn B own W W') (hk : W.heap[k]? = some o) (hb : k < B) (hr : ¬ own k) : W'.heap[k]? = some o :=
  (h.block k (Array.getElem?_eq_some_iff.1 hk).1 hr (fun _ => by omega)).trans hk
theorem Turn.below {B N : Nat} {own : Nat → Prop} {W W' : World} (h : Turn B own W W') (hN : N ≤ B) (hs : N ≤ W.heap.size) (hr : ∀ b, own b → N ≤ b) : Below N W W' :=
  ⟨h.os, h.tape, h.output, h.size, fun k hk => h.block k (by omega) (fun e => by have := hr k e; omega) (fun hb => by omega)⟩
theorem Turn.mono {B B' : Nat} {own own' : Nat → Prop} {W W' : World} (h : Turn B own W W') (hb : B' ≤ B) (ho : ∀ k, own k → own' k) : Turn B' own' W W' :=
  ⟨h.os, h.tape, h.output, h.size, fun k hk hr hc => h.block k hk (fun e => hr (ho k e)) (fun hB => hc (by omega))⟩
/-- what an iterator at W does: N calls of yield at most, one behind the other -/
def IterAt (F : Fence) (n : Nat) (P : Program) (gf : Nat) (lb : Array Value) (encs : Nat → Array Value) (N : Nat) (own : Nat → Prop) (Kp : World → World → Prop) (W : World) : Prop :=
  ∀ (l : Nat) (J : Nat → World → Prop) (Jx : World → Prop),
    (∀ k X Y, J k X → Turn W.heap.size own X Y → J k Y) → (∀ X Y, Jx X → Turn W.heap.size own X Y → Jx Y) →
    (∀ k X, k < N → J k X → YieldAt F (n - 1) P l (encs k) X fun e Y => (e = .returned (.bool true) ∧ J (k + 1) Y ∧ Kp X Y ∧ KeepsFrom W.heap.size X Y) ∨ (e = .returned (.bool false) ∧ Jx Y ∧ KeepsFrom W.heap.size X Y)) →
    J 0 W → CallsIn F n P gf (#[.func (.yield l) #[] #[]] ++ lb) W fun e Y => (∃ v, e = .returned v) ∧ (J N Y ∨ Jx Y)
theorem IterAt.inRound {F : Fence} {n : Nat} {P : Program} {gf : Nat} {lb : Array Value} {encs : Nat → Array Value} {N : Nat} {own : Nat → Prop} {Kp : World → World → Prop} {W : World} (l : Nat) (h : IterAt F n P gf lb encs N own Kp W) : IterAt (F.inRound l) n P gf lb encs N own Kp W := h
/-- the blocks of the iterator's own lie as they lay -/
def Keep (own : Nat → Prop) (X Y : World) : Prop := ∀ b, own b → Y.heap[b]? = X.heap[b]?
theorem Keep.trans {own : Nat → Prop} {X Y Z : World} (h : Keep own X Y) (k : Keep own Y Z) : Keep own X Z := fun b hb => (k b hb).trans (h b hb)
theorem Keep.putObj {own : Nat → Prop} (W : World) (l : Nat) (o : Obj) (h : ¬ own l) : Keep own W (W.putObj l o) := fun b hb => World.putObj_heap_other (fun e => h (e ▸ hb))
theorem Keep.below {own : Nat → Prop} {N : Nat} {X Y : World} (h : Below N X Y) (ho : ∀ b, own b → b < N) : Keep own X Y := fun b hb => h.block b (ho b hb)
/-- how a round's body may be left -/
def rfPost (B : Nat) (Kp : World → World → Prop) (I : World → Prop) (Ix : Code → World → Prop) (W : World) : Exit → Act → World → Prop
  | .normal, _, W' => KeepsFrom B W W' ∧ Kp W W' ∧ I W'
  | .ret, _, W' => KeepsFrom B W W' ∧ Ix .ret W'
  | .exit id, _, W' => KeepsFrom B W W' ∧ Ix (.exit id) W'
  | .goto t, _, W' => KeepsFrom B W W' ∧ Ix (.goto t) W'
  | .panic _, _, _ => False
  | .outgrown, _, _ => False
variable {F : Fence} {n : Nat} {P : Program}
/-- the loop's one call, its record laid -/
theorem rf_core {fn : FuncId} {tmps : Array Value} {dfr : Nat} {ps : Array Tmp} {assign body : Code} {Q : Exit → Act → World → Prop} {a' : Act} {B l : Nat} {W1 : World} {rec : LoopState → Option Code → Loop}
    (hrec : rec = fun st pe => { state := st, pending := pe, fn, tmps, params := ps, assign, body, defers := dfr }) (hfn : F.fn fn)
    {gf : Nat} {lb : Array Value} {encs : Nat → Array Value} {N : Nat} {own : Nat → Prop} {Kp : World → World → Prop} (hps : ∀ k, (encs k).size = ps.size)
    (hBl : B ≤ l) (hrow : ¬ own l) (hL1 : W1.heap[l]? = some (.loop (rec .ready none)))
    (hit : IterAt F (n - 1) P gf lb encs N own Kp W1)
    (hKt : ∀ {A B C : World}, Kp A B → Kp B C → Kp A C) (hKb : ∀ (W : World) (o o' : Obj), W.heap[l]? = some o → o.isCells = false → Kp W (W.putObj l o'))
    (I : Nat → World → Prop) (Ix : Code → World → Prop) (hIg : ∀ k X Y, I k X → Turn W1.heap.size own X Y → I k Y) (hIp : ∀ k X r o, I k X → X.heap[l]? = some (.loop r) → I k (X.putObj l o))
    (hXg : ∀ c X Y, Ix c X → Turn W1.heap.size own X Y → Ix c Y) (hXp : ∀ c X r o, Ix c X → X.heap[l]? = some (.loop r) → Ix c (X.putObj l o)) (h0 : I 0 W1)
    (Ax : Nat → Act → World → Prop) (hAp : ∀ k b X r o, Ax k b X → X.heap[l]? = some (.loop r) → Ax k b (X.putObj l o))
    (hassign : ∀ (k : Nat) (W : World) (K : Act → World → Prop), k < N → I k W → (∀ b W', KeepsFrom B W W' → Kp W W' → I k W' → Ax k b W' → K b W') →
      assign.wpIn (F.inRound l) (n - 1 - 1) P (Exit.then K (fun _ _ _ => False)) { tmps := (ps.zip (encs k)).foldl (fun t (p, v) => t.setIfInBounds p v) tmps, defers := [] } W)
    (hbody : ∀ (k : Nat) (b : Act) (W : World), (∃ r, W.heap[l]? = some (.loop r)) → k < N → I k W → Ax k b W → body.wpIn (F.inRound l) (n - 1 - 1) P (rfPost B Kp (I (k + 1)) Ix W) b W)
    (hdone : ∀ (W : World), I N W → Q .normal a' W) (hstop : ∀ (c : Code) (W : World), Ix c W → c.wpIn F n P Q a' W) :
    CallsIn F (n - 1) P gf (#[.func (.yield l) #[] #[]] ++ lb) W1 (rangePost F n P l Q a') := by
  refine (hit l (fun k W => I k W ∧ W.heap[l]? = some (.loop (rec .ready none))) (fun W => ∃ c, Ix c W ∧ W.heap[l]? = some (.loop (rec .done (some c))))
    (fun k X Y hs hg => ⟨hIg k X Y hs.1 hg, hg.low hs.2 (Array.getElem?_eq_some_iff.1 hL1).1 hrow⟩)
    (fun X Y hs hg => by obtain ⟨c, hc, hl⟩ := hs; exact ⟨c, hXg c X Y hc hg, hg.low hl (Array.getElem?_eq_some_iff.1 hL1).1 hrow⟩) ?_ ⟨h0, hL1⟩).mono ?_
  · rintro k W hkN ⟨hi, hl⟩
    have hy := run_yield (P := P) (args := encs k) hl (by rw [hrec]; exact hps k)
    rw [hrec] at hy
    refine ⟨fn, _, assign, body, hy, roundIn_of_wpIn hfn (hassign k W _ hkN hi ?_)⟩
    clear hy
    intro b Wa hkfa hkpa hia hax
    have hla := hkfa.same _ _ hBl hl rfl
    have hlt : l < Wa.heap.size := (Array.getElem?_eq_some_iff.1 hla).1
    refine ⟨_, run_beginRound hla (by rw [hrec]), ?_⟩
    have hl2 : (Wa.putObj l (.loop { rec .ready none with state := .busy })).heap[l]? = some (.loop { rec .ready none with state := .busy }) := World.putObj_heap_same hlt
    have hw2 : Kp Wa (Wa.putObj l (.loop { rec .ready none with state := .busy })) := hKb _ _ _ hla rfl
    refine wpIn_mono (hbody k b _ ⟨_, hl2⟩ hkN (hIp k _ _ _ hia hla) (hAp k b _ _ _ hax hla)) ?_
    have fin : ∀ (jump : Option Code) (W3 : World), KeepsFrom B (Wa.putObj l (.loop { rec .ready none with state := .busy })) W3 →
        (Instr.endRound l jump).run P W3 = .ok (.bool jump.isNone) (W3.putObj l (.loop (rec (if jump.isNone then .ready else .done) jump))) ∧
        W3.heap[l]? = some (.loop { rec .ready none with state := .busy }) ∧
        (W3.putObj l (.loop (rec (if jump.isNone then .ready else .done) jump))).heap[l]? = some (.loop (rec (if jump.isNone then .ready else .done) jump)) := fun jump W3 hk3 => by
      have hl3 := hk3.same _ _ hBl hl2 rfl
      have := run_endRound (P := P) jump hl3
      rw [hrec] at this ⊢
      exact ⟨this, by rw [hrec] at hl3; exact hl3, World.putObj_heap_same (Array.getElem?_eq_some_iff.1 hl3).1⟩
    have hsl : l < W1.heap.size := (Array.getElem?_eq_some_iff.1 hL1).1
    have kp : ∀ (X : World) (o : Obj), KeepsFrom W1.heap.size X (X.putObj l o) := fun X o => ⟨by simp, fun k o' hk h1 _ => (World.putObj_heap_other (by omega)).trans h1⟩
    have hBW : B ≤ W1.heap.size := by omega
    have up : ∀ {X Y : World}, KeepsFrom B X Y → KeepsFrom W1.heap.size X Y := fun h => ⟨h.size, fun k o hk h1 h2 => h.same k o (by omega) h1 h2⟩
    have kall : ∀ {W3 : World} (o : Obj), KeepsFrom B (Wa.putObj l (.loop { rec .ready none with state := .busy })) W3 → KeepsFrom W1.heap.size W (W3.putObj l o) := fun o h => (up hkfa).trans ((kp _ _).trans ((up h).trans (kp _ _)))
    rintro e a3 W3 hp
    cases e with
    | normal =>
      obtain ⟨hk3, hkp3, hi3⟩ := hp
      obtain ⟨hr, hl3, hl4⟩ := fin none W3 hk3
      exact ⟨_, _, hr, .inl ⟨rfl, ⟨hIp _ _ _ _ hi3 hl3, hl4⟩, hKt hkpa (hKt (hKt hw2 hkp3) (hKb _ _ _ hl3 rfl)), kall _ hk3⟩⟩
    | ret =>
      obtain ⟨hk3, hi3⟩ := hp
      obtain ⟨hr, hl3, hl4⟩ := fin (some .ret) W3 hk3
      exact ⟨_, _, hr, .inr ⟨rfl, ⟨.ret, hXp _ _ _ _ hi3 hl3, hl4⟩, kall _ hk3⟩⟩
    | exit id =>
      obtain ⟨hk3, hi3⟩ := hp
      obtain ⟨hr, hl3, hl4⟩ := fin (some (.exit id)) W3 hk3
      exact ⟨_, _, hr, .inr ⟨rfl, ⟨.exit id, hXp _ _ _ _ hi3 hl3, hl4⟩, kall _ hk3⟩⟩
    | goto t =>
      obtain ⟨hk3, hi3⟩ := hp
      obtain ⟨hr, hl3, hl4⟩ := fin (some (.goto t)) W3 hk3
      exact ⟨_, _, hr, .inr ⟨rfl, ⟨.goto t, hXp _ _ _ _ hi3 hl3, hl4⟩, kall _ hk3⟩⟩
    | panic ch => exact hp.elim
    | outgrown => exact hp.elim
  · rintro e W2 ⟨⟨v, rfl⟩, (⟨hi, hl⟩ | ⟨c, hi, hl⟩)⟩
    · exact ⟨none, _, by have := run_endLoop (P := P) hl (by rw [hrec]; simp); rw [hrec] at this; exact this, hdone _ (hIp _ _ _ _ hi hl)⟩
    · exact ⟨some c, _, by have := run_endLoop (P := P) hl (by rw [hrec]; simp); rw [hrec] at this; exact this, hstop c _ (hXp _ _ _ _ hi hl)⟩
/-- the statement, where no loop over an iterator is round it -/
theorem rf_outer {g : Operand} {ps : Array Tmp} {assign body : Code} {Q : Exit → Act → World → Prop} {a : Act} {w : World}
    (hro : F.round = none) (h1 : 1 ≤ n) {gf : Nat} {lb : Array Value} (hg : a.eval g = .func (.func gf) #[] lb) (hFg : F.fn gf) (eg : ∀ args w, (callFunc gf args).run P w = .ok (.enter gf args) w)
    {encs : Nat → Array Value} {N : Nat} {own : Nat → Prop} {Kp : World → World → Prop} (hps : ∀ k, (encs k).size = ps.size) (hrow : ∀ b, own b → b ≠ w.heap.size ∧ b ≠ w.heap.size + 1)
    (hit : ∀ W, Below w.heap.size w W → W.heap.size = w.heap.size + 2 → IterAt F (n - 1) P gf lb encs N own Kp W)
    (hKt : ∀ {A B C : World}, Kp A B → Kp B C → Kp A C) (hKb : ∀ (W : World) (o o' : Obj), W.heap[w.heap.size + 1]? = some o → o.isCells = false → Kp W (W.putObj (w.heap.size + 1) o'))
    (I : Nat → World → Prop) (Ix : Code → World → Prop) (hI : ∀ k X Y, I k X → Turn w.heap.size own X Y → I k Y) (hIx : ∀ c X Y, Ix c X → Turn w.heap.size own X Y → Ix c Y) (h0 : I 0 w)
    (Ax : Nat → Act → World → Prop) (hAx : ∀ k b X Y, Ax k b X → Turn w.heap.size own X Y → Ax k b Y)
    (hassign : ∀ (l k : Nat) (W : World) (K : Act → World → Prop), k < N → I k W → (∀ b W', KeepsFrom w.heap.size W W' → Kp W W' → I k W' → Ax k b W' → K b W') →
      assign.wpIn (F.inRound l) (n - 1 - 1) P (Exit.then K (fun _ _ _ => False)) { tmps := (ps.zip (encs k)).foldl (fun t (p, v) => t.setIfInBounds p v) a.tmps, defers := [] } W)
    (hbody : ∀ (l k : Nat) (b : Act) (W : World), w.heap.size ≤ l → (∃ r, W.heap[l]? = some (.loop r)) → k < N → I k W → Ax k b W → body.wpIn (F.inRound l) (n - 1 - 1) P (rfPost w.heap.size Kp (I (k + 1)) Ix W) b W)
    (hdone : ∀ (D : Nat) (W : World), w.heap.size ≤ D → I N W → W.heap[D]? = some (.deferred (some [])) → Q .normal { a with defers := { target := .collected D, args := #[] } :: a.defers } W)
    (hstop : ∀ (D : Nat) (c : Code) (W : World), w.heap.size ≤ D → Ix c W → W.heap[D]? = some (.deferred (some [])) → c.wpIn F n P Q { a with defers := { target := .collected D, args := #[] } :: a.defers } W) :
    (Code.rangeFunc g ps assign body).wpIn F n P Q a w := by
  refine wpIn_rangeFunc ?_
  intro fn hfn
  rw [hro]
  obtain ⟨rec, hrec⟩ : ∃ rec : LoopState → Option Code → Loop, rec = fun st pe => { state := st, pending := pe, fn, tmps := a.tmps, params := ps, assign, body, defers := w.heap.size } := ⟨_, rfl⟩
  obtain ⟨W1, hW1⟩ : ∃ W1, (w.alloc (.deferred (some []))).alloc (.loop (rec .ready none)) = W1 := ⟨_, rfl⟩
  have hL1 : W1.heap[w.heap.size + 1]? = some (.loop (rec .ready none)) := by
    rw [← hW1]; have := World.alloc_heap_new (w.alloc (.deferred (some []))) (.loop (rec .ready none)); rwa [World.size_alloc] at this
  have hK1 : W1.heap[w.heap.size]? = some (.deferred (some [])) := by
    rw [← hW1]; exact (Below.heap_alloc _ _ _ (by simp)).trans (World.alloc_heap_new w _)
  have hI1 : I 0 W1 := by rw [← hW1]; exact hI _ _ _ (hI _ _ _ h0 (.alloc _ _)) (.alloc _ _)
  have hb1 : Below w.heap.size w W1 := by
    rw [← hW1]; exact ((Below.refl _ w).alloc (Nat.le_refl _) _).alloc (by simp) _
  have hs1 : W1.heap.size = w.heap.size + 2 := by rw [← hW1]; simp
  have hr0 : ¬ own w.heap.size := fun e => (hrow _ e).1 rfl
  have hr1 : ¬ own (w.heap.size + 1) := fun e => (hrow _ e).2 rfl
  refine ⟨w.heap.size + 1, [{ target := .collected w.heap.size, args := #[] }], W1, { target := .fn (.func gf) lb, args := #[.func (.yield (w.heap.size + 1)) #[] #[]] }, W1, gf,
    #[.func (.yield (w.heap.size + 1)) #[] #[]] ++ lb, W1, ?_, ?_, ?_, ?_, fun _ => h1, ?_⟩
  · rw [← hW1, hrec]; exact run_enterLoop_outer _ _ _ _ _
  · simp only [resolve, hg]
    simp [go_sem]
  · intro f' hf'; simp [Target.leads] at hf'; subst hf'; exact hFg
  · simp [invoke, go_sem, eg]
  · have hne : w.heap.size ≠ w.heap.size + 1 := by omega
    refine rf_core hrec hfn (B := w.heap.size) hps (by omega) hr1 hL1 (hit W1 hb1 hs1) hKt hKb
      (fun k W => I k W ∧ W.heap[w.heap.size]? = some (.deferred (some []))) (fun c W => Ix c W ∧ W.heap[w.heap.size]? = some (.deferred (some [])))
      (fun k X Y hs hg => ⟨hI _ _ _ hs.1 (hg.mono (by omega) fun _ h => h), hg.low hs.2 (by omega) hr0⟩)
      (fun k X r o hs hl => ⟨hI _ _ _ hs.1 (.putObj _ (by omega) hl rfl), (World.putObj_heap_other hne).trans hs.2⟩)
      (fun c X Y hs hg => ⟨hIx _ _ _ hs.1 (hg.mono (by omega) fun _ h => h), hg.low hs.2 (by omega) hr0⟩)
      (fun c X r o hs hl => ⟨hIx _ _ _ hs.1 (.putObj _ (by omega) hl rfl), (World.putObj_heap_other hne).trans hs.2⟩)
      ⟨hI1, hK1⟩ Ax (fun k b X r o hs hl => hAx _ _ _ _ hs (.putObj _ (by omega) hl rfl)) ?_ ?_ ?_ ?_
    · intro k W K hk hi hK
      exact hassign _ k W K hk hi.1 (fun b W' h1 h2 h3 h4 => hK b W' h1 h2 ⟨h3, h1.same _ _ (Nat.le_refl _) hi.2 rfl⟩ h4)
    · intro k b W hr hk hi ha
      refine wpIn_mono (hbody _ k b W (by omega) hr hk hi.1 ha) ?_
      intro e a3 W3 hp
      cases e with
      | normal => exact ⟨hp.1, hp.2.1, hp.2.2, hp.1.same _ _ (Nat.le_refl _) hi.2 rfl⟩
      | ret => exact ⟨hp.1, hp.2, hp.1.same _ _ (Nat.le_refl _) hi.2 rfl⟩
      | exit id => exact ⟨hp.1, hp.2, hp.1.same _ _ (Nat.le_refl _) hi.2 rfl⟩
      | goto t => exact ⟨hp.1, hp.2, hp.1.same _ _ (Nat.le_refl _) hi.2 rfl⟩
      | panic ch => exact hp
      | outgrown => exact hp
    · exact fun W hi => hdone _ W (Nat.le_refl _) hi.1 hi.2
    · exact fun c W hi => hstop _ c W (Nat.le_refl _) hi.1 hi.2
/-- the statement within a round of another such loop -/
theorem rf_inner {g : Operand} {ps : Array Tmp} {assign body : Code} {Q : Exit → Act → World → Prop} {a : Act} {w : World} {l₀ : Nat} {r₀ : Loop}
    (hro : F.round = some l₀) (hr₀ : w.heap[l₀]? = some (.loop r₀)) (h1 : 1 ≤ n) {gf : Nat} {lb : Array Value} (hg : a.eval g = .func (.func gf) #[] lb) (hFg : F.fn gf) (eg : ∀ args w, (callFunc gf args).run P w = .ok (.enter gf args) w)
    {encs : Nat → Array Value} {N : Nat} {own : Nat → Prop} {Kp : World → World → Prop} (hps : ∀ k, (encs k).size = ps.size) (hrow : ∀ b, own b → b ≠ w.heap.size)
    (hit : ∀ W, Below w.heap.size w W → W.heap.size = w.heap.size + 1 → IterAt F (n - 1) P gf lb encs N own Kp W)
    (hKt : ∀ {A B C : World}, Kp A B → Kp B C → Kp A C) (hKb : ∀ (W : World) (o o' : Obj), W.heap[w.heap.size]? = some o → o.isCells = false → Kp W (W.putObj w.heap.size o'))
    (I : Nat → World → Prop) (Ix : Code → World → Prop) (hI : ∀ k X Y, I k X → Turn w.heap.size own X Y → I k Y) (hIx : ∀ c X Y, Ix c X → Turn w.heap.size own X Y → Ix c Y) (h0 : I 0 w)
    (Ax : Nat → Act → World → Prop) (hAx : ∀ k b X Y, Ax k b X → Turn w.heap.size own X Y → Ax k b Y)
    (hassign : ∀ (l k : Nat) (W : World) (K : Act → World → Prop), k < N → I k W → (∀ b W', KeepsFrom w.heap.size W W' → Kp W W' → I k W' → Ax k b W' → K b W') →
      assign.wpIn (F.inRound l) (n - 1 - 1) P (Exit.then K (fun _ _ _ => False)) { tmps := (ps.zip (encs k)).foldl (fun t (p, v) => t.setIfInBounds p v) a.tmps, defers := [] } W)
    (hbody : ∀ (l k : Nat) (b : Act) (W : World), w.heap.size ≤ l → (∃ r, W.heap[l]? = some (.loop r)) → k < N → I k W → Ax k b W → body.wpIn (F.inRound l) (n - 1 - 1) P (rfPost w.heap.size Kp (I (k + 1)) Ix W) b W)
    (hdone : ∀ (W : World), I N W → Q .normal a W)
    (hstop : ∀ (c : Code) (W : World), Ix c W → c.wpIn F n P Q a W) :
    (Code.rangeFunc g ps assign body).wpIn F n P Q a w := by
  refine wpIn_rangeFunc ?_
  intro fn hfn
  rw [hro]
  obtain ⟨rec, hrec⟩ : ∃ rec : LoopState → Option Code → Loop, rec = fun st pe => { state := st, pending := pe, fn, tmps := a.tmps, params := ps, assign, body, defers := r₀.defers } := ⟨_, rfl⟩
  obtain ⟨W1, hW1⟩ : ∃ W1, w.alloc (.loop (rec .ready none)) = W1 := ⟨_, rfl⟩
  have hL1 : W1.heap[w.heap.size]? = some (.loop (rec .ready none)) := by
    rw [← hW1]; exact World.alloc_heap_new _ _
  have hI1 : I 0 W1 := by rw [← hW1]; exact hI _ _ _ h0 (.alloc _ _)
  have hb1 : Below w.heap.size w W1 := by
    rw [← hW1]; exact (Below.refl _ w).alloc (Nat.le_refl _) _
  have hs1 : W1.heap.size = w.heap.size + 1 := by rw [← hW1]; simp
  have hr1 : ¬ own w.heap.size := fun e => hrow _ e rfl
  refine ⟨w.heap.size, [], W1, { target := .fn (.func gf) lb, args := #[.func (.yield w.heap.size) #[] #[]] }, W1, gf,
    #[.func (.yield w.heap.size) #[] #[]] ++ lb, W1, ?_, ?_, ?_, ?_, fun _ => h1, ?_⟩
  · rw [← hW1, hrec]; exact run_enterLoop_inner hr₀ _ _ _ _ _
  · simp only [resolve, hg]
    simp [go_sem]
  · intro f' hf'; simp [Target.leads] at hf'; subst hf'; exact hFg
  · simp [invoke, go_sem, eg]
  · exact rf_core hrec hfn (B := w.heap.size) hps (Nat.le_refl _) hr1 hL1 (hit W1 hb1 hs1) hKt hKb I Ix
      (fun k X Y hs hg => hI _ _ _ hs (hg.mono (by omega) fun _ h => h)) (fun k X r o hs hl => hI _ _ _ hs (.putObj _ (Nat.le_refl _) hl rfl))
      (fun c X Y hs hg => hIx _ _ _ hs (hg.mono (by omega) fun _ h => h)) (fun c X r o hs hl => hIx _ _ _ hs (.putObj _ (Nat.le_refl _) hl rfl))
      hI1 Ax (fun k b X r o hs hl => hAx _ _ _ _ hs (.putObj _ (Nat.le_refl _) hl rfl)) (fun k W K hk hi hK => hassign _ k W K hk hi hK) (fun k b W hr hk hi ha => hbody _ k b W (Nat.le_refl _) hr hk hi ha) (fun W hi => hdone W hi) (fun c W hi => hstop c W hi)
/-- the statement, its body left by a break alone -/
theorem rf_break {g : Operand} {ps : Array Tmp} {assign body : Code} {Q : Exit → Act → World → Prop} {id : Nat} {a : Act} {w : World}
    (hro : F.round = none) (h1 : 1 ≤ n) {gf : Nat} {lb : Array Value} (hg : a.eval g = .func (.func gf) #[] lb) (hFg : F.fn gf) (eg : ∀ args w, (callFunc gf args).run P w = .ok (.enter gf args) w)
    {encs : Nat → Array Value} {N : Nat} {own : Nat → Prop} {Kp : World → World → Prop} (hps : ∀ k, (encs k).size = ps.size) (hrow : ∀ b, own b → b ≠ w.heap.size ∧ b ≠ w.heap.size + 1)
    (hit : ∀ W, Below w.heap.size w W → W.heap.size = w.heap.size + 2 → IterAt F (n - 1) P gf lb encs N own Kp W)
    (hKt : ∀ {A B C : World}, Kp A B → Kp B C → Kp A C) (hKb : ∀ (W : World) (o o' : Obj), W.heap[w.heap.size + 1]? = some o → o.isCells = false → Kp W (W.putObj (w.heap.size + 1) o'))
    (I : Nat → World → Prop) (IE : World → Prop) (hI : ∀ k X Y, I k X → Turn w.heap.size own X Y → I k Y) (hIE : ∀ X Y, IE X → Turn w.heap.size own X Y → IE Y) (h0 : I 0 w)
    (Ax : Nat → Act → World → Prop) (hAx : ∀ k b X Y, Ax k b X → Turn w.heap.size own X Y → Ax k b Y)
    (hassign : ∀ (l k : Nat) (W : World) (K : Act → World → Prop), k < N → I k W → (∀ b W', KeepsFrom w.heap.size W W' → Kp W W' → I k W' → Ax k b W' → K b W') →
      assign.wpIn (F.inRound l) (n - 1 - 1) P (Exit.then K (fun _ _ _ => False)) { tmps := (ps.zip (encs k)).foldl (fun t (p, v) => t.setIfInBounds p v) a.tmps, defers := [] } W)
    (hbody : ∀ (l k : Nat) (b : Act) (W : World), w.heap.size ≤ l → (∃ r, W.heap[l]? = some (.loop r)) → k < N → I k W → Ax k b W → body.wpIn (F.inRound l) (n - 1 - 1) P (rfPost w.heap.size Kp (I (k + 1)) (fun c X => c = .exit id ∧ IE X) W) b W)
    (hall : ∀ W, I N W → IE W) (hend : ∀ (D : Nat) (W : World), w.heap.size ≤ D → IE W → W.heap[D]? = some (.deferred (some [])) → Q .normal { a with defers := { target := .collected D, args := #[] } :: a.defers } W) :
    (Code.rangeFunc g ps assign body).wpIn F n P (Exit.inBlock id Q) a w :=
  rf_outer hro h1 hg hFg eg hps hrow hit hKt hKb I (fun c X => c = .exit id ∧ IE X) hI (fun c X Y hs ht => ⟨hs.1, hIE X Y hs.2 ht⟩) h0 Ax hAx hassign hbody
    (fun D W h1 hi h2 => hend D W h1 (hall W hi) h2) (fun D c W h1 hi h2 => by obtain ⟨rfl, hi⟩ := hi; exact wpIn_exit (by simp only [Exit.inBlock, ↓reduceIte]; exact hend D W h1 hi h2))
/-- likewise, within a round of another such loop -/
theorem rf_break_inner {g : Operand} {ps : Array Tmp} {assign body : Code} {Q : Exit → Act → World → Prop} {id : Nat} {a : Act} {w : World} {l₀ : Nat} {r₀ : Loop}
    (hro : F.round = some l₀) (hr₀ : w.heap[l₀]? = some (.loop r₀)) (h1 : 1 ≤ n) {gf : Nat} {lb : Array Value} (hg : a.eval g = .func (.func gf) #[] lb) (hFg : F.fn gf) (eg : ∀ args w, (callFunc gf args).run P w = .ok (.enter gf args) w)
    {encs : Nat → Array Value} {N : Nat} {own : Nat → Prop} {Kp : World → World → Prop} (hps : ∀ k, (encs k).size = ps.size) (hrow : ∀ b, own b → b ≠ w.heap.size)
    (hit : ∀ W, Below w.heap.size w W → W.heap.size = w.heap.size + 1 → IterAt F (n - 1) P gf lb encs N own Kp W)
    (hKt : ∀ {A B C : World}, Kp A B → Kp B C → Kp A C) (hKb : ∀ (W : World) (o o' : Obj), W.heap[w.heap.size]? = some o → o.isCells = false → Kp W (W.putObj w.heap.size o'))
    (I : Nat → World → Prop) (IE : World → Prop) (hI : ∀ k X Y, I k X → Turn w.heap.size own X Y → I k Y) (hIE : ∀ X Y, IE X → Turn w.heap.size own X Y → IE Y) (h0 : I 0 w)
    (Ax : Nat → Act → World → Prop) (hAx : ∀ k b X Y, Ax k b X → Turn w.heap.size own X Y → Ax k b Y)
    (hassign : ∀ (l k : Nat) (W : World) (K : Act → World → Prop), k < N → I k W → (∀ b W', KeepsFrom w.heap.size W W' → Kp W W' → I k W' → Ax k b W' → K b W') →
      assign.wpIn (F.inRound l) (n - 1 - 1) P (Exit.then K (fun _ _ _ => False)) { tmps := (ps.zip (encs k)).foldl (fun t (p, v) => t.setIfInBounds p v) a.tmps, defers := [] } W)
    (hbody : ∀ (l k : Nat) (b : Act) (W : World), w.heap.size ≤ l → (∃ r, W.heap[l]? = some (.loop r)) → k < N → I k W → Ax k b W → body.wpIn (F.inRound l) (n - 1 - 1) P (rfPost w.heap.size Kp (I (k + 1)) (fun c X => c = .exit id ∧ IE X) W) b W)
    (hall : ∀ W, I N W → IE W) (hend : ∀ (W : World), IE W → Q .normal a W) :
    (Code.rangeFunc g ps assign body).wpIn F n P (Exit.inBlock id Q) a w :=
  rf_inner hro hr₀ h1 hg hFg eg hps hrow hit hKt hKb I (fun c X => c = .exit id ∧ IE X) hI (fun c X Y hs ht => ⟨hs.1, hIE X Y hs.2 ht⟩) h0 Ax hAx hassign hbody
    (fun W hi => hend W (hall W hi)) (fun c W hi => by obtain ⟨rfl, hi⟩ := hi; exact wpIn_exit (by simp only [Exit.inBlock, ↓reduceIte]; exact hend W hi))
/-! where no depth is asked, the figures are all one -/
theorem roundIn_any {m : Nat} (m' : Nat) {l : Nat} {f : FuncId} {tmps : Array Value} {assign body : Code} {w : World} {R : Ending → World → Prop}
    (h : RoundIn Fence.wide m P l f tmps assign body w R) : RoundIn Fence.wide m' P l f tmps assign body w R := ⟨h.1, fun c cs _ => h.2 c cs (fun d h => by cases h)⟩
theorem yieldAt_any {m : Nat} (m' : Nat) {l : Nat} {args : Array Value} {W : World} {R : Ending → World → Prop} (h : YieldAt Fence.wide m P l args W R) : YieldAt Fence.wide m' P l args W R := by
  obtain ⟨fn, tmps, assign, body, hy, hR⟩ := h
  exact ⟨fn, tmps, assign, body, hy, roundIn_any m' hR⟩
theorem IterAt.any {m : Nat} (m' : Nat) {gf : Nat} {lb : Array Value} {encs : Nat → Array Value} {N : Nat} {own : Nat → Prop} {Kp : World → World → Prop} {W : World} (h : IterAt Fence.wide m P gf lb encs N own Kp W) : IterAt Fence.wide m' P gf lb encs N own Kp W :=
  fun l J Jx hJ hJx hY h0 => callsIn_wide.2 (callsIn_wide.1 (h l J Jx hJ hJx (fun k X hk hj => yieldAt_any _ (hY k X hk hj)) h0))
theorem wpW_scope {c : Code} {Q : Exit → Act → World → Prop} {a : Act} {w : World} {m : Nat} (h : c.wpIn Fence.wide m P (Exit.noGoto Q) a w) : (Code.scope c).wpIn Fence.wide m P Q a w := wpIn_wide.2 (wp_scope_straight (wpIn_wide.1 h))
end Go.Proofs.YtoidopdpnnogaaaDoor
