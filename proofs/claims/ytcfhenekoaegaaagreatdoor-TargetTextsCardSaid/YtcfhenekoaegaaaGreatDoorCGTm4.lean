/- Texts of this claim, one behind the other: Rg, GQ, GR, GS, Rr, Rs, GT, Rt, GU, G9, Rv, Ru, Rw. -/
import Derived.Test.YtcfhenekoaegaaaGreatDoorCGTm3
import Derived.OwnWalkIn
import Derived.TacticsInMore
import Derived.LoopNIn
import Derived.LoopIn
import Derived.RecoverIn
import Derived.RangeFuncLeaves
import Derived.OrdersIn
import Derived.TacticsIn
import Derived.Lib.QuietBelow
import Derived.Test.YtcfhenekoaegaaaGreatDoorCGTm2
/- A range over a function whose values hang on the world (memory made anew in each round): the laws of the text Rf, with a relation in the values' place. No condition but those that each lemma states. -/
namespace Go.Proofs.YtcfhenekoaegaaaGreatDoor
set_option linter.unusedVariables false
set_option linter.unusedSimpArgs false
open Go.RowKit
/-- what an iterator at W does: N calls of yield at most, one behind the other, of values that meet Enc where they are handed over -/
def IterG (F : Fence) (n : Nat) (P : Program) (gf : Nat) (lb : Array Value) (Enc : Nat → Array Value → World → Prop) (N : Nat) (own : Nat → Prop) (Kp : World → World → Prop) (W : World) : Prop :=
  ∀ (l : Nat) (J : Nat → World → Prop) (Jx : World → Prop),
    (∀ k X Y, J k X → Turn W.heap.size own X Y → J k Y) → (∀ X Y, Jx X → Turn W.heap.size own X Y → Jx Y) →
    (∀ k X args, k < N → J k X → Enc k args X → YieldAt F (n - 1) P l args X fun e Y => (e = .returned (.bool true) ∧ J (k + 1) Y ∧ Kp X Y ∧ KeepsFrom W.heap.size X Y) ∨ (e = .returned (.bool false) ∧ Jx Y ∧ KeepsFrom W.heap.size X Y)) →
    J 0 W → CallsIn F n P gf (#[.func (.yield l) #[] #[]] ++ lb) W fun e Y => (∃ v, e = .returned v) ∧ (J N Y ∨ Jx Y)
theorem IterG.of {F : Fence} {n : Nat} {P : Program} {gf : Nat} {lb : Array Value} {encs : Nat → Array Value} {N : Nat} {own : Nat → Prop} {Kp : World → World → Prop} {W : World} (h : IterAt F n P gf lb encs N own Kp W) : IterG F n P gf lb (fun k a _ => a = encs k) N own Kp W :=
  fun l J Jx hJ hJx hY h0 => h l J Jx hJ hJx (fun k X hk hj => hY k X _ hk hj rfl) h0
variable {F : Fence} {n : Nat} {P : Program}
/-- the loop's one call, its record laid -/
theorem rg_core {fn : FuncId} {tmps : Array Value} {dfr : Nat} {ps : Array Tmp} {assign body : Code} {Q : Exit → Act → World → Prop} {a' : Act} {B l : Nat} {W1 : World} {rec : LoopState → Option Code → Loop}
    (hrec : rec = fun st pe => { state := st, pending := pe, fn, tmps, params := ps, assign, body, defers := dfr }) (hfn : F.fn fn)
    {gf : Nat} {lb : Array Value} {Enc : Nat → Array Value → World → Prop} {N : Nat} {own : Nat → Prop} {Kp : World → World → Prop} (hps : ∀ k a X, Enc k a X → a.size = ps.size)
    (hBl : B ≤ l) (hrow : ¬ own l) (hL1 : W1.heap[l]? = some (.loop (rec .ready none)))
    (hit : IterG F (n - 1) P gf lb Enc N own Kp W1)
    (hKt : ∀ {A B C : World}, Kp A B → Kp B C → Kp A C) (hKb : ∀ (W : World) (o o' : Obj), W.heap[l]? = some o → o.isCells = false → Kp W (W.putObj l o'))
    (I : Nat → World → Prop) (Ix : Code → World → Prop) (hIg : ∀ k X Y, I k X → Turn W1.heap.size own X Y → I k Y) (hIp : ∀ k X r o, I k X → X.heap[l]? = some (.loop r) → I k (X.putObj l o))
    (hXg : ∀ c X Y, Ix c X → Turn W1.heap.size own X Y → Ix c Y) (hXp : ∀ c X r o, Ix c X → X.heap[l]? = some (.loop r) → Ix c (X.putObj l o)) (h0 : I 0 W1)
    (Ax : Nat → Act → World → Prop) (hAp : ∀ k b X r o, Ax k b X → X.heap[l]? = some (.loop r) → Ax k b (X.putObj l o))
    (hassign : ∀ (k : Nat) (args : Array Value) (W : World) (K : Act → World → Prop), k < N → I k W → Enc k args W → (∀ b W', KeepsFrom B W W' → Kp W W' → I k W' → Ax k b W' → K b W') →
      assign.wpIn (F.inRound l) (n - 1 - 1) P (Exit.then K (fun _ _ _ => False)) { tmps := (ps.zip args).foldl (fun t (p, v) => t.setIfInBounds p v) tmps, defers := [] } W)
    (hbody : ∀ (k : Nat) (b : Act) (W : World), (∃ r, W.heap[l]? = some (.loop r)) → k < N → I k W → Ax k b W → body.wpIn (F.inRound l) (n - 1 - 1) P (rfPost B Kp (I (k + 1)) Ix W) b W)
    (hdone : ∀ (W : World), I N W → Q .normal a' W) (hstop : ∀ (c : Code) (W : World), Ix c W → c.wpIn F n P Q a' W) :
    CallsIn F (n - 1) P gf (#[.func (.yield l) #[] #[]] ++ lb) W1 (rangePost F n P l Q a') := by
  refine (hit l (fun k W => I k W ∧ W.heap[l]? = some (.loop (rec .ready none))) (fun W => ∃ c, Ix c W ∧ W.heap[l]? = some (.loop (rec .done (some c))))
    (fun k X Y hs hg => ⟨hIg k X Y hs.1 hg, hg.low hs.2 (Array.getElem?_eq_some_iff.1 hL1).1 hrow⟩)
    (fun X Y hs hg => by obtain ⟨c, hc, hl⟩ := hs; exact ⟨c, hXg c X Y hc hg, hg.low hl (Array.getElem?_eq_some_iff.1 hL1).1 hrow⟩) ?_ ⟨h0, hL1⟩).mono ?_
  · rintro k W args hkN ⟨hi, hl⟩ henc
    have hy := run_yield (P := P) (args := args) hl (by rw [hrec]; exact hps k args W henc)
    rw [hrec] at hy
    refine ⟨fn, _, assign, body, hy, roundIn_of_wpIn hfn (hassign k args W _ hkN hi henc ?_)⟩
    clear hy
    intro b Wa hkfa hkpa hia hax
    have hla := hkfa.same _ _ hBl hl rfl
    have hlt : l < Wa.heap.size := (Array.getElem?_eq_some_iff.1 hla).1
    refine ⟨_, run_beginRound hla (by rw [hrec]), ?_⟩
    have hl2 : (Wa.putObj l (.loop { rec .ready none with state := .busy })).heap[l]? = some (.loop { rec .ready none with state := .busy }) := World.putObj_heap_same hlt
    have hw2 : Kp Wa (Wa.putObj l (.loop { rec .ready none with state := .busy })) := hKb _ _ _ hla rfl
    refine wpIn_mono (hbody k b _ ⟨_, hl2⟩ hkN (hIp k _ _ _ hia hla) (hAp k b _ _ _ hax hla)) ?_
    have fin : ∀ (jump : Option Code) (W3 : World), KeepsFrom B (Wa.putObj l (.loop { rec .ready none with state := .busy })) W3 →
        (Instr.endRound l jump).run P W3 = .ok (.bool jump.isNone) (W3.putObj l (.loop (rec (if jump.isNone then .ready else .done) jump))) ∧
        W3.heap[l]? = some (.loop { rec .ready none with state := .busy }) ∧
        (W3.putObj l (.loop (rec (if jump.isNone then .ready else .done) jump))).heap[l]? = some (.loop (rec (if jump.isNone then .ready else .done) jump)) := fun jump W3 hk3 => by
      have hl3 := hk3.same _ _ hBl hl2 rfl
      have := run_endRound (P := P) jump hl3
      rw [hrec] at this ⊢
      exact ⟨this, by rw [hrec] at hl3; exact hl3, World.putObj_heap_same (Array.getElem?_eq_some_iff.1 hl3).1⟩
    have hsl : l < W1.heap.size := (Array.getElem?_eq_some_iff.1 hL1).1
    have kp : ∀ (X : World) (o : Obj), KeepsFrom W1.heap.size X (X.putObj l o) := fun X o => ⟨by simp, fun k o' hk h1 _ => (World.putObj_heap_other (by omega)).trans h1⟩
    have hBW : B ≤ W1.heap.size := by omega
    have up : ∀ {X Y : World}, KeepsFrom B X Y → KeepsFrom W1.heap.size X Y := fun h => ⟨h.size, fun k o hk h1 h2 => h.same k o (by omega) h1 h2⟩
    have kall : ∀ {W3 : World} (o : Obj), KeepsFrom B (Wa.putObj l (.loop { rec .ready none with state := .busy })) W3 → KeepsFrom W1.heap.size W (W3.putObj l o) := fun o h => (up hkfa).trans ((kp _ _).trans ((up h).trans (kp _ _)))
    rintro e a3 W3 hp
    cases e with
    | normal =>
      obtain ⟨hk3, hkp3, hi3⟩ := hp
      obtain ⟨hr, hl3, hl4⟩ := fin none W3 hk3
      exact ⟨_, _, hr, .inl ⟨rfl, ⟨hIp _ _ _ _ hi3 hl3, hl4⟩, hKt hkpa (hKt (hKt hw2 hkp3) (hKb _ _ _ hl3 rfl)), kall _ hk3⟩⟩
    | ret =>
      obtain ⟨hk3, hi3⟩ := hp
      obtain ⟨hr, hl3, hl4⟩ := fin (some .ret) W3 hk3
      exact ⟨_, _, hr, .inr ⟨rfl, ⟨.ret, hXp _ _ _ _ hi3 hl3, hl4⟩, kall _ hk3⟩⟩
    | exit id =>
      obtain ⟨hk3, hi3⟩ := hp
      obtain ⟨hr, hl3, hl4⟩ := fin (some (.exit id)) W3 hk3
      exact ⟨_, _, hr, .inr ⟨rfl, ⟨.exit id, hXp _ _ _ _ hi3 hl3, hl4⟩, kall _ hk3⟩⟩
    | goto t =>
      obtain ⟨hk3, hi3⟩ := hp
      obtain ⟨hr, hl3, hl4⟩ := fin (some (.goto t)) W3 hk3
      exact ⟨_, _, hr, .inr ⟨rfl, ⟨.goto t, hXp _ _ _ _ hi3 hl3, hl4⟩, kall _ hk3⟩⟩
    | panic ch => exact hp.elim
    | outgrown => exact hp.elim
  · rintro e W2 ⟨⟨v, rfl⟩, (⟨hi, hl⟩ | ⟨c, hi, hl⟩)⟩
    · exact ⟨none, _, by have := run_endLoop (P := P) hl (by rw [hrec]; simp); rw [hrec] at this; exact this, hdone _ (hIp _ _ _ _ hi hl)⟩
    · exact ⟨some c, _, by have := run_endLoop (P := P) hl (by rw [hrec]; simp); rw [hrec] at this; exact this, hstop c _ (hXp _ _ _ _ hi hl)⟩
/-- the statement, where no loop over an iterator is round it -/
theorem rg_outer {g : Operand} {ps : Array Tmp} {assign body : Code} {Q : Exit → Act → World → Prop} {a : Act} {w : World}
    (hro : F.round = none) (h1 : 1 ≤ n) {gf : Nat} {lb : Array Value} (hg : a.eval g = .func (.func gf) #[] lb) (hFg : F.fn gf) (eg : ∀ args w, (callFunc gf args).run P w = .ok (.enter gf args) w)
    {Enc : Nat → Array Value → World → Prop} {N : Nat} {own : Nat → Prop} {Kp : World → World → Prop} (hps : ∀ k a X, Enc k a X → a.size = ps.size) (hrow : ∀ b, own b → b ≠ w.heap.size ∧ b ≠ w.heap.size + 1)
    (hit : ∀ W, Below w.heap.size w W → W.heap.size = w.heap.size + 2 → IterG F (n - 1) P gf lb Enc N own Kp W)
    (hKt : ∀ {A B C : World}, Kp A B → Kp B C → Kp A C) (hKb : ∀ (W : World) (o o' : Obj), W.heap[w.heap.size + 1]? = some o → o.isCells = false → Kp W (W.putObj (w.heap.size + 1) o'))
    (I : Nat → World → Prop) (Ix : Code → World → Prop) (hI : ∀ k X Y, I k X → Turn w.heap.size own X Y → I k Y) (hIx : ∀ c X Y, Ix c X → Turn w.heap.size own X Y → Ix c Y) (h0 : I 0 w)
    (Ax : Nat → Act → World → Prop) (hAx : ∀ k b X Y, Ax k b X → Turn w.heap.size own X Y → Ax k b Y)
    (hassign : ∀ (l k : Nat) (args : Array Value) (W : World) (K : Act → World → Prop), k < N → I k W → Enc k args W → (∀ b W', KeepsFrom w.heap.size W W' → Kp W W' → I k W' → Ax k b W' → K b W') →
      assign.wpIn (F.inRound l) (n - 1 - 1) P (Exit.then K (fun _ _ _ => False)) { tmps := (ps.zip args).foldl (fun t (p, v) => t.setIfInBounds p v) a.tmps, defers := [] } W)
    (hbody : ∀ (l k : Nat) (b : Act) (W : World), w.heap.size ≤ l → (∃ r, W.heap[l]? = some (.loop r)) → k < N → I k W → Ax k b W → body.wpIn (F.inRound l) (n - 1 - 1) P (rfPost w.heap.size Kp (I (k + 1)) Ix W) b W)
    (hdone : ∀ (D : Nat) (W : World), w.heap.size ≤ D → I N W → W.heap[D]? = some (.deferred (some [])) → Q .normal { a with defers := { target := .collected D, args := #[] } :: a.defers } W)
    (hstop : ∀ (D : Nat) (c : Code) (W : World), w.heap.size ≤ D → Ix c W → W.heap[D]? = some (.deferred (some [])) → c.wpIn F n P Q { a with defers := { target := .collected D, args := #[] } :: a.defers } W) :
    (Code.rangeFunc g ps assign body).wpIn F n P Q a w := by
  refine wpIn_rangeFunc ?_
  intro fn hfn
  rw [hro]
  obtain ⟨rec, hrec⟩ : ∃ rec : LoopState → Option Code → Loop, rec = fun st pe => { state := st, pending := pe, fn, tmps := a.tmps, params := ps, assign, body, defers := w.heap.size } := ⟨_, rfl⟩
  obtain ⟨W1, hW1⟩ : ∃ W1, (w.alloc (.deferred (some []))).alloc (.loop (rec .ready none)) = W1 := ⟨_, rfl⟩
  have hL1 : W1.heap[w.heap.size + 1]? = some (.loop (rec .ready none)) := by
    rw [← hW1]; have := World.alloc_heap_new (w.alloc (.deferred (some []))) (.loop (rec .ready none)); rwa [World.size_alloc] at this
  have hK1 : W1.heap[w.heap.size]? = some (.deferred (some [])) := by
    rw [← hW1]; exact (Below.heap_alloc _ _ _ (by simp)).trans (World.alloc_heap_new w _)
  have hI1 : I 0 W1 := by rw [← hW1]; exact hI _ _ _ (hI _ _ _ h0 (.alloc _ _)) (.alloc _ _)
  have hb1 : Below w.heap.size w W1 := by
    rw [← hW1]; exact ((Below.refl _ w).alloc (Nat.le_refl _) _).alloc (by simp) _
  have hs1 : W1.heap.size = w.heap.size + 2 := by rw [← hW1]; simp
  have hr0 : ¬ own w.heap.size := fun e => (hrow _ e).1 rfl
  have hr1 : ¬ own (w.heap.size + 1) := fun e => (hrow _ e).2 rfl
  refine ⟨w.heap.size + 1, [{ target := .collected w.heap.size, args := #[] }], W1, { target := .fn (.func gf) lb, args := #[.func (.yield (w.heap.size + 1)) #[] #[]] }, W1, gf,
    #[.func (.yield (w.heap.size + 1)) #[] #[]] ++ lb, W1, ?_, ?_, ?_, ?_, fun _ => h1, ?_⟩
  · rw [← hW1, hrec]; exact run_enterLoop_outer _ _ _ _ _
  · simp only [resolve, hg]
    simp [go_sem]
  · intro f' hf'; simp [Target.leads] at hf'; subst hf'; exact hFg
  · simp [invoke, go_sem, eg]
  · have hne : w.heap.size ≠ w.heap.size + 1 := by omega
    refine rg_core hrec hfn (B := w.heap.size) hps (by omega) hr1 hL1 (hit W1 hb1 hs1) hKt hKb
      (fun k W => I k W ∧ W.heap[w.heap.size]? = some (.deferred (some []))) (fun c W => Ix c W ∧ W.heap[w.heap.size]? = some (.deferred (some [])))
      (fun k X Y hs hg => ⟨hI _ _ _ hs.1 (hg.mono (by omega) fun _ h => h), hg.low hs.2 (by omega) hr0⟩)
      (fun k X r o hs hl => ⟨hI _ _ _ hs.1 (.putObj _ (by omega) hl rfl), (World.putObj_heap_other hne).trans hs.2⟩)
      (fun c X Y hs hg => ⟨hIx _ _ _ hs.1 (hg.mono (by omega) fun _ h => h), hg.low hs.2 (by omega) hr0⟩)
      (fun c X r o hs hl => ⟨hIx _ _ _ hs.1 (.putObj _ (by omega) hl rfl), (World.putObj_heap_other hne).trans hs.2⟩)
      ⟨hI1, hK1⟩ Ax (fun k b X r o hs hl => hAx _ _ _ _ hs (.putObj _ (by omega) hl rfl)) ?_ ?_ ?_ ?_
    · intro k args W K hk hi he hK
      exact hassign _ k args W K hk hi.1 he (fun b W' h1 h2 h3 h4 => hK b W' h1 h2 ⟨h3, h1.same _ _ (Nat.le_refl _) hi.2 rfl⟩ h4)
    · intro k b W hr hk hi ha
      refine wpIn_mono (hbody _ k b W (by omega) hr hk hi.1 ha) ?_
      intro e a3 W3 hp
      cases e with
      | normal => exact ⟨hp.1, hp.2.1, hp.2.2, hp.1.same _ _ (Nat.le_refl _) hi.2 rfl⟩
      | ret => exact ⟨hp.1, hp.2, hp.1.same _ _ (Nat.le_refl _) hi.2 rfl⟩
      | exit id => exact ⟨hp.1, hp.2, hp.1.same _ _ (Nat.le_refl _) hi.2 rfl⟩
      | goto t => exact ⟨hp.1, hp.2, hp.1.same _ _ (Nat.le_refl _) hi.2 rfl⟩
      | panic ch => exact hp
      | outgrown => exact hp
    · exact fun W hi => hdone _ W (Nat.le_refl _) hi.1 hi.2
    · exact fun c W hi => hstop _ c W (Nat.le_refl _) hi.1 hi.2
/-- the statement within a round of another such loop -/
theorem rg_inner {g : Operand} {ps : Array Tmp} {assign body : Code} {Q : Exit → Act → World → Prop} {a : Act} {w : World} {l₀ : Nat} {r₀ : Loop}
    (hro : F.round = some l₀) (hr₀ : w.heap[l₀]? = some (.loop r₀)) (h1 : 1 ≤ n) {gf : Nat} {lb : Array Value} (hg : a.eval g = .func (.func gf) #[] lb) (hFg : F.fn gf) (eg : ∀ args w, (callFunc gf args).run P w = .ok (.enter gf args) w)
    {Enc : Nat → Array Value → World → Prop} {N : Nat} {own : Nat → Prop} {Kp : World → World → Prop} (hps : ∀ k a X, Enc k a X → a.size = ps.size) (hrow : ∀ b, own b → b ≠ w.heap.size)
    (hit : ∀ W, Below w.heap.size w W → W.heap.size = w.heap.size + 1 → IterG F (n - 1) P gf lb Enc N own Kp W)
    (hKt : ∀ {A B C : World}, Kp A B → Kp B C → Kp A C) (hKb : ∀ (W : World) (o o' : Obj), W.heap[w.heap.size]? = some o → o.isCells = false → Kp W (W.putObj w.heap.size o'))
    (I : Nat → World → Prop) (Ix : Code → World → Prop) (hI : ∀ k X Y, I k X → Turn w.heap.size own X Y → I k Y) (hIx : ∀ c X Y, Ix c X → Turn w.heap.size own X Y → Ix c Y) (h0 : I 0 w)
    (Ax : Nat → Act → World → Prop) (hAx : ∀ k b X Y, Ax k b X → Turn w.heap.size own X Y → Ax k b Y)
    (hassign : ∀ (l k : Nat) (args : Array Value) (W : World) (K : Act → World → Prop), k < N → I k W → Enc k args W → (∀ b W', KeepsFrom w.heap.size W W' → Kp W W' → I k W' → Ax k b W' → K b W') →
      assign.wpIn (F.inRound l) (n - 1 - 1) P (Exit.then K (fun _ _ _ => False)) { tmps := (ps.zip args).foldl (fun t (p, v) => t.setIfInBounds p v) a.tmps, defers := [] } W)
    (hbody : ∀ (l k : Nat) (b : Act) (W : World), w.heap.size ≤ l → (∃ r, W.heap[l]? = some (.loop r)) → k < N → I k W → Ax k b W → body.wpIn (F.inRound l) (n - 1 - 1) P (rfPost w.heap.size Kp (I (k + 1)) Ix W) b W)
    (hdone : ∀ (W : World), I N W → Q .normal a W)
    (hstop : ∀ (c : Code) (W : World), Ix c W → c.wpIn F n P Q a W) :
    (Code.rangeFunc g ps assign body).wpIn F n P Q a w := by
  refine wpIn_rangeFunc ?_
  intro fn hfn
  rw [hro]
  obtain ⟨rec, hrec⟩ : ∃ rec : LoopState → Option Code → Loop, rec = fun st pe => { state := st, pending := pe, fn, tmps := a.tmps, params := ps, assign, body, defers := r₀.defers } := ⟨_, rfl⟩
  obtain ⟨W1, hW1⟩ : ∃ W1, w.alloc (.loop (rec .ready none)) = W1 := ⟨_, rfl⟩
  have hL1 : W1.heap[w.heap.size]? = some (.loop (rec .ready none)) := by
    rw [← hW1]; exact World.alloc_heap_new _ _
  have hI1 : I 0 W1 := by rw [← hW1]; exact hI _ _ _ h0 (.alloc _ _)
  have hb1 : Below w.heap.size w W1 := by
    rw [← hW1]; exact (Below.refl _ w).alloc (Nat.le_refl _) _
  have hs1 : W1.heap.size = w.heap.size + 1 := by rw [← hW1]; simp
  have hr1 : ¬ own w.heap.size := fun e => hrow _ e rfl
  refine ⟨w.heap.size, [], W1, { target := .fn (.func gf) lb, args := #[.func (.yield w.heap.size) #[] #[]] }, W1, gf,
    #[.func (.yield w.heap.size) #[] #[]] ++ lb, W1, ?_, ?_, ?_, ?_, fun _ => h1, ?_⟩
  · rw [← hW1, hrec]; exact run_enterLoop_inner hr₀ _ _ _ _ _
  · simp only [resolve, hg]
    simp [go_sem]
  · intro f' hf'; simp [Target.leads] at hf'; subst hf'; exact hFg
  · simp [invoke, go_sem, eg]
  · exact rg_core hrec hfn (B := w.heap.size) hps (Nat.le_refl _) hr1 hL1 (hit W1 hb1 hs1) hKt hKb I Ix
      (fun k X Y hs hg => hI _ _ _ hs (hg.mono (by omega) fun _ h => h)) (fun k X r o hs hl => hI _ _ _ hs (.putObj _ (Nat.le_refl _) hl rfl))
      (fun c X Y hs hg => hIx _ _ _ hs (hg.mono (by omega) fun _ h => h)) (fun c X r o hs hl => hIx _ _ _ hs (.putObj _ (Nat.le_refl _) hl rfl))
      hI1 Ax (fun k b X r o hs hl => hAx _ _ _ _ hs (.putObj _ (Nat.le_refl _) hl rfl)) (fun k args W K hk hi he hK => hassign _ k args W K hk hi he hK) (fun k b W hr hk hi ha => hbody _ k b W (Nat.le_refl _) hr hk hi ha) (fun W hi => hdone W hi) (fun c W hi => hstop c W hi)
/-- the statement, its body left by a break alone -/
theorem rg_break {g : Operand} {ps : Array Tmp} {assign body : Code} {Q : Exit → Act → World → Prop} {id : Nat} {a : Act} {w : World}
    (hro : F.round = none) (h1 : 1 ≤ n) {gf : Nat} {lb : Array Value} (hg : a.eval g = .func (.func gf) #[] lb) (hFg : F.fn gf) (eg : ∀ args w, (callFunc gf args).run P w = .ok (.enter gf args) w)
    {Enc : Nat → Array Value → World → Prop} {N : Nat} {own : Nat → Prop} {Kp : World → World → Prop} (hps : ∀ k a X, Enc k a X → a.size = ps.size) (hrow : ∀ b, own b → b ≠ w.heap.size ∧ b ≠ w.heap.size + 1)
    (hit : ∀ W, Below w.heap.size w W → W.heap.size = w.heap.size + 2 → IterG F (n - 1) P gf lb Enc N own Kp W)
    (hKt : ∀ {A B C : World}, Kp A B → Kp B C → Kp A C) (hKb : ∀ (W : World) (o o' : Obj), W.heap[w.heap.size + 1]? = some o → o.isCells = false → Kp W (W.putObj (w.heap.size + 1) o'))
    (I : Nat → World → Prop) (IE : World → Prop) (hI : ∀ k X Y, I k X → Turn w.heap.size own X Y → I k Y) (hIE : ∀ X Y, IE X → Turn w.heap.size own X Y → IE Y) (h0 : I 0 w)
    (Ax : Nat → Act → World → Prop) (hAx : ∀ k b X Y, Ax k b X → Turn w.heap.size own X Y → Ax k b Y)
    (hassign : ∀ (l k : Nat) (args : Array Value) (W : World) (K : Act → World → Prop), k < N → I k W → Enc k args W → (∀ b W', KeepsFrom w.heap.size W W' → Kp W W' → I k W' → Ax k b W' → K b W') →
      assign.wpIn (F.inRound l) (n - 1 - 1) P (Exit.then K (fun _ _ _ => False)) { tmps := (ps.zip args).foldl (fun t (p, v) => t.setIfInBounds p v) a.tmps, defers := [] } W)
    (hbody : ∀ (l k : Nat) (b : Act) (W : World), w.heap.size ≤ l → (∃ r, W.heap[l]? = some (.loop r)) → k < N → I k W → Ax k b W → body.wpIn (F.inRound l) (n - 1 - 1) P (rfPost w.heap.size Kp (I (k + 1)) (fun c X => c = .exit id ∧ IE X) W) b W)
    (hall : ∀ W, I N W → IE W) (hend : ∀ (D : Nat) (W : World), w.heap.size ≤ D → IE W → W.heap[D]? = some (.deferred (some [])) → Q .normal { a with defers := { target := .collected D, args := #[] } :: a.defers } W) :
    (Code.rangeFunc g ps assign body).wpIn F n P (Exit.inBlock id Q) a w :=
  rg_outer hro h1 hg hFg eg hps hrow hit hKt hKb I (fun c X => c = .exit id ∧ IE X) hI (fun c X Y hs ht => ⟨hs.1, hIE X Y hs.2 ht⟩) h0 Ax hAx hassign hbody
    (fun D W h1 hi h2 => hend D W h1 (hall W hi) h2) (fun D c W h1 hi h2 => by obtain ⟨rfl, hi⟩ := hi; exact wpIn_exit (by simp only [Exit.inBlock, ↓reduceIte]; exact hend D W h1 hi h2))
/-- likewise, within a round of another such loop -/
theorem rg_break_inner {g : Operand} {ps : Array Tmp} {assign body : Code} {Q : Exit → Act → World → Prop} {id : Nat} {a : Act} {w : World} {l₀ : Nat} {r₀ : Loop}
    (hro : F.round = some l₀) (hr₀ : w.heap[l₀]? = some (.loop r₀)) (h1 : 1 ≤ n) {gf : Nat} {lb : Array Value} (hg : a.eval g = .func (.func gf) #[] lb) (hFg : F.fn gf) (eg : ∀ args w, (callFunc gf args).run P w = .ok (.enter gf args) w)
    {Enc : Nat → Array Value → World → Prop} {N : Nat} {own : Nat → Prop} {Kp : World → World → Prop} (hps : ∀ k a X, Enc k a X → a.size = ps.size) (hrow : ∀ b, own b → b ≠ w.heap.size)
    (hit : ∀ W, Below w.heap.size w W → W.heap.size = w.heap.size + 1 → IterG F (n - 1) P gf lb Enc N own Kp W)
    (hKt : ∀ {A B C : World}, Kp A B → Kp B C → Kp A C) (hKb : ∀ (W : World) (o o' : Obj), W.heap[w.heap.size]? = some o → o.isCells = false → Kp W (W.putObj w.heap.size o'))
    (I : Nat → World → Prop) (IE : World → Prop) (hI : ∀ k X Y, I k X → Turn w.heap.size own X Y → I k Y) (hIE : ∀ X Y, IE X → Turn w.heap.size own X Y → IE Y) (h0 : I 0 w)
    (Ax : Nat → Act → World → Prop) (hAx : ∀ k b X Y, Ax k b X → Turn w.heap.size own X Y → Ax k b Y)
    (hassign : ∀ (l k : Nat) (args : Array Value) (W : World) (K : Act → World → Prop), k < N → I k W → Enc k args W → (∀ b W', KeepsFrom w.heap.size W W' → Kp W W' → I k W' → Ax k b W' → K b W') →
      assign.wpIn (F.inRound l) (n - 1 - 1) P (Exit.then K (fun _ _ _ => False)) { tmps := (ps.zip args).foldl (fun t (p, v) => t.setIfInBounds p v) a.tmps, defers := [] } W)
    (hbody : ∀ (l k : Nat) (b : Act) (W : World), w.heap.size ≤ l → (∃ r, W.heap[l]? = some (.loop r)) → k < N → I k W → Ax k b W → body.wpIn (F.inRound l) (n - 1 - 1) P (rfPost w.heap.size Kp (I (k + 1)) (fun c X => c = .exit id ∧ IE X) W) b W)
    (hall : ∀ W, I N W → IE W) (hend : ∀ (W : World), IE W → Q .normal a W) :
    (Code.rangeFunc g ps assign body).wpIn F n P (Exit.inBlock id Q) a w :=
  rg_inner hro hr₀ h1 hg hFg eg hps hrow hit hKt hKb I (fun c X => c = .exit id ∧ IE X) hI (fun c X Y hs ht => ⟨hs.1, hIE X Y hs.2 ht⟩) h0 Ax hAx hassign hbody
    (fun W hi => hend W (hall W hi)) (fun c W hi => by obtain ⟨rfl, hi⟩ := hi; exact wpIn_exit (by simp only [Exit.inBlock, ↓reduceIte]; exact hend W hi))
/-- some old blocks as they were, from round to round -/
def KeepB (n E : Nat) (X Y : World) : Prop := ∀ b, (b < n ∨ b = E) → b < X.heap.size → Y.heap[b]? = X.heap[b]?
theorem KeepB.lt {n E : Nat} {X Y : World} (h : KeepB n E X Y) {b : Nat} (hb : b < n ∨ b = E) (hx : b < X.heap.size) : b < Y.heap.size := by
  have h1 := h b hb hx
  rw [Array.getElem?_eq_getElem hx] at h1
  exact (Array.getElem?_eq_some_iff.1 h1).1
theorem KeepB.trans {n E : Nat} {X Y Z : World} (h : KeepB n E X Y) (k : KeepB n E Y Z) : KeepB n E X Z := fun b hb hx => (k b hb (h.lt hb hx)).trans (h b hb hx)
theorem KeepB.refl (n E : Nat) (X : World) : KeepB n E X X := fun _ _ _ => rfl
theorem KeepB.putObj {n E l : Nat} (W : World) (o : Obj) (hl : ¬ (l < n ∨ l = E)) : KeepB n E W (W.putObj l o) := fun b hb _ => World.putObj_heap_other (fun e => hl (e ▸ hb))
theorem KeepB.below {n E : Nat} {X Y : World} (h : Below X.heap.size X Y) : KeepB n E X Y := fun b _ hx => h.block b hx
theorem KeepB.setCell {n E c : Nat} (W : World) (v : Value) (hc : ¬ (c < n ∨ c = E)) : KeepB n E W (W.setCell ⟨c, 0, none⟩ v) := fun b hb _ => Below.heap_setCell _ _ _ _ (fun e => hc (by have e2 : b = c := e; rw [← e2]; exact hb))
theorem IterG.any {m : Nat} (m' : Nat) {gf : Nat} {lb : Array Value} {Enc : Nat → Array Value → World → Prop} {N : Nat} {own : Nat → Prop} {Kp : World → World → Prop} {W : World} (h : IterG Fence.wide m P gf lb Enc N own Kp W) : IterG Fence.wide m' P gf lb Enc N own Kp W :=
  fun l J Jx hJ hJx hY h0 => callsIn_wide.2 (callsIn_wide.1 (h l J Jx hJ hJx (fun k X args hk hj he => yieldAt_any _ (hY k X args hk hj he)) h0))
end Go.Proofs.YtcfhenekoaegaaaGreatDoor

/- slices.Clone at pairs; slices.All at pairs and its iterator. -/
namespace Go.Proofs.YtcfhenekoaegaaaGreatDoor
set_option linter.unusedVariables false
set_option linter.unusedSimpArgs false
open Go.RowKit Go.Shelf
attribute [local go_sem] Oper.semAt_some
set_option maxHeartbeats 8000000
set_option maxRecDepth 100000
theorem prs_length (L : List (List UInt8 × List UInt8)) : (prs L).length = L.length * 2 := by
  induction L with
  | nil => rfl
  | cons p L ih => show (tx p.1 :: tx p.2 :: prs L).length = _; simp [ih]; omega
theorem prs_split (L : List (List UInt8 × List UInt8)) (j : Nat) (u : Value) (h : (prs L)[j]? = some u) : ∃ i, i < L.length ∧ ((j = i * 2 ∧ u = tx (L.getD i ([], [])).1) ∨ (j = i * 2 + 1 ∧ u = tx (L.getD i ([], [])).2)) := by
  have hj : j < L.length * 2 := by rw [← prs_length]; exact (List.getElem?_eq_some_iff.1 h).1
  have hp := prs_get L (j / 2) (by omega)
  refine ⟨j / 2, by omega, ?_⟩
  rcases Nat.mod_two_eq_zero_or_one j with hm | hm
  · left
    have e : j / 2 * 2 = j := by omega
    rw [e, h] at hp
    exact ⟨e.symm, Option.some.inj hp.1⟩
  · right
    have e : j / 2 * 2 + 1 = j := by omega
    rw [e, h] at hp
    exact ⟨e.symm, Option.some.inj hp.2⟩
theorem sl_cloneP (v : Value) (Q : List (List UInt8 × List UInt8)) (w : World) (h : PS w v Q) (hl : Q.length ≤ 100000) :
    Calls Tryz.prog 56 #[v] w fun e w' => ∃ r, e = .returned r ∧ w'.ownsRow w.heap.size 47 2 r Q.length (prs Q) ∧ Below w.heap.size w w' := by
  obtain ⟨i0, hi, hz0, hz1, hz2⟩ := info_parts (show (Tryz.prog.info? 47).map (fun i => (i.zero, i.size, i.bytes)) = some (some (.agg #[.string ByteArray.empty, .string ByteArray.empty]), 2, 32) by kernel_rfl)
  rcases h with ⟨rfl, rfl⟩ | ⟨g, o, cap, rfl, h⟩
  · have hq : ∀ W, (binOp BinOp.eql 24 (.slice none 0 0) (.slice none 0 0)).run Tryz.prog W = .ok (.bool true) W := fun W => by kernel_rfl
    go_enter Tryz.func56, Tryz.ntmps56
    go_wp2
    go_ret
    exact ⟨_, rfl, World.ownsRow_nil _ _ _ _, Below.refl _ _⟩
  · have hq : ∀ W, (binOp BinOp.eql 24 (.slice (some ⟨g, o, none⟩) Q.length cap) (.slice none 0 0)).run Tryz.prog W = .ok (.bool false) W := fun W => by kernel_rfl
    obtain ⟨n, hn⟩ : ∃ n, Q.length = n := ⟨_, rfl⟩
    have HN := Lib.hid hn
    rw [hn] at hq hl ⊢
    have H := Lib.hid h
    clear h hn
    go_enter Tryz.func56, Tryz.ntmps56
    have HO : Hid ((w.alloc (.cells #[] 47)).ownsRow w.heap.size 47 2 (.slice (some ⟨w.heap.size, 0, none⟩) 0 0) 0 []) :=
      ⟨rfl, .inr ⟨w.heap.size, 0, #[], rfl, Nat.le_refl _, World.alloc_heap_new w _, Nat.le_refl _, Nat.zero_le _, rfl, rfl⟩⟩
    go_wp2_with (at_builtin; refine wpList_append_own _ rfl _ _ 24 rfl w.heap.size 47 i0 (.agg #[.string ByteArray.empty, .string ByteArray.empty]) 2 32 Tryz.underlying24 hi hz0 hz1 hz2 rfl (by decide) _ _ _ rfl HO.out ⟨g, o, none⟩ n cap (prs Q) rfl ?c1 ?c2 ?c3 ?c4 ?c5 ?c6 ?_)
    case c1 => rw [prs_length, HN.out]
    case c2 =>
      intro j u hj
      obtain ⟨i, hi2, ⟨rfl, rfl⟩ | ⟨rfl, rfl⟩⟩ := prs_split Q j u hj
      · rw [Lib.add_plain]
        exact cell_below ((Below.refl _ w).alloc (Nat.le_refl _) _) (H.out i hi2).1
      · rw [Lib.add_plain, ← Nat.add_assoc]
        exact cell_below ((Below.refl _ w).alloc (Nat.le_refl _) _) (H.out i hi2).2
    case c3 =>
      intro u hu
      obtain ⟨j, hj⟩ := List.getElem?_of_mem hu
      obtain ⟨i, _, ⟨_, rfl⟩ | ⟨_, rfl⟩⟩ := prs_split Q j u hj <;> rfl
    case c4 => unfold maxLen; omega
    case c5 => omega
    case c6 => simp
    intro v' w1 hown hgrow _
    have hB : Below w.heap.size w w1 := ((Below.refl _ w).alloc (Nat.le_refl _) _).grown hgrow (by simp) (fun k hk => by simp [Value.ownBlock] at hk; omega)
    have HP := Lib.hid (show w1.ownsRow w.heap.size 47 2 v' n (prs Q) by simpa using hown)
    have HB := Lib.hid hB
    clear hown hgrow hB
    go_wp2
    go_ret
    exact ⟨_, rfl, HP.out, HB.out⟩
theorem sl_allP (F : Fence) (n : Nat) (h : F.fn 58) (hro : F.round = none) (v : Value) (p : Option Addr) (m c : Nat) (hv : v = .slice p m c) (w : World) :
    CallsIn F n Tryz.prog 58 #[v] w fun e w' => e = .returned (.func (.func 76) #[] #[.pointer (some ⟨w.heap.size, 0, none⟩)]) ∧ w' = w.alloc (.cells #[v] 24) := by
  subst hv
  refine callsIn_of_wp Tryz.func58 rfl h ?_ hro
  simp only [Tryz.ntmps58, List.size_toArray, List.length_cons, List.length_nil, Nat.reduceAdd, Nat.reduceSub, Array.replicate_succ, Array.replicate_zero, List.push_toArray, List.append_toArray, List.nil_append, List.cons_append]
  gi_wp2
  go_ret
  exact ⟨rfl, rfl⟩
theorem all1_it (m : Nat) (v : Value) (Q : List (List UInt8 × List UInt8)) (B : Nat) (own : Nat → Prop) (Kp : World → World → Prop) (S : World → Prop) (hl : Q.length ≤ 100000) (W : World) (hB : ¬ own B)
    (hS : ∀ X, S X → PS X v Q) (hKp : ∀ X Y, Kp X Y → S X → S Y) (hTu : ∀ X Y, Turn W.heap.size own X Y → S X → S Y)
    (hWB : Boxed W B 24 v) (hv : S W) :
    IterAt Fence.wide m Tryz.prog 76 #[.pointer (some ⟨B, 0, none⟩)] (fun k => #[.int .i64 k, .agg #[tx (Q.getD k ([], [])).1, tx (Q.getD k ([], [])).2]]) Q.length own Kp W := by
  intro l J Jx hJ hJx hY h0
  obtain ⟨p, c, rfl⟩ := (hS W hv).slice
  obtain ⟨N, hN⟩ : ∃ n, Q.length = n := ⟨_, rfl⟩
  rw [hN] at hWB hS hY hl ⊢
  have HN := Lib.hid hN
  have HV := Lib.hid hv
  have hc0 := hWB.cell
  clear hN hv
  refine callsIn_of_wp Tryz.func76 rfl trivial ?_ rfl
  simp only [Tryz.ntmps76, List.size_toArray, List.length_cons, List.length_nil, Nat.reduceAdd, Nat.reduceSub, Array.replicate_succ, Array.replicate_zero, List.push_toArray, List.append_toArray, List.nil_append, List.cons_append]
  gi_wp2
  gi_loopw [7] (fun i wr => ∃ k : Nat, k ≤ N ∧ i = .int .i64 k ∧ J k wr ∧ S wr) (fun i _ => N - (intOf i).toNat)
  case atStart => exact ⟨0, Nat.zero_le _, rfl, h0, HV.out⟩
  case round =>
    obtain ⟨k, hk, rfl, hj, hp⟩ := hrel
    by_cases hlt : k < N
    · obtain ⟨g, o, rfl, hcs⟩ := (hS _ hp).cells (k := k) (by rw [HN.out]; exact hlt)
      obtain ⟨h1, h2⟩ := hcs k (by rw [HN.out]; exact hlt)
      have HJ := Lib.hid hj
      have HP := Lib.hid hp
      obtain ⟨a, ha⟩ : ∃ z, (Q.getD k ([], [])).1 = z := ⟨_, rfl⟩
      obtain ⟨b, hb⟩ : ∃ z, (Q.getD k ([], [])).2 = z := ⟨_, rfl⟩
      rw [ha] at h1
      rw [hb] at h2
      unfold tx at h1 h2
      obtain ⟨ab, hab⟩ : ∃ z : ByteArray, (⟨a.toArray⟩ : ByteArray) = z := ⟨_, rfl⟩
      obtain ⟨bb, hbb⟩ : ∃ z : ByteArray, (⟨b.toArray⟩ : ByteArray) = z := ⟨_, rfl⟩
      rw [hab] at h1
      rw [hbb] at h2
      have HT := Lib.hid (show Turn W.heap.size own wr (wr.alloc (.cells #[.string ab, .string bb] 47)) from .alloc _ _)
      have hJX := hJ _ _ _ HJ.out HT.out
      obtain ⟨fn, tmps, assign, body, hy, hR⟩ := hY k _ hlt hJX
      rw [ha, hb] at hy
      unfold tx at hy
      rw [hab, hbb] at hy
      clear hcs hj hp ha hb hab hbb hJX
      gi_wp2
      refine ⟨(fun h => by cases h), hR.mono ?_⟩
      rintro z Y (⟨rfl, hj', hkp, _⟩ | ⟨rfl, hjx, _⟩)
      · have HPY := Lib.hid (hKp _ _ hkp (hTu _ _ HT.out HP.out))
        clear hy
        gi_wp2
        go_roundw
        case rel => exact ⟨k + 1, hlt, by go_num, hj', HPY.out⟩
        case measure => simp [intOf]; omega
      · gi_wp2
        refine bodyPost_ret (results_none rfl _ _ _) rfl ?_
        exact ⟨⟨_, rfl⟩, .inr hjx⟩
    · have hkN : k = N := by omega
      subst hkN
      gi_wp2
      go_end0
      exact ⟨⟨_, rfl⟩, .inl hj⟩
end Go.Proofs.YtcfhenekoaegaaaGreatDoor

/- target: Pairs and its iterator. -/
namespace Go.Proofs.YtcfhenekoaegaaaGreatDoor
set_option linter.unusedVariables false
set_option linter.unusedSimpArgs false
open Go.RowKit Go.Shelf
attribute [local go_sem] Oper.semAt_some
set_option maxHeartbeats 8000000
set_option maxRecDepth 100000
theorem tg_Pairs (u v : Value) (Q : List (List UInt8 × List UInt8)) (w : World) (hu : ∃ p n c, u = .slice p n c) (h : PS w v Q) (hl : Q.length ≤ 100000) :
    Calls Tryz.prog 23 #[.agg #[u, v]] w fun e w' => ∃ C r, e = .returned (.func (.func 57) #[] #[.pointer (some ⟨C, 0, none⟩)]) ∧ Boxed w' C 24 r ∧
      w'.ownsRow w.heap.size 47 2 r Q.length (prs Q) ∧ w.heap.size ≤ C ∧ Below w.heap.size w w' := by
  obtain ⟨p0, n0, c0, rfl⟩ := hu
  obtain ⟨p, c, rfl⟩ := h.slice
  obtain ⟨N, hN⟩ : ∃ n, Q.length = n := ⟨_, rfl⟩
  rw [hN] at h hl ⊢
  obtain ⟨W1, hW1⟩ : ∃ Z, w.alloc (.cells #[.slice p0 n0 c0, .slice p N c] 26) = Z := ⟨_, rfl⟩
  have hb1 : Below w.heap.size w W1 := by rw [← hW1]; exact (Below.refl _ _).alloc (Nat.le_refl _) _
  have hA : W1.heap[w.heap.size]? = some (.cells #[.slice p0 n0 c0, .slice p N c] 26 (0, 0)) := by rw [← hW1]; exact World.alloc_heap_new _ _
  have a1 : W1.cell? ⟨w.heap.size, 1, none⟩ = some (.slice p N c) := by simp [World.cell?, hA]
  have hz : W1.heap.size = w.heap.size + 1 := by rw [← hW1]; simp
  have K := Lib.hid (sl_cloneP (.slice p N c) Q W1 (by have := h.below hb1; exact this) (by rw [hN]; exact hl))
  have HB := Lib.hid hb1
  have HW := Lib.hid hW1
  have HN := Lib.hid hN
  have HZ := Lib.hid hz
  clear h hb1 hA hW1 hN hz
  go_enter Tryz.func23, Tryz.ntmps23
  go_wp2_with fail
  rw [HW.out]
  refine K.out.mono ?_
  rintro e w2 ⟨r, rfl, hown, hb2⟩
  obtain ⟨pr, cr, rfl⟩ := own_slice hown
  have HO := Lib.hid hown
  have HB2 := Lib.hid (HB.out.trans (hb2.mono HB.out.size))
  have HS2 := Lib.hid (show w.heap.size ≤ w2.heap.size from HB2.out.size)
  clear hown hb2 K
  rw [HN.out] at HO ⊢
  go_wp2_with fail
  go_ret
  refine ⟨w2.heap.size, _, rfl, World.alloc_heap_new _ _, ?_, HS2.out, HB2.out.alloc HS2.out _⟩
  have := HO.out.alloc (.cells #[.slice pr N cr] 24)
  rw [HZ.out] at this
  refine ⟨this.1, this.2.imp id ?_⟩
  rintro ⟨g, cap, cur, h1, h2, h3⟩
  exact ⟨g, cap, cur, h1, by omega, h3⟩
theorem turn_below {B : Nat} {own : Nat → Prop} {W W' : World} (h : Below W.heap.size W W') : Turn B own W W' :=
  ⟨h.os, h.tape, h.output, h.size, fun k hk _ _ => h.block k hk⟩
theorem keeps_below {B : Nat} {W W' : World} (h : Below W.heap.size W W') : KeepsFrom B W W' :=
  ⟨h.size, fun k o _ hk _ => (h.block k (Array.getElem?_eq_some_iff.1 hk).1).trans hk⟩
theorem pairs1_it (v : Value) (Q : List (List UInt8 × List UInt8)) (C E : Nat) (Kp : World → World → Prop) (S : World → Prop) (hl : Q.length ≤ 100000) (W : World) (hE : W.heap.size = E)
    (hS : ∀ X, S X → PS X v Q) (hKp : ∀ X Y, Kp X Y → S X → S Y) (hTu : ∀ X Y, Turn E (fun _ => False) X Y → S X → S Y) (hPu : ∀ X l o o', X.heap[l]? = some o → o.isCells = false → S X → S (X.putObj l o'))
    (hKf : ∀ X Y u, Kp X Y → Boxed X E 91 u → Boxed Y E 91 u)
    (hWB : Boxed W C 24 v) (hv : S W) :
    IterAt Fence.wide 9 Tryz.prog 57 #[.pointer (some ⟨C, 0, none⟩)] (fun k => #[tx (Q.getD k ([], [])).1, tx (Q.getD k ([], [])).2]) Q.length (fun _ => False) Kp W := by
  intro l J Jx hJ hJx hY h0
  obtain ⟨pv, cv, rfl⟩ := (hS W hv).slice
  obtain ⟨N, hN⟩ : ∃ n, Q.length = n := ⟨_, rfl⟩
  have HN := Lib.hid hN
  have hCl : C < E := by rw [← hE]; exact hWB.lt
  refine callsIn_of_wp_marks Tryz.func57 rfl trivial ?_ rfl
  simp only [Tryz.ntmps57, List.size_toArray, List.length_cons, List.length_nil, Nat.reduceAdd, Nat.reduceSub, Array.replicate_succ, Array.replicate_zero, List.push_toArray, List.append_toArray, List.nil_append, List.cons_append]
  have hc := (hWB.alloc (.cells #[.func (.yield l) #[] #[]] 91)).cell
  rw [hN] at hc hS hY hWB ⊢
  have LW := Lib.hid (fun X => sl_allP Fence.wide 8 trivial rfl (.slice pv N cv) _ _ _ rfl X)
  have HV := Lib.hid hv
  clear hv hN
  gi_wp2_with fail
  refine wpW_scope ?_
  gi_step
  apply wpIn_label
  gi_wp2_with fail
  refine ⟨trivial, (LW.out _).mono ?_⟩
  rintro e w' ⟨rfl, rfl⟩
  obtain ⟨W0, hW0⟩ : ∃ W0, (W.alloc (.cells #[.func (.yield l) #[] #[]] 91)).alloc (.cells #[.slice pv N cv] 24) = W0 := ⟨_, rfl⟩
  have hs0 : W0.heap.size = E + 2 := by rw [← hW0]; simp; omega
  have bY : Boxed W0 E 91 (.func (.yield l) #[] #[]) := by
    rw [← hW0, ← hE]; exact (Boxed.new W _ _).alloc _
  have bN : Boxed W0 (E + 1) 24 (.slice pv N cv) := by
    rw [← hW0, ← hE]; have := Boxed.new (W.alloc (.cells #[.func (.yield l) #[] #[]] 91)) 24 (.slice pv N cv); rwa [World.size_alloc] at this
  have j0 : J 0 W0 := by rw [← hW0]; exact hJ _ _ _ (hJ _ _ _ h0 (.alloc _ _)) (.alloc _ _)
  have s0 : S W0 := by rw [← hW0]; exact hTu _ _ (.alloc _ _) (hTu _ _ (.alloc _ _) HV.out)
  have hsz : (W.alloc (.cells #[.func (.yield l) #[] #[]] 91)).heap.size = E + 1 := by simp; omega
  rw [hsz, hW0]
  clear hW0 hsz hc
  gi_wp2_with fail
  refine rf_outer (N := N) (own := fun _ => False) (Kp := fun X Y => S X → S Y) (encs := fun k => #[.int .i64 k, .agg #[tx (Q.getD k ([], [])).1, tx (Q.getD k ([], [])).2]]) rfl (by omega) (gf := 76) (lb := #[.pointer (some ⟨E + 1, 0, none⟩)]) rfl trivial (enters_of Tryz.func76 (by kernel_rfl) rfl)
    (fun _ => rfl) (fun b hb => hb.elim)
    (fun X hX hs => by
      have := all1_it 8 (.slice pv N cv) Q (E + 1) (fun _ => False) (fun X Y => S X → S Y) S hl X (fun h => h) hS (fun _ _ h => h) (fun A B h => hTu A B (h.mono (by omega) (fun _ h => h)))
        ((hX.block _ (by omega)).trans bN) (hTu _ _ (turn_below hX) s0)
      rwa [HN.out] at this)
    (fun h k hs => k (h hs)) (fun X o o' h2 h3 hs => hPu _ _ _ _ h2 h3 hs)
    (fun k X => J k X ∧ Boxed X E 91 (.func (.yield l) #[] #[]) ∧ S X) (fun c X => c = .exit 0 ∧ Jx X)
    (fun k X Y hs ht => ⟨hJ _ _ _ hs.1 (ht.mono (by omega) (fun b hb => hb)), ht.boxed hs.2.1 (fun h => h), hTu _ _ (ht.mono (by omega) (fun b hb => hb)) hs.2.2⟩)
    (fun c X Y hs ht => ⟨hs.1, hJx _ _ hs.2 (ht.mono (by omega) (fun b hb => hb))⟩) ⟨j0, bY, s0⟩
    (fun k b X => ∃ g ab bb, b = { tmps := #[.func (.yield l) #[] #[], .pointer (some ⟨C, 0, none⟩), .pointer (some ⟨E, 0, none⟩), undef, .pointer (some ⟨g, 0, none⟩), .slice pv N cv, .func (.func 76) #[] #[.pointer (some ⟨E + 1, 0, none⟩)], .int .i64 k, .agg #[.string ab, .string bb], undef, undef, undef, undef, undef, undef, undef], defers := [] }
      ∧ X.heap[g]? = some (.cells #[.string ab, .string bb] 47 (0, 0)) ∧ tx (Q.getD k ([], [])).1 = .string ab ∧ tx (Q.getD k ([], [])).2 = .string bb)
    (fun k b X Y hs ht => by obtain ⟨g, ab, bb, h1, h2, h3⟩ := hs; exact ⟨g, ab, bb, h1, ht.cells h2 rfl (fun h => h), h3⟩) ?assign ?body ?done ?stop
  case assign =>
    intro l' k X K hk hi hK
    obtain ⟨ab, hab⟩ : ∃ z : ByteArray, tx (Q.getD k ([], [])).1 = .string z := ⟨_, rfl⟩
    obtain ⟨bb, hbb⟩ : ∃ z : ByteArray, tx (Q.getD k ([], [])).2 = .string z := ⟨_, rfl⟩
    rw [hab, hbb]
    have HA := Lib.hid (And.intro hab hbb)
    clear hab hbb
    gi_wp2
    refine hK _ _ (keeps_below ((Below.refl _ _).alloc (Nat.le_refl _) _)) (fun h => hTu _ _ (.alloc _ _) h) ⟨hJ _ _ _ hi.1 (.alloc _ _), hi.2.1.alloc _, hTu _ _ (.alloc _ _) hi.2.2⟩ ⟨X.heap.size, ab, bb, rfl, World.alloc_heap_new _ _, HA.out.1, HA.out.2⟩
  case body =>
    rintro l' k b X hl' ⟨r, hr⟩ hk ⟨hj, hb, hs⟩ ⟨g, ab, bb, rfl, hg, hab, hbb⟩
    have cY := hb.cell
    have c0 : X.cell? ⟨g, 0, none⟩ = some (.string ab) := by simp [World.cell?, hg]
    have c1 : X.cell? ⟨g, 1, none⟩ = some (.string bb) := by simp [World.cell?, hg]
    obtain ⟨fn, tmps, assign, body, hy, hR⟩ := hY k X hk hj
    have hR' := roundIn_any 6 hR
    rw [hab, hbb] at hy
    clear hR hab hbb hg
    gi_wp2
    refine RoundIn.mono (F := Fence.wide) hR' ?_
    rintro e Y (⟨rfl, hj', hkp, hkf⟩ | ⟨rfl, hjx, hkf⟩)
    · have hbY := hKf _ _ _ hkp hb
      have hsY := hKp _ _ hkp hs
      gi_wp2
      exact ⟨⟨hkf.size, fun i o hi h1 h2 => hkf.same i o (by omega) h1 h2⟩, fun _ => hsY, hj', hbY, hsY⟩
    · gi_wp2
      exact ⟨⟨hkf.size, fun i o hi h1 h2 => hkf.same i o (by omega) h1 h2⟩, rfl, hjx⟩
  case done =>
    rintro D X hD ⟨hj, _, _⟩ hK
    gi_wp2
    rw [Exit.noGoto_normal]
    refine ⟨by simp, .inl ⟨_, _, rfl, run_takeDeferred hK, ?_⟩⟩
    exact ⟨_, results_none rfl _ _ _, ⟨_, rfl⟩, .inl (hJ _ _ _ hj (.putObj _ (by omega) hK rfl))⟩
  case stop =>
    rintro D c X hD ⟨rfl, hjx⟩ hK
    gi_wp2
    rw [Exit.noGoto_normal]
    refine ⟨by simp, .inl ⟨_, _, rfl, run_takeDeferred hK, ?_⟩⟩
    exact ⟨_, results_none rfl _ _ _, ⟨_, rfl⟩, .inr (hJx _ _ hjx (.putObj _ (by omega) hK rfl))⟩
end Go.Proofs.YtcfhenekoaegaaaGreatDoor

/- target: caught, of a frame that a range over a function has marked; WriteString, and what it leaves. -/
namespace Go.Proofs.YtcfhenekoaegaaaGreatDoor
set_option linter.unusedVariables false
set_option linter.unusedSimpArgs false
open Go.RowKit Go.Shelf
set_option maxHeartbeats 4000000
set_option maxRecDepth 100000
theorem tg_caught_idle_in (n : Nat) (p : Addr) (cl : Value) (w : World) :
    CallsDIn Fence.wide n Tryz.prog 24 #[.pointer (some p), cl] .returning w fun e u' w' => e = .returned (.tuple #[]) ∧ u' = .returning ∧ w' = w := by
  refine callsDIn_of_wpSIn Tryz.func24 rfl trivial fun c₀ cs hu => ?_
  apply wpSIn_seq
  apply wpSIn_region
  simp [wpOpsSIn, go_sem, recoverD, hu, Tryz.ntmps24, Exit.thenS]
  apply wpSIn_seq
  apply wpSIn_region
  simp [wpOpsSIn, go_sem, recoverD, hu, Exit.thenS]
  refine wpSIn_cond (t := false) (by simp [Act.eval, Array.replicate]) ?_
  simp only [Bool.false_eq_true, if_false]
  refine wpSIn_of_wpIn rfl (wpIn_wide.2 (wp_skip ?_))
  cases c₀
  simp_all [bodyPostS, results, Tryz.results24]
set_option maxRecDepth 100000 in
theorem tg_caught_in (N : Nat) (p : Addr) (f : FuncId) (cap : Array Value) (n : Int) (older : List PanicEntry) (w w1 : World)
    (hf : ∀ W, (callFunc f cap).run Tryz.prog W = .ok (.enter f cap) W) (hC : Calls Tryz.prog f cap w (fun e w' => e = .returned (.tuple #[]) ∧ w' = w1)) (old : Value) (hc : w1.cell? p = some old) (hz : w1.frozen? p = false) :
    CallsDIn Fence.wide N Tryz.prog 24 #[.pointer (some p), .func (.func f) #[] cap] (.panicking ({ v := errno n, recovered := false } :: older)) w fun e u' w' =>
      e = .returned (.tuple #[]) ∧ u' = .panicking ({ v := errno n, recovered := true } :: older) ∧ w' = w1.setCell p (.int .i64 n) := by
  have K := Lib.hid hC
  refine callsDIn_of_wpSIn Tryz.func24 rfl trivial fun c₀ cs hu => ?_
  apply wpSIn_seq
  apply wpSIn_region
  simp [wpOpsSIn, go_sem, recoverD, hu, Tryz.ntmps24, Exit.thenS]
  apply wpSIn_seq
  apply wpSIn_region
  simp [wpOpsSIn, go_sem, recoverD, hu, Exit.thenS, errno]
  refine wpSIn_cond (t := true) (by simp [Act.eval, Array.replicate]) ?_
  simp only [if_true]
  refine wpSIn_of_wpIn rfl (wpIn_wide.2 ?_)
  simp [Array.replicate, List.replicate, List.setIfInBounds_toArray]
  have hta : ∀ (v : Value) (W : World), (Instr.typeAssert (.iface 27 v) 20 27 true).run Tryz.prog W = .ok (.tuple #[v, .bool true]) W := errno_is
  go_wp2_with fail
  refine K.out.mono ?_
  rintro e w' ⟨rfl, rfl⟩
  go_wp2
  simp [bodyPostS, results, Tryz.results24, go_sem]
end Go.Proofs.YtcfhenekoaegaaaGreatDoor

/- A region that draws its order, within a round of a range over a function: the plain laws lifted, and the call of yield behind operations in whatever order. No condition but those that each lemma states. -/
namespace Go.Proofs.YtcfhenekoaegaaaGreatDoor
set_option linter.unusedVariables false
set_option linter.unusedSimpArgs false
open Go.RowKit
set_option maxHeartbeats 2000000
def noDefer (ops : Array Oper) : Bool := ops.all fun o => match o.op with
  | .defer _ => false
  | _ => true
theorem noDefer_at {ops : Array Oper} (h : noDefer ops = true) {i : Nat} {o : Oper} (ho : ops[i]? = some o) : ∀ c, o.op ≠ .defer c := by
  intro c hc
  have h1 := (Array.all_eq_true_iff_forall_mem.1 h) o (Array.mem_of_getElem? ho)
  rw [hc] at h1
  cases h1
/-- an operation of a round, out of the plain one -/
theorem opR {P : Program} {l n : Nat} {o : Oper} {a : Act} {w : World} {K : Act → World → Prop} {Q : Exit → Act → World → Prop} (hd : ∀ c, o.op ≠ .defer c) (h : o.wp P a w K Q) :
    o.wpIn (Fence.wide.inRound l) n P a w K Q := by
  refine ⟨fun _ _ => trivial, ?_⟩
  rw [Fence.inRound_round, Oper.semAt_some l _ _ hd]
  unfold Oper.wp at h
  generalize (execOp a.eval o).run P w = r at h ⊢
  cases r with
  | ok x w' =>
    cases x <;> simp only [Oper.upon, Oper.uponIn] at h ⊢ <;>
      first
        | exact h
        | exact ⟨(fun e => by cases e), CallsIn.inRound l (callsIn_wide.2 h)⟩
        | exact ⟨(fun e => by cases e), fun c cs _ => let ⟨v, w', r, s⟩ := h c cs; ⟨v, w', r, stepsIn_wide.2 s⟩⟩
  | halt x w' => cases x <;> simp only [Oper.upon, Oper.uponIn] at h ⊢ <;> exact h
section
variable {P : Program} {ops : Array Oper} {Q' : Exit → Act → World → Prop} {md : Region.Mode} {C : World → Prop} {l n : Nat}
theorem wpOpR_of_qOp {i : Nat} {a : Act} {K : Act → Prop} {K' : Act → World → Prop} {w : World} (hd : noDefer ops = true) (hC : C w) (h : ∀ a w', C w' → K a → K' a w') (hh : qOp P ops C i K a) : wpOpIn (Fence.wide.inRound l) n P ops Q' i K' a w := by
  unfold qOp at hh
  unfold wpOpIn
  split
  · rename_i ho; simp only [ho] at hh; exact h _ _ hC hh
  · rename_i o ho
    simp only [ho] at hh
    split
    · rename_i hw; simp only [hw, if_true] at hh; exact opR (noDefer_at hd ho) (Oper.wp_of_quiet hC h hh)
    · rename_i hw; simp only [hw] at hh; exact ⟨fun _ _ => trivial, h _ _ hC hh⟩
theorem wpAnyR_of_quiet {Q : Act → Prop} (hd : noDefer ops = true) (hQ : ∀ a w, C w → Q a → Q' .normal a w) : ∀ (fuel : Nat) (listed : Array Bool) (a : Act) (w : World), C w →
    wpAnyQ P md ops C Q fuel listed a → wpAnyIn (Fence.wide.inRound l) n P md ops Q' fuel listed a w
  | 0, _, _, _, hw, h => ⟨h.1, hQ _ _ hw h.2⟩
  | fuel + 1, _, _, _, hw, h => ⟨fun h0 => hQ _ _ hw (h.1 h0), fun i hi => wpOpR_of_qOp hd hw (fun a' w' hw' => wpAnyR_of_quiet hd hQ fuel _ a' w' hw') (h.2 i hi)⟩
theorem wpR_region_quiet {id : Nat} {Q : Exit → Act → World → Prop} {a : Act} {w : World} (hm : P.follows .mixedOrders = true) (hd : noDefer ops = true) (hB : Region.lexB .any ops = true) (hC : C { w with drawn := w.drawn + 1 })
    (h : wpQuiet P ops C (fun a' => ∀ w', C w' → Q .normal a' w') ops.toList a) : (Code.region id ops true).wpIn (Fence.wide.inRound l) n P Q a w := by
  simp only [Region.lexB, Bool.and_eq_true] at hB
  refine wpIn_region_any hm (wpAnyR_of_quiet (Q := fun a' => ∀ w', C w' → Q .normal a' w') hd (fun _ w' hw' h => h w' hw') _ _ _ _ hC ?_)
  have := wpAnyQ_lex (C := C) (md := .any) hB.1 ops.toList 0 (Array.replicate ops.size false) a (by simp) (by simpa using hB.2) h
  simpa using this
/-- callees that make memory behind what there is -/
theorem wpR_region_below {id : Nat} {Q : Exit → Act → World → Prop} {a : Act} {w : World} {ls : List Oper} (hm : P.follows .mixedOrders = true) (hd : noDefer ls.toArray = true) (hB : Region.lexB .any ls.toArray = true)
    (h : wpQuiet P ls.toArray (fun w' => ∃ p : Regrown, w' = Go.Sort.grow (redrawn w p.d) p.os) (fun a' => ∀ w', (∃ p : Regrown, w' = Go.Sort.grow (redrawn w p.d) p.os) → Q .normal a' w') ls a) : (Code.region id ls.toArray true).wpIn (Fence.wide.inRound l) n P Q a w :=
  wpR_region_quiet (C := fun w' => ∃ p : Regrown, w' = Go.Sort.grow (redrawn w p.d) p.os) hm hd hB ⟨⟨w.drawn + 1, #[]⟩, by rw [Go.Sort.grow_empty]; rfl⟩ (by simpa using h)
end
section
variable {P : Program} {ops : Array Oper} {Q : Exit → Act → World → Prop} {md : Region.Mode} {F : Fence} {n : Nat}
theorem wpAnyIn_inv (hb : backB md ops = true) (Inv : (Nat → Bool) → Act → World → Prop)
    (hstep : ∀ (f : Nat → Bool) (a : Act) (w : World) (i : Nat) (o : Oper), ops[i]? = some o → f i = false → (∀ e ∈ o.after, Region.binds md e = true → f e.on = true) → Inv f a w →
      o.wpIn F n P a w (Inv (fun j => if j = i then true else f j)) Q)
    (hdone : ∀ (f : Nat → Bool) (a : Act) (w : World), (∀ i, i < ops.size → f i = true) → Inv f a w → Q .normal a w) :
    ∀ (fuel : Nat) (listed : Array Bool) (a : Act) (w : World), listed.size = ops.size → listed.toList.count false ≤ fuel → Inv (fun i => listed.getD i false) a w → wpAnyIn F n P md ops Q fuel listed a w := by
  intro fuel
  induction fuel with
  | zero =>
    intro listed a w hs hc hI
    have hr : Region.ready md ops listed = [] := by
      cases hr : Region.ready md ops listed with
      | nil => rfl
      | cons i r =>
        obtain ⟨o, ho, hl, hi, _⟩ := ready_mem (md := md) hs (i := i) (by rw [hr]; exact List.mem_cons_self)
        have h1 : false ∈ listed.toList := by
          simp only [Array.getD, hi, dite_true] at hl
          have h2 : listed[i] ∈ listed.toList := Array.mem_toList_iff.2 (Array.getElem_mem hi)
          have h3 : listed[i] = false := hl
          rwa [h3] at h2
        have := List.count_pos_iff.2 h1
        omega
    exact ⟨hr, hdone _ a w (ready_all hb hs hr) hI⟩
  | succ fuel ih =>
    intro listed a w hs hc hI
    refine ⟨fun hr => hdone _ a w (ready_all hb hs hr) hI, fun i hi => ?_⟩
    obtain ⟨o, ho, hl, hil, hpre⟩ := ready_mem hs hi
    have hg := (back_of hb ho).1
    have h1 := hstep _ a w i o ho hl hpre hI
    unfold wpOpIn
    simp only [ho]
    rw [if_pos (by simp [Region.wanted, hg])]
    refine Oper.wpIn_mono (fun a' w' hI' => ?_) h1
    refine ih _ a' w' (by simp [hs]) ?_ ?_
    · have h3 : listed.toList[i]'(by simpa using hil) = false := by
        simp only [Array.getD, hil, dite_true] at hl
        simpa using hl
      rw [Array.toList_setIfInBounds, List.count_set (h := by simpa using hil), h3]
      have h4 : 0 < listed.toList.count false := List.count_pos_iff.2 (by rw [← h3]; exact List.getElem_mem _)
      rw [if_pos (by rfl), if_neg (by decide)]
      omega
    · refine cast (congrArg (fun g => Inv g a' w') (funext fun j => ?_)) hI'
      by_cases hj : j = i
      · subst hj
        simp [Array.getD, hil]
      · rw [if_neg hj]
        simp only [Array.getD, Array.size_setIfInBounds]
        by_cases hjl : j < listed.size
        · simp [hjl, Array.getElem_setIfInBounds, Ne.symm hj]
        · simp [hjl]
theorem region_inv_in {id : Nat} {a : Act} {w : World} (hm : P.follows .mixedOrders = true) (hb : backB .any ops = true) (Inv : (Nat → Bool) → Act → World → Prop) (h0 : Inv (fun _ => false) a w.drew)
    (hstep : ∀ (f : Nat → Bool) (a : Act) (w : World) (i : Nat) (o : Oper), ops[i]? = some o → f i = false → (∀ e ∈ o.after, Region.binds .any e = true → f e.on = true) → Inv f a w →
      o.wpIn F n P a w (Inv (fun j => if j = i then true else f j)) Q)
    (hdone : ∀ (f : Nat → Bool) (a : Act) (w : World), (∀ i, i < ops.size → f i = true) → Inv f a w → Q .normal a w) : (Code.region id ops true).wpIn F n P Q a w := by
  refine wpIn_region_any hm (wpAnyIn_inv hb Inv hstep hdone _ _ a _ (by simp) ?_ ?_)
  · refine Nat.le_trans List.count_le_length ?_
    simp
  · refine cast (congrArg (fun g => Inv g a w.drew) (funext fun j => ?_)) h0
    by_cases hj : j < ops.size <;> simp [Array.getD, hj]
/-! what stands ahead of an operation, however far -/
def edgesOf (md : Region.Mode) (ops : Array Oper) (i : Nat) : List Nat := match ops[i]? with
  | some o => (o.after.toList.filter (Region.binds md)).map (·.on)
  | none => []
def ancOf (md : Region.Mode) (ops : Array Oper) : Nat → Nat → List Nat
  | 0, _ => []
  | k + 1, i => (edgesOf md ops i).flatMap fun j => j :: ancOf md ops k j
def ShutF (md : Region.Mode) (ops : Array Oper) (f : Nat → Bool) : Prop := ∀ i, f i = true → ∀ j ∈ edgesOf md ops i, f j = true
theorem anc_true {f : Nat → Bool} (hc : ShutF md ops f) : ∀ (k i : Nat), (∀ j ∈ edgesOf md ops i, f j = true) → ∀ j ∈ ancOf md ops k i, f j = true
  | 0, _, _, j, hj => by cases hj
  | k + 1, i, h, j, hj => by
    obtain ⟨x, hx, hj⟩ := List.mem_flatMap.1 hj
    rcases List.mem_cons.1 hj with rfl | hj
    · exact h _ hx
    · exact anc_true hc k x (hc x (h x hx)) j hj
theorem edges_of {f : Nat → Bool} {i : Nat} {o : Oper} (ho : ops[i]? = some o) (h : ∀ e ∈ o.after, Region.binds md e = true → f e.on = true) : ∀ j ∈ edgesOf md ops i, f j = true := by
  intro j hj
  unfold edgesOf at hj
  rw [ho] at hj
  obtain ⟨e, he, rfl⟩ := List.mem_map.1 hj
  obtain ⟨h1, h2⟩ := List.mem_filter.1 he
  exact h e (Array.mem_toList_iff.1 h1) h2
/-- the call of yield at place m, one operation behind it; ahead of it m operations in whatever order, each by what its slot holds -/
theorem region_yield {id l : Nat} {a0 : Act} {w0 : World} (m : Nat) (slot : Nat → Nat) (Fs : Nat → World → Value → Prop) (T : Act → World → Prop) (hm : P.follows .mixedOrders = true) (hb : backB .any ops = true) (hd : noDefer ops = true)
    (hsz : ops.size = m + 2) (hanc : ((List.range m).all fun j => (ancOf .any ops m m).contains j) = true) (hlast : (edgesOf .any ops (m + 1)).contains m = true)
    (hs : ∀ i, slot i < a0.tmps.size) (hinj : ∀ i j, i < m → j < m → slot i = slot j → i = j) (hF : ∀ i w w' v, Fs i w v → Below w.heap.size w w' → Fs i w' v)
    (hdst : ∀ i o, i < m → ops[i]? = some o → o.dst = some (slot i))
    (hstep : ∀ (f : Nat → Bool) (a : Act) (w : World) (i : Nat) (o : Oper), i < m → ops[i]? = some o → (∀ e ∈ o.after, Region.binds .any e = true → Fs e.on w (a.tmps.getD (slot e.on) undef)) → Below w0.heap.size w0 w →
      (∀ j, (∀ i, i < m → slot i ≠ j) → a.tmps.getD j undef = a0.tmps.getD j undef) → o.wp P a w (fun a' w' => ∃ v, a' = a.put o.dst v ∧ Fs i w' v ∧ Below w.heap.size w w') Q)
    (hyield : ∀ (vs : Nat → Value) (w : World) (o : Oper), ops[m]? = some o → Below w0.heap.size w0 w → (∀ i, i < m → Fs i w (vs i)) →
      o.wpIn (Fence.wide.inRound l) n P { a0 with tmps := fillN slot vs m a0.tmps } w T Q)
    (htail : ∀ (a : Act) (w : World) (o : Oper), ops[m + 1]? = some o → T a w → o.wpIn (Fence.wide.inRound l) n P a w (fun a' w' => Q .normal a' w') Q) :
    (Code.region id ops true).wpIn (Fence.wide.inRound l) n P Q a0 w0 := by
  refine region_inv_in hm hb (fun f a w => ShutF .any ops f ∧ (f m = false → f (m + 1) = false ∧ Stand a0 w0 m slot Fs f a w) ∧ (f m = true → f (m + 1) = false → T a w) ∧ (f (m + 1) = true → Q .normal a w))
    ⟨(fun i h => by cases h), (fun _ => ⟨rfl, rfl, rfl, (fun _ _ => rfl), ⟨rfl, rfl, rfl, Nat.le_refl _, (fun _ _ => rfl)⟩, (fun _ _ h => by cases h)⟩), (fun h => by cases h), (fun h => by cases h)⟩ ?_ ?_
  · rintro f a w i o ho hf hpre ⟨hc, h1, h2, h3⟩
    have hi := (Array.getElem?_eq_some_iff.1 ho).1
    have hee := edges_of ho hpre
    have hc' : ShutF .any ops (fun j => if j = i then true else f j) := by
      intro x hx y hy
      show (if y = i then true else f y) = true
      by_cases hyi : y = i
      · rw [if_pos hyi]
      · rw [if_neg hyi]
        by_cases hxi : x = i
        · subst hxi; exact hee y hy
        · exact hc x (by simpa [hxi] using hx) y hy
    have hpres : ∀ {g : Nat → Bool}, ShutF .any ops g → (∀ j ∈ edgesOf .any ops m, g j = true) → ∀ j, j < m → g j = true := fun hg he j hj => by
      have h4 := List.all_eq_true.1 hanc j (List.mem_range.2 hj)
      exact anc_true hg m m he j (by simpa using h4)
    by_cases him : i = m
    · subst him
      obtain ⟨h4, hI⟩ := h1 hf
      have hall := hpres hc hee
      have e : a = { a0 with tmps := fillN slot (fun j => a.tmps.getD (slot j) undef) i a0.tmps } := by
        have h5 : a.tmps = fillN slot (fun j => a.tmps.getD (slot j) undef) i a0.tmps := by
          refine ext_getD (by rw [fillN_size, hI.size]) (fun j => ?_)
          by_cases hj : ∃ k, k < i ∧ slot k = j
          · obtain ⟨k, hk, rfl⟩ := hj
            rw [fillN_at slot _ _ hs _ hinj k hk]
          · rw [fillN_get slot _ _ hs _ j (fun k hk e => hj ⟨k, hk, e⟩), hI.rest j (fun k hk e => hj ⟨k, hk, e⟩)]
        obtain ⟨t, d⟩ := a
        have h6 := hI.defers
        simp only at h5 h6
        rw [← h5, h6]
      have h7 := hyield (fun j => a.tmps.getD (slot j) undef) w o ho hI.bel (fun j hj => hI.have_ j hj (hall j hj))
      rw [← e] at h7
      refine Oper.wpIn_mono (fun a' w' hT => ⟨hc', fun h => by simp at h, fun _ _ => hT, fun h => ?_⟩) h7
      have h' : (if i + 1 = i then true else f (i + 1)) = true := h
      rw [if_neg (by omega), h4] at h'
      cases h'
    · by_cases hit : i = m + 1
      · subst hit
        have hfm : f m = true := hee m (by simpa using hlast)
        refine Oper.wpIn_mono (fun a' w' hT => ⟨hc', fun h => ?_, fun _ h => by simp at h, fun _ => hT⟩) (htail a w o ho (h2 hfm hf))
        have h' : (if m = m + 1 then true else f m) = false := h
        rw [if_neg (by omega), hfm] at h'
        cases h'
      · have hlt : i < m := by omega
        have hfm : f m = false := by
          cases hfm : f m with
          | false => rfl
          | true =>
            have := hpres hc (hc m hfm) i hlt
            rw [hf] at this
            cases this
        obtain ⟨h4, hI⟩ := h1 hfm
        refine Oper.wpIn_mono ?_ (opR (noDefer_at hd ho) (hstep f a w i o hlt ho (fun e he hbd => hI.have_ e.on (by have := (back_of hb ho).2 e he hbd; omega) (hpre e he hbd)) hI.bel hI.rest))
        rintro a' w' ⟨v, rfl, hv, hbw⟩
        rw [hdst i o hlt ho]
        have hsl : slot i < a.tmps.size := by rw [hI.size]; exact hs i
        refine ⟨hc', fun _ => ⟨by show (if m + 1 = i then true else f (m + 1)) = false; rw [if_neg (by omega)]; exact h4, hI.defers, by rw [← hI.size]; exact Array.size_setIfInBounds .., fun j hj => ?_, hI.bel.trans (hbw.mono hI.bel.size), fun j hj hfj => ?_⟩, fun h => ?_, fun h => ?_⟩
        · show (a.tmps.setIfInBounds (slot i) v).getD j undef = _
          rw [getD_set _ _ _ _ hsl, if_neg (Ne.symm (hj i hlt))]
          exact hI.rest j hj
        · show Fs j w' ((a.tmps.setIfInBounds (slot i) v).getD (slot j) undef)
          rw [getD_set _ _ _ _ hsl]
          by_cases hji : j = i
          · subst hji; rw [if_pos rfl]; exact hv
          · rw [if_neg (fun e => hji (hinj j i hj hlt e))]
            have h2 : f j = true := by simpa [hji] using hfj
            exact hF j w w' _ (hI.have_ j hj h2) hbw
        · have h' : (if m = i then true else f m) = true := h
          rw [if_neg (Ne.symm him), hfm] at h'; cases h'
        · have h' : (if m + 1 = i then true else f (m + 1)) = true := h
          rw [if_neg (Ne.symm hit), h4] at h'; cases h'
  · rintro f a w hall ⟨_, _, _, h3⟩
    exact h3 (hall (m + 1) (by omega))
/-- the call of yield within a round of the iterator's own loop -/
theorem op_yield {l l' k : Nat} {o : Oper} {a : Act} {w : World} {K : Act → World → Prop} {R : Ending → World → Prop} (t : Nat) (xs : Array Operand) (ty : Array TypeId) (args : Array Value) (ho : o.op = Op.call { callee := .value (.tmp t), args := xs, argTypes := ty })
    (ht : a.tmps.getD t undef = .func (.yield l') #[] #[]) (hx : xs.map a.eval = args) (h : YieldAt Fence.wide k P l' args w R) (hR : ∀ e w', R e w' → ∃ b, e = .returned (.bool b) ∧ K (a.put o.dst (.bool b)) w') :
    o.wpIn (Fence.wide.inRound l) n P a w K Q := by
  obtain ⟨fn, tmps, assign, body, hy, hr⟩ := h
  refine ⟨fun _ _ => trivial, ?_⟩
  rw [Fence.inRound_round, Oper.semAt_some l _ _ (fun c h => by rw [ho] at h; cases h)]
  have ht2 : a.tmps[t]?.getD undef = .func (.yield l') #[] #[] := by rw [← Array.getD_eq_getD_getElem?]; exact ht
  have e : (execOp a.eval o).run P w = .ok (.round l' fn tmps assign body) w := by
    unfold execOp
    simp [ho, resolve, invoke, ht2, hx, hy, go_sem]
  rw [e]
  refine ⟨(fun h => by cases h), ?_⟩
  refine RoundIn.mono (F := Fence.wide) (roundIn_any _ hr) ?_
  intro z w' hz
  obtain ⟨b, rfl, hk⟩ := hR z w' hz
  exact hk
end
end Go.Proofs.YtcfhenekoaegaaaGreatDoor

/- A drawn region inside a round of a range over a function, by what its slots hold. -/
namespace Go.Proofs.YtcfhenekoaegaaaGreatDoor
set_option linter.unusedVariables false
set_option linter.unusedSimpArgs false
open Go.RowKit
section
variable {P : Program} {ops : Array Oper} {Q : Exit → Act → World → Prop}
theorem region_slots2_in {l n id : Nat} {a0 : Act} {w0 : World} (slot : Nat → Nat) (F : Nat → World → Value → Prop) (T : (Nat → Bool) → World → Prop) (hm : P.follows .mixedOrders = true) (hb : backB .any ops = true) (hnd : noDefer ops = true)
    (hs : ∀ i, slot i < a0.tmps.size) (hinj : ∀ i j, i < ops.size → j < ops.size → slot i = slot j → i = j) (h0 : T (fun _ => false) w0.drew)
    (hdst : ∀ i o, ops[i]? = some o → o.dst = some (slot i))
    (hstep : ∀ (f : Nat → Bool) (a : Act) (w : World) (i : Nat) (o : Oper), ops[i]? = some o → f i = false → (∀ e ∈ o.after, Region.binds .any e = true → f e.on = true ∧ F e.on w (a.tmps.getD (slot e.on) undef)) → T f w →
      (∀ j, (∀ i, i < ops.size → slot i ≠ j) → a.tmps.getD j undef = a0.tmps.getD j undef) → (∀ i, i < ops.size → f i = false → a.tmps.getD (slot i) undef = a0.tmps.getD (slot i) undef) →
      o.wp P a w (fun a' w' => ∃ v, a' = a.put o.dst v ∧ F i w' v ∧ T (fun j => if j = i then true else f j) w' ∧ ∀ j v', f j = true → F j w v' → F j w' v') Q)
    (hdone : ∀ (f : Nat → Bool) (vs : Nat → Value) (w : World), (∀ i, i < ops.size → f i = true) → T f w → (∀ i, i < ops.size → F i w (vs i)) → Q .normal { a0 with tmps := fillN slot vs ops.size a0.tmps } w) : (Code.region id ops true).wpIn (Fence.wide.inRound l) n P Q a0 w0 := by
  refine region_inv_in hm hb (Stand2 a0 ops.size slot F T) ⟨rfl, rfl, fun _ _ => rfl, fun _ _ _ => rfl, h0, fun _ _ h => by cases h⟩ ?_ ?_
  · intro f a w i o ho hf hpre hI
    have hi := (Array.getElem?_eq_some_iff.1 ho).1
    refine opR (noDefer_at hnd ho) (Oper.wp_mono ?_ (hstep f a w i o ho hf (fun e he hbd => ⟨hpre e he hbd, hI.have_ e.on (by have := (back_of hb ho).2 e he hbd; omega) (hpre e he hbd)⟩) hI.told hI.rest hI.yet))
    rintro a' w' ⟨v, rfl, hv, ht, hst⟩
    rw [hdst i o ho]
    have hsl : slot i < a.tmps.size := by rw [hI.size]; exact hs i
    refine ⟨hI.defers, by rw [← hI.size]; exact Array.size_setIfInBounds .., fun j hj => ?_, fun j hj hfj => ?_, ht, fun j hj hfj => ?_⟩
    · show (a.tmps.setIfInBounds (slot i) v).getD j undef = _
      rw [getD_set _ _ _ _ hsl, if_neg (Ne.symm (hj i hi))]
      exact hI.rest j hj
    · show (a.tmps.setIfInBounds (slot i) v).getD (slot j) undef = _
      have hji : j ≠ i := fun e => by simp [e] at hfj
      rw [getD_set _ _ _ _ hsl, if_neg (fun e => hji (hinj j i hj hi e))]
      exact hI.yet j hj (by simpa [hji] using hfj)
    · show F j w' ((a.tmps.setIfInBounds (slot i) v).getD (slot j) undef)
      rw [getD_set _ _ _ _ hsl]
      by_cases hji : j = i
      · subst hji; rw [if_pos rfl]; exact hv
      · rw [if_neg (fun e => hji (hinj j i hj hi e))]
        have h2 : f j = true := by simpa [hji] using hfj
        exact hst j _ h2 (hI.have_ j hj h2)
  · intro f a w hall hI
    have e : a = { a0 with tmps := fillN slot (fun i => a.tmps.getD (slot i) undef) ops.size a0.tmps } := by
      have h1 : a.tmps = fillN slot (fun i => a.tmps.getD (slot i) undef) ops.size a0.tmps := by
        refine ext_getD (by rw [fillN_size, hI.size]) (fun j => ?_)
        by_cases hj : ∃ i, i < ops.size ∧ slot i = j
        · obtain ⟨i, hi, rfl⟩ := hj
          rw [fillN_at slot _ _ hs _ hinj i hi]
        · rw [fillN_get slot _ _ hs _ j (fun i hi e => hj ⟨i, hi, e⟩), hI.rest j (fun i hi e => hj ⟨i, hi, e⟩)]
      obtain ⟨t, d⟩ := a
      have h2 := hI.defers
      simp only at h1 h2
      rw [← h1, h2]
    rw [e]
    exact hdone f _ w hall hI.told (fun i hi => hI.have_ i hi (hall i hi))
end
end Go.Proofs.YtcfhenekoaegaaaGreatDoor

/- What a builder's WriteString leaves: all that is no bytes, but the builder. -/
namespace Go.Proofs.YtcfhenekoaegaaaGreatDoor
set_option linter.unusedVariables false
set_option linter.unusedSimpArgs false
open Go.RowKit Go.Shelf
set_option maxHeartbeats 4000000
set_option maxRecDepth 100000
/-- cells that are no bytes stand, but for the blocks of Z -/
def KT (Z : Nat → Prop) (X Y : World) : Prop := ∀ k cs t fr, X.heap[k]? = some (.cells cs t fr) → t ≠ 5 → ¬ Z k → Y.heap[k]? = some (.cells cs t fr)
theorem KT.refl (Z : Nat → Prop) (X : World) : KT Z X X := fun _ _ _ _ h _ _ => h
theorem KT.trans {Z : Nat → Prop} {X Y V : World} (h : KT Z X Y) (k : KT Z Y V) : KT Z X V := fun i cs t fr h1 h2 h3 => k i cs t fr (h i cs t fr h1 h2 h3) h2 h3
theorem KT.mono {Z Z' : Nat → Prop} {X Y : World} (h : KT Z X Y) (hz : ∀ k, Z k → Z' k) : KT Z' X Y := fun i cs t fr h1 h2 h3 => h i cs t fr h1 h2 (fun e => h3 (hz i e))
theorem KT.setCell {Z : Nat → Prop} (X : World) (b i : Nat) (v : Value) (hz : Z b) : KT Z X (X.setCell ⟨b, i, none⟩ v) := fun k cs t fr h1 h2 h3 => (Below.heap_setCell _ _ _ k (fun e => h3 (by have e2 : k = b := e; rw [e2]; exact hz))).trans h1
theorem KT.below {Z : Nat → Prop} {X Y : World} (h : Below X.heap.size X Y) : KT Z X Y := fun k cs t fr h1 _ _ => (h.block k (Array.getElem?_eq_some_iff.1 h1).1).trans h1
theorem KT.drew {Z : Nat → Prop} (X : World) : KT Z X X.drew := fun _ _ _ _ h _ _ => h
theorem KT.putObj {Z : Nat → Prop} {X : World} {l : Nat} {o : Obj} (o' : Obj) (h : X.heap[l]? = some o) (hc : o.isCells = false) : KT Z X (X.putObj l o') := fun k cs t fr h1 _ _ => (World.putObj_heap_other (fun e => by subst e; rw [h] at h1; cases h1; cases hc)).trans h1
theorem KT.grown {Z : Nat → Prop} {X Y : World} {row : Option Nat} (h : X.grownBy Y row) (hr : ∀ g, row = some g → ∀ cs t fr, X.heap[g]? = some (.cells cs t fr) → t = 5) : KT Z X Y :=
  fun k cs t fr h1 h2 _ => (h.block k (Array.getElem?_eq_some_iff.1 h1).1 (fun e => h2 (hr k e.symm cs t fr h1))).trans h1
theorem own_type {w : World} {base : Nat} {e : TypeId} {size : Nat} {v : Value} {n : Nat} {xs : List Value} (h : w.ownsRow base e size v n xs) {g : Nat} (hg : v.ownBlock = some g) {cs : Array Value} {t : TypeId} {fr : Nat × Nat} (hc : w.heap[g]? = some (.cells cs t fr)) : t = e := by
  rcases h.2 with ⟨rfl, _⟩ | ⟨g', cap, cur, rfl, _, h3, _⟩
  · simp [Value.ownBlock] at hg
  · obtain rfl : g' = g := by simpa [Value.ownBlock] using hg
    rw [h3] at hc
    injection hc with h4
    injection h4 with _ h5 _
    exact h5.symm
theorem keeps_set {w : World} {b : Nat} {cs : Array Value} {t : TypeId} {fr : Nat × Nat} (h : w.heap[b]? = some (.cells cs t fr)) (i : Nat) (v : Value) : KeepsFrom 0 w (w.setCell ⟨b, i, none⟩ v) :=
  ⟨by simp, fun k o _ hk hc => (Below.heap_setCell _ _ _ k (fun e => by
    have e2 : k = b := e
    subst e2
    rw [h] at hk
    cases hk
    cases hc)).trans hk⟩
theorem keeps_grown {w w' : World} {row : Option Nat} (h : w.grownBy w' row) (hr : ∀ g, row = some g → ∃ cs t fr, w.heap[g]? = some (.cells cs t fr)) : KeepsFrom 0 w w' :=
  ⟨h.size, fun k o _ hk hc => (h.block k (Array.getElem?_eq_some_iff.1 hk).1 (fun e => by
    obtain ⟨cs, t, fr, h2⟩ := hr k e.symm
    rw [h2] at hk
    cases hk
    cases hc)).trans hk⟩
theorem own_cells {w : World} {base : Nat} {e : TypeId} {size : Nat} {v : Value} {n : Nat} {xs : List Value} (h : w.ownsRow base e size v n xs) {g : Nat} (hg : v.ownBlock = some g) : ∃ cs t fr, w.heap[g]? = some (.cells cs t fr) := by
  rcases h.2 with ⟨rfl, _⟩ | ⟨g', cap, cur, rfl, _, h3, _⟩
  · simp [Value.ownBlock] at hg
  · obtain rfl : g' = g := by simpa [Value.ownBlock] using hg
    exact ⟨_, _, _, h3⟩
theorem builder_checkT (b base : Nat) (p : Value) (bs : List Value) (w : World) (hp : p = .pointer none ∨ p = .pointer (some ⟨b, 0, none⟩)) (h : BD w b base p bs) (hb : b < base) :
    Calls Tryz.prog 69 #[.pointer (some ⟨b, 0, none⟩)] w fun e w' => e = .returned (.tuple #[]) ∧ BD w' b base (.pointer (some ⟨b, 0, none⟩)) bs ∧ Fr b base w w' ∧ KT (fun k => k = b) w w' ∧ KeepsFrom 0 w w' := by
  have hh := h
  obtain ⟨v, hv, hown⟩ := hh
  have c0 : w.cell? ⟨b, 0, none⟩ = some p := by simp [World.cell?, hv]
  rcases hp with rfl | rfl
  · refine (builder_fresh b w c0 (by simp [World.shape?, hv]) (frozen_of_row _ _ _ _ _ hv)).mono ?_
    rintro e w' ⟨rfl, rfl⟩
    exact ⟨rfl, bd_used h hb, Fr.set _ _ _ _ _, KT.setCell _ _ _ _ rfl, keeps_set hv _ _⟩
  · refine (builder_used b w c0).mono ?_
    rintro e w' ⟨rfl, rfl⟩
    exact ⟨rfl, h, Fr.of (Below.refl _ _), KT.refl _ _, KeepsFrom.refl _ _⟩
theorem builder_textT (b base : Nat) (p : Value) (bs : List Value) (s : ByteArray) (w : World) (hp : p = .pointer none ∨ p = .pointer (some ⟨b, 0, none⟩)) (h : BD w b base p bs) (hb : b < base) (hw : base ≤ w.heap.size) (hl : bs.length ≤ 1000000) (hs : s.size ≤ 1000000) :
    Calls Tryz.prog 47 #[.pointer (some ⟨b, 0, none⟩), .string s] w fun e w' => e = .returned (.tuple #[.int .i64 s.size, .nilIface]) ∧ BD w' b base (.pointer (some ⟨b, 0, none⟩)) (bs ++ Lib.strCells s) ∧ Fr b base w w' ∧ KT (fun k => k = b) w w' ∧ KeepsFrom 0 w w' := by
  obtain ⟨i0, hi, hz0, hz1, hz2⟩ := info_parts (show (Tryz.prog.info? 5).map (fun i => (i.zero, i.size, i.bytes)) = some (some (.int .u8 0), 1, 1) by kernel_rfl)
  have K := Lib.hid (builder_checkT b base p bs w hp h hb)
  clear h hp
  go_enter Tryz.func47, Tryz.ntmps47
  go_wp2_with fail
  refine K.out.mono ?_
  rintro e w1 ⟨rfl, ⟨v, hv, hown⟩, hfr, hkt, hkf⟩
  have HK := Lib.hid hkt
  have HKF := Lib.hid hkf
  clear hkt hkf
  have HV := Lib.hid hv
  have HO := Lib.hid hown
  have HF := Lib.hid hfr
  have hw1 : base ≤ w1.heap.size := Nat.le_trans hw hfr.size
  have c1 : w1.cell? ⟨b, 1, none⟩ = some v := by simp [World.cell?, hv]
  clear K hv hown hfr hw
  go_wp2_with (at_builtin; refine Lib.wpList_append_own_string _ rfl _ _ 74 9 rfl base 5 i0 Tryz.underlying74 Tryz.underlying9 hi hz0 hz1 hz2 _ _ _ rfl HO.out s rfl ?c3 ?c4 ?c5 ?_)
  case c3 => unfold maxLen; omega
  case c4 => omega
  case c5 => omega
  intro v' w2 hown' hgrow _
  have hblt : b < w1.heap.size := Nat.lt_of_lt_of_le hb hw1
  have hne : v.ownBlock ≠ some b := fun e => by have := own_ge HO.out b e; omega
  have hb2 : w2.heap[b]? = some (.cells #[.pointer (some ⟨b, 0, none⟩), v] 79 (0, 0)) := by
    rw [hgrow.block b hblt (fun e => hne e.symm)]
    exact HV.out
  have HB2 := Lib.hid hb2
  have f1 : w2.frozen? ⟨b, 1, none⟩ = false := frozen_of_row _ _ _ _ _ hb2
  have d1 : w2.cell? ⟨b, 1, none⟩ = some v := by simp [World.cell?, hb2]
  have HBL := Lib.hid (show Below base w1 w2 from Below.grown (Below.refl _ _) hgrow hw1 (own_ge HO.out))
  obtain ⟨ao, n', cap, rfl⟩ : ∃ ao n' cap, v' = .slice ao n' cap := by
    rcases hown'.2 with ⟨h0, _⟩ | ⟨g, cap, cur, hv, _⟩
    · exact ⟨_, _, _, h0⟩
    · exact ⟨_, _, _, hv⟩
  have HO2 := Lib.hid hown'
  have HKF2 := Lib.hid (show KeepsFrom 0 w1 w2 from keeps_grown hgrow (fun g hg => own_cells HO.out hg))
  have HK2 := Lib.hid (show KT (fun k => k = b) w1 w2 from KT.grown hgrow (fun g hg cs t fr hc => own_type HO.out hg hc))
  clear hgrow hown' hb2 hne
  go_wp2
  go_ret2
  refine ⟨rfl, ⟨_, heap_setCell_same _ _ _ _ _ _ HB2.out, ?_⟩, HF.out.trans ((Fr.of HBL.out).trans (Fr.set _ _ _ _ _)), HK.out.trans (HK2.out.trans (KT.setCell _ _ _ _ rfl)), HKF.out.trans (HKF2.out.trans (keeps_set HB2.out _ _))⟩
  rw [List.length_append, Lib.strCells_length]
  exact ownsRow_setCell_below HO2.out hb _
end Go.Proofs.YtcfhenekoaegaaaGreatDoor

/- A drawn region whose last operation waits for all others: plain, and inside a round of a range over a function. -/
namespace Go.Proofs.YtcfhenekoaegaaaGreatDoor
set_option linter.unusedVariables false
set_option linter.unusedSimpArgs false
open Go.RowKit
section
variable {P : Program} {ops : Array Oper} {Q : Exit → Act → World → Prop}
theorem region_last {id : Nat} {a0 : Act} {w0 : World} (m : Nat) (slot : Nat → Nat) (Fs : Nat → World → Value → Prop) (hm : P.follows .mixedOrders = true) (hb : backB .any ops = true) 
    (hsz : ops.size = m + 1) (hanc : ((List.range m).all fun j => (ancOf .any ops m m).contains j) = true)
    (hs : ∀ i, slot i < a0.tmps.size) (hinj : ∀ i j, i < m → j < m → slot i = slot j → i = j) (hF : ∀ i w w' v, Fs i w v → Below w.heap.size w w' → Fs i w' v)
    (hdst : ∀ i o, i < m → ops[i]? = some o → o.dst = some (slot i))
    (hstep : ∀ (f : Nat → Bool) (a : Act) (w : World) (i : Nat) (o : Oper), i < m → ops[i]? = some o → (∀ e ∈ o.after, Region.binds .any e = true → Fs e.on w (a.tmps.getD (slot e.on) undef)) → Below w0.heap.size w0 w →
      (∀ j, (∀ i, i < m → slot i ≠ j) → a.tmps.getD j undef = a0.tmps.getD j undef) → o.wp P a w (fun a' w' => ∃ v, a' = a.put o.dst v ∧ Fs i w' v ∧ Below w.heap.size w w') Q)
    (hlast : ∀ (vs : Nat → Value) (w : World) (o : Oper), ops[m]? = some o → Below w0.heap.size w0 w → (∀ i, i < m → Fs i w (vs i)) →
      o.wp P { a0 with tmps := fillN slot vs m a0.tmps } w (fun a' w' => Q .normal a' w') Q) :
    (Code.region id ops true).wp P Q a0 w0 := by
  refine region_inv hm hb (fun f a w => ShutF .any ops f ∧ (f m = false → Stand a0 w0 m slot Fs f a w) ∧ (f m = true → Q .normal a w))
    ⟨(fun i h => by cases h), (fun _ => ⟨rfl, rfl, (fun _ _ => rfl), ⟨rfl, rfl, rfl, Nat.le_refl _, (fun _ _ => rfl)⟩, (fun _ _ h => by cases h)⟩), (fun h => by cases h)⟩ ?_ ?_
  · rintro f a w i o ho hf hpre ⟨hc, h1, h2⟩
    have hi := (Array.getElem?_eq_some_iff.1 ho).1
    have hee := edges_of ho hpre
    have hc' : ShutF .any ops (fun j => if j = i then true else f j) := by
      intro x hx y hy
      show (if y = i then true else f y) = true
      by_cases hyi : y = i
      · rw [if_pos hyi]
      · rw [if_neg hyi]
        by_cases hxi : x = i
        · subst hxi; exact hee y hy
        · exact hc x (by simpa [hxi] using hx) y hy
    have hpres : ∀ {g : Nat → Bool}, ShutF .any ops g → (∀ j ∈ edgesOf .any ops m, g j = true) → ∀ j, j < m → g j = true := fun hg he j hj => by
      have h4 := List.all_eq_true.1 hanc j (List.mem_range.2 hj)
      exact anc_true hg m m he j (by simpa using h4)
    by_cases him : i = m
    · subst him
      have hI := h1 hf
      have hall := hpres hc hee
      have e : a = { a0 with tmps := fillN slot (fun j => a.tmps.getD (slot j) undef) i a0.tmps } := by
        have h5 : a.tmps = fillN slot (fun j => a.tmps.getD (slot j) undef) i a0.tmps := by
          refine ext_getD (by rw [fillN_size, hI.size]) (fun j => ?_)
          by_cases hj : ∃ k, k < i ∧ slot k = j
          · obtain ⟨k, hk, rfl⟩ := hj
            rw [fillN_at slot _ _ hs _ hinj k hk]
          · rw [fillN_get slot _ _ hs _ j (fun k hk e => hj ⟨k, hk, e⟩), hI.rest j (fun k hk e => hj ⟨k, hk, e⟩)]
        obtain ⟨t, d⟩ := a
        have h6 := hI.defers
        simp only at h5 h6
        rw [← h5, h6]
      have h7 := hlast (fun j => a.tmps.getD (slot j) undef) w o ho hI.bel (fun j hj => hI.have_ j hj (hall j hj))
      rw [← e] at h7
      exact Oper.wp_mono (fun a' w' hT => ⟨hc', fun h => by simp at h, fun _ => hT⟩) h7
    · have hlt : i < m := by omega
      have hfm : f m = false := by
        cases hfm : f m with
        | false => rfl
        | true =>
          have := hpres hc (hc m hfm) i hlt
          rw [hf] at this
          cases this
      have hI := h1 hfm
      refine Oper.wp_mono ?_ (hstep f a w i o hlt ho (fun e he hbd => hI.have_ e.on (by have := (back_of hb ho).2 e he hbd; omega) (hpre e he hbd)) hI.bel hI.rest)
      rintro a' w' ⟨v, rfl, hv, hbw⟩
      rw [hdst i o hlt ho]
      have hsl : slot i < a.tmps.size := by rw [hI.size]; exact hs i
      refine ⟨hc', fun _ => ⟨hI.defers, by rw [← hI.size]; exact Array.size_setIfInBounds .., fun j hj => ?_, hI.bel.trans (hbw.mono hI.bel.size), fun j hj hfj => ?_⟩, fun h => ?_⟩
      · show (a.tmps.setIfInBounds (slot i) v).getD j undef = _
        rw [getD_set _ _ _ _ hsl, if_neg (Ne.symm (hj i hlt))]
        exact hI.rest j hj
      · show Fs j w' ((a.tmps.setIfInBounds (slot i) v).getD (slot j) undef)
        rw [getD_set _ _ _ _ hsl]
        by_cases hji : j = i
        · subst hji; rw [if_pos rfl]; exact hv
        · rw [if_neg (fun e => hji (hinj j i hj hlt e))]
          have h2 : f j = true := by simpa [hji] using hfj
          exact hF j w w' _ (hI.have_ j hj h2) hbw
      · have h' : (if m = i then true else f m) = true := h
        rw [if_neg (Ne.symm him), hfm] at h'; cases h'
  · rintro f a w hall ⟨_, _, h3⟩
    exact h3 (hall m (by omega))
theorem region_last_in {l n id : Nat} {a0 : Act} {w0 : World} (m : Nat) (slot : Nat → Nat) (Fs : Nat → World → Value → Prop) (hm : P.follows .mixedOrders = true) (hb : backB .any ops = true) (hd : noDefer ops = true) 
    (hsz : ops.size = m + 1) (hanc : ((List.range m).all fun j => (ancOf .any ops m m).contains j) = true)
    (hs : ∀ i, slot i < a0.tmps.size) (hinj : ∀ i j, i < m → j < m → slot i = slot j → i = j) (hF : ∀ i w w' v, Fs i w v → Below w.heap.size w w' → Fs i w' v)
    (hdst : ∀ i o, i < m → ops[i]? = some o → o.dst = some (slot i))
    (hstep : ∀ (f : Nat → Bool) (a : Act) (w : World) (i : Nat) (o : Oper), i < m → ops[i]? = some o → (∀ e ∈ o.after, Region.binds .any e = true → Fs e.on w (a.tmps.getD (slot e.on) undef)) → Below w0.heap.size w0 w →
      (∀ j, (∀ i, i < m → slot i ≠ j) → a.tmps.getD j undef = a0.tmps.getD j undef) → o.wp P a w (fun a' w' => ∃ v, a' = a.put o.dst v ∧ Fs i w' v ∧ Below w.heap.size w w') Q)
    (hlast : ∀ (vs : Nat → Value) (w : World) (o : Oper), ops[m]? = some o → Below w0.heap.size w0 w → (∀ i, i < m → Fs i w (vs i)) →
      o.wp P { a0 with tmps := fillN slot vs m a0.tmps } w (fun a' w' => Q .normal a' w') Q) :
    (Code.region id ops true).wpIn (Fence.wide.inRound l) n P Q a0 w0 := by
  refine region_inv_in hm hb (fun f a w => ShutF .any ops f ∧ (f m = false → Stand a0 w0 m slot Fs f a w) ∧ (f m = true → Q .normal a w))
    ⟨(fun i h => by cases h), (fun _ => ⟨rfl, rfl, (fun _ _ => rfl), ⟨rfl, rfl, rfl, Nat.le_refl _, (fun _ _ => rfl)⟩, (fun _ _ h => by cases h)⟩), (fun h => by cases h)⟩ ?_ ?_
  · rintro f a w i o ho hf hpre ⟨hc, h1, h2⟩
    have hi := (Array.getElem?_eq_some_iff.1 ho).1
    have hee := edges_of ho hpre
    have hc' : ShutF .any ops (fun j => if j = i then true else f j) := by
      intro x hx y hy
      show (if y = i then true else f y) = true
      by_cases hyi : y = i
      · rw [if_pos hyi]
      · rw [if_neg hyi]
        by_cases hxi : x = i
        · subst hxi; exact hee y hy
        · exact hc x (by simpa [hxi] using hx) y hy
    have hpres : ∀ {g : Nat → Bool}, ShutF .any ops g → (∀ j ∈ edgesOf .any ops m, g j = true) → ∀ j, j < m → g j = true := fun hg he j hj => by
      have h4 := List.all_eq_true.1 hanc j (List.mem_range.2 hj)
      exact anc_true hg m m he j (by simpa using h4)
    by_cases him : i = m
    · subst him
      have hI := h1 hf
      have hall := hpres hc hee
      have e : a = { a0 with tmps := fillN slot (fun j => a.tmps.getD (slot j) undef) i a0.tmps } := by
        have h5 : a.tmps = fillN slot (fun j => a.tmps.getD (slot j) undef) i a0.tmps := by
          refine ext_getD (by rw [fillN_size, hI.size]) (fun j => ?_)
          by_cases hj : ∃ k, k < i ∧ slot k = j
          · obtain ⟨k, hk, rfl⟩ := hj
            rw [fillN_at slot _ _ hs _ hinj k hk]
          · rw [fillN_get slot _ _ hs _ j (fun k hk e => hj ⟨k, hk, e⟩), hI.rest j (fun k hk e => hj ⟨k, hk, e⟩)]
        obtain ⟨t, d⟩ := a
        have h6 := hI.defers
        simp only at h5 h6
        rw [← h5, h6]
      have h7 := hlast (fun j => a.tmps.getD (slot j) undef) w o ho hI.bel (fun j hj => hI.have_ j hj (hall j hj))
      rw [← e] at h7
      exact opR (noDefer_at hd ho) (Oper.wp_mono (fun a' w' hT => ⟨hc', fun h => by simp at h, fun _ => hT⟩) h7)
    · have hlt : i < m := by omega
      have hfm : f m = false := by
        cases hfm : f m with
        | false => rfl
        | true =>
          have := hpres hc (hc m hfm) i hlt
          rw [hf] at this
          cases this
      have hI := h1 hfm
      refine Oper.wpIn_mono ?_ (opR (noDefer_at hd ho) (hstep f a w i o hlt ho (fun e he hbd => hI.have_ e.on (by have := (back_of hb ho).2 e he hbd; omega) (hpre e he hbd)) hI.bel hI.rest))
      rintro a' w' ⟨v, rfl, hv, hbw⟩
      rw [hdst i o hlt ho]
      have hsl : slot i < a.tmps.size := by rw [hI.size]; exact hs i
      refine ⟨hc', fun _ => ⟨hI.defers, by rw [← hI.size]; exact Array.size_setIfInBounds .., fun j hj => ?_, hI.bel.trans (hbw.mono hI.bel.size), fun j hj hfj => ?_⟩, fun h => ?_⟩
      · show (a.tmps.setIfInBounds (slot i) v).getD j undef = _
        rw [getD_set _ _ _ _ hsl, if_neg (Ne.symm (hj i hlt))]
        exact hI.rest j hj
      · show Fs j w' ((a.tmps.setIfInBounds (slot i) v).getD (slot j) undef)
        rw [getD_set _ _ _ _ hsl]
        by_cases hji : j = i
        · subst hji; rw [if_pos rfl]; exact hv
        · rw [if_neg (fun e => hji (hinj j i hj hlt e))]
          have h2 : f j = true := by simpa [hji] using hfj
          exact hF j w w' _ (hI.have_ j hj h2) hbw
      · have h' : (if m = i then true else f m) = true := h
        rw [if_neg (Ne.symm him), hfm] at h'; cases h'
  · rintro f a w hall ⟨_, _, h3⟩
    exact h3 (hall m (by omega))
end
end Go.Proofs.YtcfhenekoaegaaaGreatDoor

/- target: Text. -/
namespace Go.Proofs.YtcfhenekoaegaaaGreatDoor
set_option linter.unusedVariables false
set_option linter.unusedSimpArgs false
open Go.RowKit Go.Shelf
attribute [local go_sem] Oper.semAt_some
set_option maxHeartbeats 8000000
set_option maxRecDepth 100000
namespace Gt
theorem ptext_snoc (P : List (List UInt8)) (p : List UInt8) : ptext (P ++ [p]) = ptext P ++ (47 :: enc p) := by unfold ptext; rw [List.flatMap_append]; simp
theorem ptext_len : ∀ (P : List (List UInt8)), (∀ p ∈ P, p.length ≤ 300) → (ptext P).length ≤ P.length * 901
  | [], _ => Nat.le_refl _
  | p :: P, h => by
    have h1 := ptext_len P (fun q hq => h q (List.mem_cons_of_mem _ hq))
    have h2 := (enc_length p).2
    have h3 := h p List.mem_cons_self
    have e : ptext (p :: P) = (47 :: enc p) ++ ptext P := rfl
    rw [e, List.length_append, List.length_cons, List.length_cons]
    omega
theorem pr_len (q : List UInt8 × List UInt8) (h : q.1.length ≤ 300 ∧ q.2.length ≤ 300) : (pr q).length ≤ 1801 := by
  have h1 := (enc_length q.1).2
  have h2 := (enc_length q.2).2
  unfold pr
  rw [List.length_append, List.length_cons]
  omega
def by_ (k : Nat) : UInt8 := if k = 0 then 63 else 38
theorem qtext_take (Q : List (List UInt8 × List UInt8)) (k : Nat) (h : k < Q.length) : qtext (Q.take (k + 1)) = qtext (Q.take k) ++ by_ k :: pr (Q.getD k ([], [])) := by
  rw [List.take_succ_eq_append_getElem h, List.getD_eq_getElem?_getD, List.getElem?_eq_getElem h]
  cases k with
  | zero => simp [qtext, by_]
  | succ k =>
    cases Q with
    | nil => simp at h
    | cons q Q =>
      have h' : k < Q.length := by simpa using h
      simp [qtext, by_]
      rw [List.take_succ_eq_append_getElem h', List.flatMap_append]
      simp
theorem qtext_len (Q : List (List UInt8 × List UInt8)) (h : ∀ q ∈ Q, q.1.length ≤ 300 ∧ q.2.length ≤ 300) : ∀ k, k ≤ Q.length → (qtext (Q.take k)).length ≤ k * 1802
  | 0, _ => Nat.le_refl _
  | k + 1, hk => by
    have h1 := qtext_len Q h k (by omega)
    have h2 := pr_len (Q.getD k ([], [])) (by rw [List.getD_eq_getElem?_getD, List.getElem?_eq_getElem hk]; exact h _ (List.getElem_mem _))
    rw [qtext_take Q k hk, List.length_append, List.length_cons]
    omega
end Gt
theorem tg_clearS (a : Addr) (w : World) (old : Value) (hc : w.cell? a = some old) (hz : w.frozen? a = false) :
    Calls Tryz.prog 50 #[.pointer (some a)] w fun e w' => e = .returned (.tuple #[]) ∧ w' = w.setCell a (.string ⟨#[]⟩) := by
  go_enter Tryz.func50, Tryz.ntmps50
  go_wp2
  simp [bodyPost, results, Tryz.results50, go_sem]
theorem clearS_enter (cap : Array Value) (W : World) : (callFunc 50 cap).run Tryz.prog W = .ok (.enter 50 cap) W := by
  simp [callFunc, go_sem, Tryz.func50]
  rw [if_neg (by decide), if_neg (by decide)]
theorem BD.turn {B b base : Nat} {X Y : World} {p : Value} {bs : List Value} (h : BD X b base p bs) (ht : Turn B (fun _ => False) X Y) : BD Y b base p bs := by
  obtain ⟨v, h1, h2⟩ := h
  refine ⟨v, ht.cells h1 rfl (fun h => h), h2.1, h2.2.imp id ?_⟩
  rintro ⟨g, cap, cur, e1, e2, e3, e4⟩
  exact ⟨g, cap, cur, e1, e2, ht.cells e3 rfl (fun h => h), e4⟩
theorem BD.below {b base : Nat} {X Y : World} {p : Value} {bs : List Value} (h : BD X b base p bs) (hb : Below X.heap.size X Y) : BD Y b base p bs := by
  obtain ⟨v, h1, h2⟩ := h
  exact ⟨v, (hb.block _ (Array.getElem?_eq_some_iff.1 h1).1).trans h1, h2.belowed hb⟩
theorem fr_turn {B b base : Nat} {X Y : World} (ht : Turn B (fun _ => False) X Y) (h1 : base ≤ B) (h2 : base ≤ X.heap.size) : Fr b base X Y :=
  ⟨ht.os, ht.tape, ht.output, ht.size, fun k hk _ => ht.block k (by omega) (fun h => h) (fun hB => by omega)⟩
theorem BD.setBox {w : World} {b base T : Nat} {p v : Value} {bs : List Value} (h : BD w b base p bs) (hy : Boxed w T 9 v) (hne : T ≠ b) (x : Value) : BD (w.setCell ⟨T, 0, none⟩ x) b base p bs := by
  obtain ⟨u, h1, h2⟩ := h
  refine ⟨u, (Below.heap_setCell _ _ _ _ (fun e => hne (by have e2 : b = T := e; exact e2.symm))).trans h1, h2.1, h2.2.imp id ?_⟩
  rintro ⟨g, cap, cur, e1, e2, e3, e4⟩
  refine ⟨g, cap, cur, e1, e2, (Below.heap_setCell _ _ _ _ (fun e => ?_)).trans e3, e4⟩
  have e5 : g = T := e
  subst e5
  have e6 : w.heap[g]? = some (.cells #[v] 9 (0, 0)) := hy
  rw [e6] at e3
  injection e3 with e3
  injection e3 with _ e7 _
  exact absurd e7 (by decide)
theorem keepsFrom_of0 {X Y : World} (h : KeepsFrom 0 X Y) (B : Nat) : KeepsFrom B X Y := ⟨h.size, fun k o _ h1 h2 => h.same k o (Nat.zero_le _) h1 h2⟩
theorem builder_stringK (b base : Nat) (p : Value) (l : List UInt8) (w : World) (hp : p = .pointer none ∨ p = .pointer (some ⟨b, 0, none⟩)) (h : BD w b base p (Lib.byteCells l)) (hb : b < base) (hw : base ≤ w.heap.size) :
    Calls Tryz.prog 48 #[.pointer (some ⟨b, 0, none⟩)] w fun e w' => e = .returned (.string ⟨l.toArray⟩) ∧ Below b w w' ∧ Lib.OthersKept 5 (some b) w w' := by
  obtain ⟨v, hv, hown⟩ := h
  have hne : v.ownBlock ≠ some b := fun e => by have := own_ge hown b e; omega
  have ho : w.ownsRow b 5 1 v (Lib.byteCells l).length (Lib.byteCells l) := by
    refine ⟨hown.1, ?_⟩
    rcases hown.2 with h | ⟨g, cap, cur, h1, h2, h3⟩
    · exact .inl h
    · exact .inr ⟨g, cap, cur, h1, by omega, h3⟩
  have hB : Lib.IsBuilder 79 5 b b (Lib.byteCells l) w := by
    rcases hp with rfl | rfl
    · exact .inl ⟨Nat.le_refl _, v, hv, ho, hne⟩
    · exact .inr ⟨Nat.le_refl _, v, hv, ho, hne⟩
  refine (Tryz.Builder_String_any_k b b l w (Lib.IsBuilderF.of hB) (by omega)).mono ?_
  rintro e w' ⟨he, _, h1, h2⟩
  exact ⟨he, h1, h2⟩
/-- what Text tells -/
def txtOut (P : List (List UInt8)) (Q : List (List UInt8 × List UInt8)) : Value :=
  if Gt.right P then .tuple #[.string ⟨(Gt.text P Q).toArray⟩, .int .i64 0] else .tuple #[.string ⟨#[]⟩, .int .i64 2]
/-- a target that may not be written: the panic is caught -/
theorem text_door (P : List (List UInt8)) (Q : List (List UInt8 × List UInt8)) (w W : World) (hB : Below w.heap.size w W) (u : ByteArray) (hS : W.heap[w.heap.size + 1]? = some (.cells #[.string u] 9 (0, 0))) (hE : W.heap[w.heap.size + 2]? = some (.cells #[.int .i64 0] 27 (0, 0)))
    (hp : Gt.right P = false) (x0 x1 x4 x5 x6 x7 x8 x9 x10 x11 x12 x13 x14 x15 x16 x17 x18 x19 x20 x21 x22 x23 x24 x25 x26 x27 x28 x29 x30 x31 x32 x33 x34 x35 x36 x37 x38 x39 x40 x41 x42 x43 x44 : Value) :
    bodyPostM Fence.wide 20 Tryz.prog Tryz.f17 (fun e w' => e = .returned (txtOut P Q) ∧ Below w.heap.size w w') (.panic [{ v := errno 2, recovered := false }])
      { tmps := #[x0, x1, .pointer (some ⟨w.heap.size + 1, 0, none⟩), .pointer (some ⟨w.heap.size + 2, 0, none⟩), x4, x5, x6, x7, x8, x9, x10, x11, x12, x13, x14, x15, x16, x17, x18, x19, x20, x21, x22, x23, x24, x25, x26, x27, x28, x29, x30, x31, x32, x33, x34, x35, x36, x37, x38, x39, x40, x41, x42, x43, x44], defers := [{ target := Target.fn (Fn.func 24) #[], args := #[.pointer (some ⟨w.heap.size + 2, 0, none⟩), .func (.func 50) #[] #[.pointer (some ⟨w.heap.size + 1, 0, none⟩)]] }] } W := by
  have hv : txtOut P Q = .tuple #[.string ⟨#[]⟩, .int .i64 2] := by unfold txtOut; rw [hp]; rfl
  have c0 : W.cell? ⟨w.heap.size + 1, 0, none⟩ = some (.string u) := by simp [World.cell?, hS]
  have z0 : W.frozen? ⟨w.heap.size + 1, 0, none⟩ = false := frozen_of_row _ _ _ _ _ hS
  have c1 : W.cell? ⟨w.heap.size + 2, 0, none⟩ = some (.int .i64 0) := by simp [World.cell?, hE]
  have z1 : W.frozen? ⟨w.heap.size + 2, 0, none⟩ = false := frozen_of_row _ _ _ _ _ hE
  have c2 : (W.setCell ⟨w.heap.size + 1, 0, none⟩ (.string ⟨#[]⟩)).cell? ⟨w.heap.size + 2, 0, none⟩ = some (.int .i64 0) := by rw [World.cell?_setCell_other]; exact c1; simp
  have z2 : (W.setCell ⟨w.heap.size + 1, 0, none⟩ (.string ⟨#[]⟩)).frozen? ⟨w.heap.size + 2, 0, none⟩ = false := by simpa using z1
  refine ⟨by simp, .inr ⟨fun _ => by omega, _, _, 24, #[.pointer (some ⟨w.heap.size + 2, 0, none⟩), .func (.func 50) #[] #[.pointer (some ⟨w.heap.size + 1, 0, none⟩)]], rfl, by simp [go_sem], fun _ _ => trivial, ?_⟩⟩
  refine CallsDIn.mono (tg_caught_in 19 ⟨w.heap.size + 2, 0, none⟩ 50 #[.pointer (some ⟨w.heap.size + 1, 0, none⟩)] 2 [] W (W.setCell ⟨w.heap.size + 1, 0, none⟩ (.string ⟨#[]⟩)) (clearS_enter _) (tg_clearS _ _ _ c0 z0) (.int .i64 0) c2 z2) ?_
  rintro e u' w'' ⟨rfl, rfl, rfl⟩
  simp [LeavesInM, LeavesIn, settle, results, Tryz.results17, go_sem, c0, c1]
  exact ⟨hv.symm, (hB.setCell (Nat.le_succ _) _).setCell (by simp) _⟩
theorem byteCells_len (l : List UInt8) : (Lib.byteCells l).length = l.length := by unfold Lib.byteCells; simp
theorem strCells_is (s : ByteArray) : Lib.strCells s = Lib.byteCells s.data.toList := by
  unfold Lib.strCells Lib.byteCells
  rfl
/-- what the slots of the round's region hold -/
def TxF (byb kb ek vb ev : ByteArray) : Nat → World → Value → Prop
  | 0, _, v => v = .string byb
  | 1, _, v => v = .string kb
  | 2, _, v => v = .string ek
  | 3, _, v => v = .string (byb ++ ek)
  | 4, _, v => v = .string (byb ++ ek ++ (⟨#[61]⟩ : ByteArray))
  | 5, _, v => v = .string vb
  | 6, _, v => v = .string ev
  | 7, _, v => v = .string (byb ++ ek ++ (⟨#[61]⟩ : ByteArray) ++ ev)
  | _, _, _ => False
theorem TxF.below {byb kb ek vb ev : ByteArray} (i : Nat) (w w' : World) (v : Value) (h : TxF byb kb ek vb ev i w v) (hb : Below w.heap.size w w') : TxF byb kb ek vb ev i w' v := by
  match i, h with
  | 0, h | 1, h | 2, h | 3, h | 4, h | 5, h | 6, h | 7, h => exact h
  | n + 8, h => exact h.elim
def txSlot (i : Nat) : Nat := ([35, 36, 37, 38, 39, 40, 41, 42] : List Nat).getD i 35
theorem txSlot_lt (i : Nat) : txSlot i < 45 := by
  unfold txSlot
  match i with
  | 0 | 1 | 2 | 3 | 4 | 5 | 6 | 7 => decide
  | n + 8 => simp
theorem txSlot_inj : ∀ i, i < 8 → ∀ j, j < 8 → txSlot i = txSlot j → i = j := by decide
theorem txSlot_ne : ∀ j, j < 35 → ∀ i, i < 8 → txSlot i ≠ j := by
  intro j hj i hi
  have : ∀ i, i < 8 → 35 ≤ txSlot i := by decide
  have := this i hi
  omega
/-- one operation that leaves the world -/
theorem s1_same {P : Program} {o : Oper} {a : Act} {w : World} {Q : Exit → Act → World → Prop} {F : World → Value → Prop} (v : Value) (h : o.wp P a w (fun a' w' => a' = a.put o.dst v ∧ w' = w) Q) (hF : F w v) :
    o.wp P a w (fun a' w' => ∃ v, a' = a.put o.dst v ∧ F w' v ∧ Below w.heap.size w w') Q := by
  refine Oper.wp_mono ?_ h
  rintro a' w' ⟨rfl, rfl⟩
  exact ⟨v, rfl, hF, Below.refl _ _⟩
theorem call_one {P : Program} {o : Oper} {a : Act} {w : World} {K : Act → World → Prop} {Q : Exit → Act → World → Prop} (t k : Nat) (ty : Array TypeId) (v : Value) (R : Ending → World → Prop) (ho : o.op = Op.call { callee := .value (.func k), args := #[.tmp t], argTypes := ty }) (hv : a.tmps.getD t undef = v)
    (eg : ∀ args w, (callFunc k args).run P w = .ok (.enter k args) w) (hc : Calls P k #[v] w R) (hR : ∀ e w', R e w' → ∃ r, e = .returned r ∧ K (a.put o.dst r) w') : o.wp P a w K Q := by
  have e := ev_tmp hv
  have e2 : a.eval (.func k) = .func (.func k) #[] #[] := rfl
  unfold Oper.wp execOp
  simp [ho, resolve, invoke, e2, e, eg, go_sem]
  refine hc.mono ?_
  intro z w' hz
  obtain ⟨r, rfl, hk⟩ := hR z w' hz
  exact hk
theorem call_two {P : Program} {o : Oper} {a : Act} {w : World} {K : Act → World → Prop} {Q : Exit → Act → World → Prop} (s t k : Nat) (ty : Array TypeId) (u v : Value) (R : Ending → World → Prop) (ho : o.op = Op.call { callee := .value (.func k), args := #[.tmp s, .tmp t], argTypes := ty }) (hu : a.tmps.getD s undef = u) (hv : a.tmps.getD t undef = v)
    (eg : ∀ args w, (callFunc k args).run P w = .ok (.enter k args) w) (hc : Calls P k #[u, v] w R) (hR : ∀ e w', R e w' → ∃ r, e = .returned r ∧ K (a.put o.dst r) w') : o.wp P a w K Q := by
  have e := ev_tmp hv
  have e1 := ev_tmp hu
  have e2 : a.eval (.func k) = .func (.func k) #[] #[] := rfl
  unfold Oper.wp execOp
  simp [ho, resolve, invoke, e2, e, e1, eg, go_sem]
  refine hc.mono ?_
  intro z w' hz
  obtain ⟨r, rfl, hk⟩ := hR z w' hz
  exact hk
theorem tg_Text (v1 v2 : Value) (P : List (List UInt8)) (Q : List (List UInt8 × List UInt8)) (w : World) (h1 : TS w v1 P) (h2 : PS w v2 Q) (hP : P.length ≤ 300) (hPs : ∀ p ∈ P, p.length ≤ 300) (hQ : Q.length ≤ 300) (hQs : ∀ q ∈ Q, q.1.length ≤ 300 ∧ q.2.length ≤ 300) (ht : Tabs w) :
    Calls Tryz.prog 17 #[.agg #[v1, v2]] w fun e w' => e = .returned (txtOut P Q) ∧ Below w.heap.size w w' := by
  have hmf : ∀ (fn : Fn) (first cap : Array Value) (w : World), (Instr.makeFunc fn first cap).run Tryz.prog w = .ok (.func fn first cap) w := fun _ _ _ _ => rfl
  obtain ⟨p1, c1, rfl⟩ := h1.slice
  obtain ⟨p2, c2, rfl⟩ := h2.slice
  obtain ⟨n1, hn1⟩ : ∃ n, P.length = n := ⟨_, rfl⟩
  obtain ⟨n2, hn2⟩ : ∃ n, Q.length = n := ⟨_, rfl⟩
  rw [hn1] at h1 hP ⊢
  rw [hn2] at h2 hQ ⊢
  have HN1 := Lib.hid hn1
  have HN2 := Lib.hid hn2
  obtain ⟨W1, hW1⟩ : ∃ W, ((w.alloc (.cells #[.slice p1 n1 c1, .slice p2 n2 c2] 26)).alloc (.cells #[.string ⟨#[]⟩] 9)).alloc (.cells #[.int .i64 0] 27) = W := ⟨_, rfl⟩
  have HSZ := Lib.hid (show W1.heap.size = w.heap.size + 3 by rw [← hW1]; simp)
  have hb1 : Below w.heap.size w W1 := by
    rw [← hW1]
    exact (((Below.refl _ _).alloc (Nat.le_refl _) _).alloc (by simp) _).alloc (by simp; omega) _
  have hA : W1.heap[w.heap.size]? = some (.cells #[.slice p1 n1 c1, .slice p2 n2 c2] 26 (0, 0)) := by
    rw [← hW1, Below.heap_alloc _ _ _ (by simp; omega), Below.heap_alloc _ _ _ (by simp)]; exact World.alloc_heap_new _ _
  have hS : W1.heap[w.heap.size + 1]? = some (.cells #[.string ⟨#[]⟩] 9 (0, 0)) := by
    rw [← hW1, Below.heap_alloc _ _ _ (by simp)]
    have := World.alloc_heap_new (w.alloc (.cells #[.slice p1 n1 c1, .slice p2 n2 c2] 26)) (.cells #[.string ⟨#[]⟩] 9)
    simpa using this
  have hE : W1.heap[w.heap.size + 2]? = some (.cells #[.int .i64 0] 27 (0, 0)) := by
    rw [← hW1]
    have := World.alloc_heap_new ((w.alloc (.cells #[.slice p1 n1 c1, .slice p2 n2 c2] 26)).alloc (.cells #[.string ⟨#[]⟩] 9)) (.cells #[.int .i64 0] 27)
    simpa using this
  have HB := Lib.hid hb1
  have HA := Lib.hid hA
  have HS := Lib.hid hS
  have HE := Lib.hid hE
  have H1 := Lib.hid (h1.below hb1)
  have H2 := Lib.hid (h2.below hb1)
  have HT := Lib.hid (ht.below hb1)
  have HW1 := Lib.hid hW1
  have HPS := Lib.hid hPs
  have HQS := Lib.hid hQs
  have a0 : W1.cell? ⟨w.heap.size, 0, none⟩ = some (.slice p1 n1 c1) := by simp [World.cell?, hA]
  clear hW1 hb1 hA hS hE h1 h2 ht hPs hQs hn1 hn2
  refine (callsIn_wide (n := 20)).1 (callsIn_of_wp_marks Tryz.func17 rfl trivial ?_ rfl)
  simp only [Tryz.ntmps17, List.size_toArray, List.length_cons, List.length_nil, Nat.reduceAdd, Nat.reduceSub, Array.replicate_succ, Array.replicate_zero, List.push_toArray, List.append_toArray, List.nil_append, List.cons_append]
  refine wpIn_wide.2 ?_
  go_wp2_with fail
  rw [HW1.out]
  by_cases hn : 0 < n1
  · rw [decide_eq_true hn]
    refine (tg_must 2 W1).mono ?_
    rintro e w2 ⟨rfl, hw2⟩
    subst w2
    obtain ⟨T, hT⟩ : ∃ z, W1.heap.size = z := ⟨_, rfl⟩
    have HTT := Lib.hid hT
    obtain ⟨W4, hW4⟩ : ∃ Z, W1.alloc (.cells #[.pointer none, .slice none 0 0] 79) = Z := ⟨_, rfl⟩
    have HTW := Lib.hid (show T = w.heap.size + 3 by rw [← hT]; exact HSZ.out)
    have HB4 := Lib.hid (show Below T W1 W4 by rw [← hW4, ← hT]; exact (Below.refl _ _).alloc (Nat.le_refl _) _)
    have HBD := Lib.hid (show BD W4 T (T + 1) (.pointer none) (Lib.byteCells (Gt.ptext (P.take 0))) by
      refine ⟨.slice none 0 0, ?_, World.ownsRow_nil _ _ _ _⟩
      rw [← hW4, ← hT]; exact World.alloc_heap_new _ _)
    have HZ4 := Lib.hid (show W4.heap.size = T + 1 by rw [← hW4, ← hT]; simp)
    have b0 : W4.cell? ⟨w.heap.size, 0, none⟩ = some (.slice p1 n1 c1) := (HB4.out.cell (p := ⟨w.heap.size, 0, none⟩) (by show w.heap.size < T; have := HTW.out; omega)).trans a0
    clear a0
    go_wp2_with fail
    clear hW4 hT
    go_loopw [19] (fun i wr => ∃ (k : Nat) (p : Value), k ≤ n1 ∧ i = .int .i64 k ∧ (P.take k).all Gt.fine = true ∧ (p = .pointer none ∨ p = .pointer (some ⟨T, 0, none⟩)) ∧ BD wr T (T + 1) p (Lib.byteCells (Gt.ptext (P.take k))) ∧ Fr T (T + 1) W4 wr)
      (fun i _ => n1 - (intOf i).toNat)
    case atStart => exact ⟨0, .pointer none, Nat.zero_le _, rfl, rfl, .inl rfl, HBD.out, Fr.of (Below.refl _ _)⟩
    case round =>
      obtain ⟨k, p, hk, rfl, hfi, hpp, hbd, hfr⟩ := hrel
      have HFI := Lib.hid hfi
      have HPP := Lib.hid hpp
      have HD := Lib.hid hbd
      have HF := Lib.hid hfr
      have HBW := Lib.hid (show Below W1.heap.size W1 wr by rw [HTT.out]; exact HB4.out.trans (hfr.below (Nat.le_refl _) (Nat.le_succ _)))
      have HTS := Lib.hid (H1.out.below HBW.out)
      have HTB := Lib.hid (HT.out.below HBW.out)
      have HWZ := Lib.hid (show T + 1 ≤ wr.heap.size by have := hfr.size; rw [HZ4.out] at this; exact this)
      clear hfi hpp hbd hfr b0
      by_cases hlt : k < n1
      · obtain ⟨g, o, rfl, hcs⟩ := HTS.out.cells (k := k) (by rw [HN1.out]; exact hlt)
        have hck := hcs k (by rw [HN1.out]; exact hlt)
        have HTK := Lib.hid (take_getD P [] k (by rw [HN1.out]; exact hlt))
        have HMEM := Lib.hid (show P.getD k [] ∈ P by rw [List.getD_eq_getElem?_getD, List.getElem?_eq_getElem (show k < P.length by rw [HN1.out]; exact hlt)]; exact List.getElem_mem _)
        obtain ⟨l, hl⟩ : ∃ l, P.getD k [] = l := ⟨_, rfl⟩
        rw [hl] at hck HTK HMEM
        have HLL := Lib.hid (HPS.out l HMEM.out)
        obtain ⟨lb, hlb⟩ : ∃ z : ByteArray, (⟨l.toArray⟩ : ByteArray) = z := ⟨_, rfl⟩
        unfold tx at hck
        rw [hlb] at hck
        have HLB := Lib.hid (show lb.data.toList = l by rw [← hlb])
        have HLS := Lib.hid (show lb.size ≤ 300 by
          have h1 : lb.data.toList.length = lb.size := rfl
          rw [HLB.out] at h1
          have := HLL.out
          omega)
        have KF := Lib.hid (tg_fine lb wr (by have := HLS.out; omega))
        rw [HLB.out] at KF
        clear hcs hl hlb
        cases hf : Gt.fine l with
        | false =>
          rw [hf] at KF
          have HNO := Lib.hid (show Gt.right P = false by
            rw [right_rec]
            rw [List.all_eq_false.2 ⟨l, HMEM.out, by rw [hf]; simp⟩]; rfl)
          clear hf
          go_wp2_with fail
          refine KF.out.mono ?_
          rintro e w5 ⟨rfl, hb5⟩
          have HB5 := Lib.hid (HBW.out.trans (hb5.mono HBW.out.size))
          clear hb5
          go_wp2_with fail
          refine (tg_must_no 2 w5).mono ?_
          rintro e w6 ⟨rfl, hw6⟩
          subst w6
          exact text_door P Q w w5 (HB.out.trans (HB5.out.mono HB.out.size)) ⟨#[]⟩ ((HB5.out.block _ (by rw [HSZ.out]; omega)).trans HS.out) ((HB5.out.block _ (by rw [HSZ.out]; omega)).trans HE.out) HNO.out _ _ _ _ _ _ _ _ _ _ _ _ _ _ _ _ _ _ _ _ _ _ _ _ _ _ _ _ _ _ _ _ _ _ _ _ _ _ _ _ _ _ _
        | true =>
          rw [hf] at KF
          have HFN := Lib.hid (show (P.take (k + 1)).all Gt.fine = true by rw [HTK.out, List.all_append, HFI.out, List.all_cons, hf]; rfl)
          clear hf
          have HEN := Lib.hid (fun W (h : Tabs W) => tg_Encode lb W (by have := HLS.out; omega) h)
          rw [HLB.out] at HEN
          obtain ⟨eb, heb⟩ : ∃ z : ByteArray, (⟨(Gt.enc l).toArray⟩ : ByteArray) = z := ⟨_, rfl⟩
          rw [heb] at HEN
          have HEB := Lib.hid (show eb.data.toList = Gt.enc l by rw [← heb])
          have hes : eb.size ≤ 900 := by
            have h1 : eb.data.toList.length = eb.size := rfl
            rw [HEB.out] at h1
            have := (Gt.enc_length l).2
            have := HLL.out
            omega
          clear heb
          go_wp2_with fail
          refine KF.out.mono ?_
          rintro e w5 ⟨rfl, hb5⟩
          have HB5 := Lib.hid hb5
          clear hb5
          go_wp2_with fail
          refine (tg_must 2 w5).mono ?_
          rintro e w6 ⟨rfl, hw6⟩
          subst w6
          go_wp2_with fail
          refine (HEN.out w5 (HTB.out.below HB5.out)).mono ?_
          rintro e w6 ⟨rfl, hb6⟩
          have HB6 := Lib.hid (HB5.out.trans (hb6.mono HB5.out.size))
          clear hb6
          go_wp2_with fail
          have HBL := Lib.hid (show (Lib.byteCells (Gt.ptext (P.take k))).length ≤ 1000000 by
            rw [byteCells_len]
            have h1 := Gt.ptext_len (P.take k) (fun q hq => HPS.out q (List.mem_of_mem_take hq))
            have h2 : (P.take k).length ≤ k := List.length_take_le _ _
            omega)
          have HSS := Lib.hid (show ((⟨#[47]⟩ : ByteArray) ++ eb).size ≤ 1000000 by rw [ByteArray.size_append]; show 1 + eb.size ≤ _; omega)
          have KW := Lib.hid (builder_textT T (T + 1) p (Lib.byteCells (Gt.ptext (P.take k))) ((⟨#[47]⟩ : ByteArray) ++ eb) w6 HPP.out (HD.out.below HB6.out) (Nat.lt_succ_self T) (Nat.le_trans HWZ.out HB6.out.size) HBL.out HSS.out)
          refine KW.out.mono ?_
          rintro e w7 ⟨rfl, hbd7, hfr7, _, _⟩
          have HD7 := Lib.hid (show BD w7 T (T + 1) (.pointer (some ⟨T, 0, none⟩)) (Lib.byteCells (Gt.ptext (P.take (k + 1)))) by
            rw [HTK.out, Gt.ptext_snoc, bytes_app]
            rw [show Lib.byteCells (47 :: Gt.enc l) = Lib.strCells ((⟨#[47]⟩ : ByteArray) ++ eb) by rw [strCells_is, ByteArray.data_append, Array.toList_append, HEB.out]; rfl]
            exact hbd7)
          have HF7 := Lib.hid ((HF.out.trans (Fr.of (HB6.out.mono HWZ.out))).trans hfr7)
          clear hbd7 hfr7
          go_wp2_with fail
          go_roundw
          case rel => exact ⟨k + 1, .pointer (some ⟨T, 0, none⟩), hlt, by go_num, HFN.out, .inr rfl, HD7.out, HF7.out⟩
          case measure => simp [intOf]; omega
      · have HR := Lib.hid (show Gt.right P = true by
          rw [right_rec]
          have h1 := HFI.out
          rw [List.take_of_length_le (by rw [HN1.out]; omega)] at h1
          rw [h1, HN1.out, decide_eq_true hn]; rfl)
        have HD2 := Lib.hid (show BD wr T (T + 1) p (Lib.byteCells (Gt.ptext P)) by
          have h1 := HD.out
          rwa [List.take_of_length_le (by rw [HN1.out]; omega)] at h1)
        obtain ⟨T7, hT7⟩ : ∃ z, wr.heap.size = z := ⟨_, rfl⟩
        have HT7 := Lib.hid hT7
        obtain ⟨W7, hW7⟩ : ∃ Z, wr.alloc (.cells #[.string ⟨#[63]⟩] 9) = Z := ⟨_, rfl⟩
        have HTL := Lib.hid (show T + 1 ≤ T7 by rw [← hT7]; exact HWZ.out)
        have HB7 := Lib.hid (show Below T7 wr W7 by rw [← hW7, ← hT7]; exact (Below.refl _ _).alloc (Nat.le_refl _) _)
        have HY7 := Lib.hid (show Boxed W7 T7 9 (.string ⟨#[63]⟩) by rw [← hW7, ← hT7]; exact World.alloc_heap_new _ _)
        have HZ7 := Lib.hid (show W7.heap.size = T7 + 1 by rw [← hW7, ← hT7]; simp)
        have HBW7 := Lib.hid (show Below W1.heap.size W1 W7 from HBW.out.trans (HB7.out.mono (by rw [HTT.out]; have := HTL.out; omega)))
        have b0 : W7.cell? ⟨w.heap.size, 0, none⟩ = some (.slice p1 n1 c1) := by simp [World.cell?, (HBW7.out.block w.heap.size (by rw [HSZ.out]; omega)).trans HA.out]
        have b1 : W7.cell? ⟨w.heap.size, 1, none⟩ = some (.slice p2 n2 c2) := by simp [World.cell?, (HBW7.out.block w.heap.size (by rw [HSZ.out]; omega)).trans HA.out]
        have HPA := Lib.hid (tg_Pairs (.slice p1 n1 c1) (.slice p2 n2 c2) Q W7 ⟨_, _, _, rfl⟩ (H2.out.below HBW7.out) (by rw [HN2.out]; omega))
        go_wp2_with fail
        clear hW7 hT7
        refine HPA.out.mono ?_
        rintro e w8 ⟨C, r, rfl, hbox, hown, hC, hb8⟩
        have HBX := Lib.hid hbox
        have HOW := Lib.hid hown
        have HCW := Lib.hid hC
        have HB8 := Lib.hid hb8
        clear hbox hown hC hb8 HPA b0 b1
        go_wp2_with fail
        refine (wpIn_wide (n := 20)).1 ?_
        have HLW8 := Lib.hid (show T7 + 1 ≤ w8.heap.size by have := HB8.out.size; rw [HZ7.out] at this; exact this)
        have hbd8 : BD w8 T (T + 1) p (Lib.byteCells (Gt.ptext P ++ Gt.qtext (Q.take 0))) := by
          have h3 := (HD2.out.below (Y := W7) (by rw [HT7.out]; exact HB7.out)).below HB8.out
          rw [show Gt.ptext P ++ Gt.qtext (Q.take 0) = Gt.ptext P by simp [Gt.qtext]]
          exact h3
        have hy8 : Boxed w8 T7 9 (.string ⟨#[Gt.by_ 0]⟩) := (HB8.out.block T7 (by rw [HZ7.out]; omega)).trans HY7.out
        have hf8 : Fr T (T + 1) W4 w8 := (HF.out.trans (Fr.of (HB7.out.mono HTL.out))).trans (Fr.of (HB8.out.mono (by rw [HZ7.out]; have := HTL.out; omega)))
        have hs8 : w8.ownsRow (T7 + 1) 47 2 r Q.length (prs Q) := by have := HOW.out; rwa [HZ7.out] at this
        refine rf_outer (N := n2) (own := fun _ => False) (Kp := KT (fun k => k = T ∨ k = T7)) (encs := fun k => #[tx (Q.getD k ([], [])).1, tx (Q.getD k ([], [])).2]) rfl (by omega) (gf := 57) (lb := #[.pointer (some ⟨C, 0, none⟩)]) rfl trivial (enters_of Tryz.func57 (by kernel_rfl) rfl)
          (fun _ => rfl) (fun b hb => hb.elim)
          (fun X hX hs => by
            have := pairs1_it r Q C X.heap.size (KT (fun k => k = T ∨ k = T7)) (fun X => X.ownsRow (T7 + 1) 47 2 r Q.length (prs Q)) (by rw [HN2.out]; omega) X rfl
              (fun Y h => PS.of ⟨_, h⟩)
              (fun Y Z hk h => ⟨h.1, h.2.imp id (fun ⟨g, cap, cur, e1, e2, e3, e4⟩ => ⟨g, cap, cur, e1, e2, hk g _ _ _ e3 (by decide) (fun e => by have := HTL.out; rcases e with e | e <;> omega), e4⟩)⟩)
              (fun Y Z ht h => ⟨h.1, h.2.imp id (fun ⟨g, cap, cur, e1, e2, e3, e4⟩ => ⟨g, cap, cur, e1, e2, ht.cells e3 rfl (fun h => h), e4⟩)⟩)
              (fun Y l o o' hl hc h => ⟨h.1, h.2.imp id (fun ⟨g, cap, cur, e1, e2, e3, e4⟩ => ⟨g, cap, cur, e1, e2, (World.putObj_heap_other (fun e => by subst e; rw [hl] at e3; cases e3; cases hc)).trans e3, e4⟩)⟩)
              (fun Y Z u hk h => hk _ _ _ _ h (by decide) (fun e => by have := HTL.out; have := HLW8.out; rcases e with e | e <;> omega))
              ((hX.block _ HBX.out.lt).trans HBX.out) (hs8.belowed hX)
            rw [HN2.out] at this
            exact this.any 19)
          KT.trans (fun X o o' h2 h3 => KT.putObj o' h2 h3)
          (fun k X => ∃ p, (p = .pointer none ∨ p = .pointer (some ⟨T, 0, none⟩)) ∧ BD X T (T + 1) p (Lib.byteCells (Gt.ptext P ++ Gt.qtext (Q.take k))) ∧ Boxed X T7 9 (.string ⟨#[Gt.by_ k]⟩) ∧ Fr T (T + 1) W4 X) (fun c X => False)
          (fun k X Y hs ht => by
            obtain ⟨p, e1, e2, e3, e4⟩ := hs
            exact ⟨p, e1, e2.turn ht, ht.boxed e3 (fun h => h), e4.trans (fr_turn ht (by have := HLW8.out; have := HTL.out; omega) (Nat.le_trans (Nat.le_of_eq HZ4.out.symm) e4.size))⟩)
          (fun c X Y hs ht => hs) ⟨p, HPP.out, hbd8, hy8, hf8⟩
          (fun k b X => b.tmps.size = 45 ∧ b.defers = [] ∧ b.tmps.getD 4 undef = .pointer (some ⟨T, 0, none⟩) ∧ b.tmps.getD 7 undef = .pointer (some ⟨T7, 0, none⟩) ∧ b.tmps.getD 8 undef = tx (Q.getD k ([], [])).1 ∧ b.tmps.getD 9 undef = tx (Q.getD k ([], [])).2)
          (fun k b X Y hs ht => hs) ?assign ?body ?done ?stop
        case assign =>
          intro l' k X K hk hi hK
          gi_wp2
          exact hK _ _ (KeepsFrom.refl _ _) (KT.refl _ _) hi ⟨rfl, rfl, rfl, rfl, rfl, rfl⟩
        case body =>
          rintro l' k b X hl' ⟨r0, hr0⟩ hk ⟨p, hpp, hbd, hby, hfx⟩ ⟨e0, e1, e4, e7, e8, e9⟩
          gi_wp2_with fail
          have HXT := Lib.hid (HT.out.below (show Below W1.heap.size W1 X by rw [HTT.out]; exact HB4.out.trans (hfx.below (Nat.le_refl _) (Nat.le_succ _))))
          have HXZ := Lib.hid (show T + 1 ≤ X.heap.size from Nat.le_trans (Nat.le_of_eq HZ4.out.symm) hfx.size)
          have hQk : Q.getD k ([], []) ∈ Q := by rw [List.getD_eq_getElem?_getD, List.getElem?_eq_getElem (show k < Q.length by rw [HN2.out]; exact hk)]; exact List.getElem_mem _
          have HQL := Lib.hid (HQS.out _ hQk)
          have HQT := Lib.hid (Gt.qtext_take Q k (by rw [HN2.out]; exact hk))
          obtain ⟨⟨kl, vl⟩, hqk⟩ : ∃ q, Q.getD k ([], []) = q := ⟨_, rfl⟩
          rw [hqk] at e8 e9 HQL HQT
          simp only at e8 e9
          obtain ⟨kb, hkb⟩ : ∃ z : ByteArray, (⟨kl.toArray⟩ : ByteArray) = z := ⟨_, rfl⟩
          obtain ⟨vb, hvb⟩ : ∃ z : ByteArray, (⟨vl.toArray⟩ : ByteArray) = z := ⟨_, rfl⟩
          unfold tx at e8 e9
          rw [hkb] at e8
          rw [hvb] at e9
          have HKB := Lib.hid (show kb.data.toList = kl by rw [← hkb])
          have HVB := Lib.hid (show vb.data.toList = vl by rw [← hvb])
          have KE := Lib.hid (fun W (h : Tabs W) => tg_Encode kb W (by
            have h1 : kb.data.toList.length = kb.size := rfl
            rw [HKB.out] at h1
            have := HQL.out.1
            simp only at this
            omega) h)
          have VE := Lib.hid (fun W (h : Tabs W) => tg_Encode vb W (by
            have h1 : vb.data.toList.length = vb.size := rfl
            rw [HVB.out] at h1
            have := HQL.out.2
            simp only at this
            omega) h)
          rw [HKB.out] at KE
          rw [HVB.out] at VE
          obtain ⟨ek, hek⟩ : ∃ z : ByteArray, (⟨(Gt.enc kl).toArray⟩ : ByteArray) = z := ⟨_, rfl⟩
          obtain ⟨ev, hev⟩ : ∃ z : ByteArray, (⟨(Gt.enc vl).toArray⟩ : ByteArray) = z := ⟨_, rfl⟩
          rw [hek] at KE
          rw [hev] at VE
          have HEK := Lib.hid (show ek.data.toList = Gt.enc kl by rw [← hek])
          have HEV := Lib.hid (show ev.data.toList = Gt.enc vl by rw [← hev])
          have hks : ek.size ≤ 900 := by
            have h1 : ek.data.toList.length = ek.size := rfl
            rw [HEK.out] at h1
            have h2 := (Gt.enc_length kl).2
            have h3 := HQL.out.1
            simp only at h3
            omega
          have hvs : ev.size ≤ 900 := by
            have h1 : ev.data.toList.length = ev.size := rfl
            rw [HEV.out] at h1
            have h2 := (Gt.enc_length vl).2
            have h3 := HQL.out.2
            simp only at h3
            omega
          obtain ⟨byb, hbyb⟩ : ∃ z : ByteArray, (⟨#[Gt.by_ k]⟩ : ByteArray) = z := ⟨_, rfl⟩
          rw [hbyb] at hby
          have hbs : byb.size = 1 := by rw [← hbyb]; rfl
          have HBYB := Lib.hid hbyb
          clear hkb hvb hek hev hqk hQk hbyb
          refine region_last_in 8 txSlot (TxF byb kb ek vb ev) (by kernel_rfl) (by kernel_rfl) (by kernel_rfl) (by kernel_rfl) (by kernel_rfl) (by rw [e0]; exact txSlot_lt) (fun i j hi hj => txSlot_inj i hi j hj) TxF.below ?dst ?step ?last
          case dst =>
            intro i o hi ho
            match i, ho with
            | 0, ho | 1, ho | 2, ho | 3, ho | 4, ho | 5, ho | 6, ho | 7, ho => cases ho; rfl
            | n + 8, ho => omega
          case step =>
            intro f a' W i o hi ho hpre hbel hrest
            match i, ho with
            | 0, ho =>
              cases ho
              have q : a'.tmps[7]?.getD undef = .pointer (some ⟨T7, 0, none⟩) := ev_tmp ((hrest 7 (txSlot_ne 7 (by decide))).trans e7)
              have c7 : W.cell? ⟨T7, 0, none⟩ = some (.string byb) := Boxed.cell (t := 9) ((hbel.block T7 hby.lt).trans hby)
              exact s1_same (.string byb) (by unfold Oper.wp execOp; go_simp; all_goals ((try simp only [q]); (try go_simp); (try rw [if_neg (by omega)]); first | done | rfl | exact ⟨rfl, rfl⟩)) rfl
            | 1, ho =>
              cases ho
              have q : a'.tmps[8]?.getD undef = .string kb := ev_tmp ((hrest 8 (txSlot_ne 8 (by decide))).trans e8)
              exact s1_same (.string kb) (by unfold Oper.wp execOp; go_simp; all_goals ((try simp only [q]); (try go_simp); (try rw [if_neg (by omega)]); first | done | rfl | exact ⟨rfl, rfl⟩)) rfl
            | 2, ho =>
              cases ho
              exact call_one 36 13 _ _ _ rfl (hpre { on := 1, ground := .data } (by simp) rfl) (enters_of Tryz.func13 (by kernel_rfl) rfl) (KE.out W (HXT.out.below hbel)) (fun e w' h => ⟨_, h.1, _, rfl, rfl, h.2⟩)
            | 3, ho =>
              cases ho
              have q0 : a'.tmps[35]?.getD undef = .string byb := ev_tmp (hpre { on := 0, ground := .data } (by simp) rfl)
              have q1 : a'.tmps[37]?.getD undef = .string ek := ev_tmp (hpre { on := 2, ground := .data } (by simp) rfl)
              exact s1_same (.string (byb ++ ek)) (by unfold Oper.wp execOp; go_simp; all_goals ((try simp only [q0, q1]); (try go_simp); (try rw [if_neg (by omega)]); first | done | rfl | exact ⟨rfl, rfl⟩)) rfl
            | 4, ho =>
              cases ho
              have q0 : a'.tmps[38]?.getD undef = .string (byb ++ ek) := ev_tmp (hpre { on := 3, ground := .data } (by simp) rfl)
              have hsz1 : (byb ++ ek).size ≤ 901 := by rw [ByteArray.size_append]; omega
              exact s1_same (.string (byb ++ ek ++ (⟨#[61]⟩ : ByteArray))) (by unfold Oper.wp execOp; go_simp; all_goals ((try simp only [q0]); (try go_simp); (try rw [if_neg (by omega)]); first | done | rfl | exact ⟨rfl, rfl⟩)) rfl
            | 5, ho =>
              cases ho
              have q : a'.tmps[9]?.getD undef = .string vb := ev_tmp ((hrest 9 (txSlot_ne 9 (by decide))).trans e9)
              exact s1_same (.string vb) (by unfold Oper.wp execOp; go_simp; all_goals ((try simp only [q]); (try go_simp); (try rw [if_neg (by omega)]); first | done | rfl | exact ⟨rfl, rfl⟩)) rfl
            | 6, ho =>
              cases ho
              exact call_one 40 13 _ _ _ rfl (hpre { on := 5, ground := .data } (by simp) rfl) (enters_of Tryz.func13 (by kernel_rfl) rfl) (VE.out W (HXT.out.below hbel)) (fun e w' h => ⟨_, h.1, _, rfl, rfl, h.2⟩)
            | 7, ho =>
              cases ho
              have q0 : a'.tmps[39]?.getD undef = .string (byb ++ ek ++ (⟨#[61]⟩ : ByteArray)) := ev_tmp (hpre { on := 4, ground := .data } (by simp) rfl)
              have q1 : a'.tmps[41]?.getD undef = .string ev := ev_tmp (hpre { on := 6, ground := .data } (by simp) rfl)
              have hsz1 : (byb ++ ek ++ (⟨#[61]⟩ : ByteArray)).size ≤ 902 := by rw [ByteArray.size_append, ByteArray.size_append]; show byb.size + ek.size + 1 ≤ _; omega
              exact s1_same (.string (byb ++ ek ++ (⟨#[61]⟩ : ByteArray) ++ ev)) (by unfold Oper.wp execOp; go_simp; all_goals ((try simp only [q0, q1]); (try go_simp); (try rw [if_neg (by omega)]); first | done | rfl | exact ⟨rfl, rfl⟩)) rfl
            | n + 8, ho => omega
          case last =>
            intro vs W o ho hbel hvals
            have hdst : o.dst = some 43 := by cases ho; rfl
            have hop : o.op = Op.call { callee := .value (.func 47), args := #[.tmp 4, .tmp 42], argTypes := #[79, 9] } := by cases ho; rfl
            clear ho
            have hu4 : (fillN txSlot vs 8 b.tmps).getD 4 undef = .pointer (some ⟨T, 0, none⟩) := (fillN_get txSlot vs b.tmps (by rw [e0]; exact txSlot_lt) 8 4 (fun i hi => txSlot_ne 4 (by decide) i hi)).trans e4
            have hu7 : (fillN txSlot vs 8 b.tmps).getD 7 undef = .pointer (some ⟨T7, 0, none⟩) := (fillN_get txSlot vs b.tmps (by rw [e0]; exact txSlot_lt) 8 7 (fun i hi => txSlot_ne 7 (by decide) i hi)).trans e7
            have hu42 : (fillN txSlot vs 8 b.tmps).getD 42 undef = .string (byb ++ ek ++ (⟨#[61]⟩ : ByteArray) ++ ev) := (fillN_at txSlot vs b.tmps (by rw [e0]; exact txSlot_lt) 8 (fun i j hi hj => txSlot_inj i hi j hj) 7 (by decide)).trans (hvals 7 (by decide))
            obtain ⟨s8, hs8'⟩ : ∃ z, byb ++ ek ++ (⟨#[61]⟩ : ByteArray) ++ ev = z := ⟨_, rfl⟩
            have HS8 := Lib.hid (show s8.data.toList = Gt.by_ k :: Gt.pr (kl, vl) by
              rw [← hs8', ByteArray.data_append, Array.toList_append, ByteArray.data_append, Array.toList_append, ByteArray.data_append, Array.toList_append, HEK.out, HEV.out, ← HBYB.out]
              unfold Gt.pr
              simp)
            rw [hs8'] at hu42
            have HSS := Lib.hid (show s8.size ≤ 1000000 by
              have h1 : s8.data.toList.length = s8.size := rfl
              rw [HS8.out, List.length_cons] at h1
              have := Gt.pr_len (kl, vl) HQL.out
              omega)
            have HBL := Lib.hid (show (Lib.byteCells (Gt.ptext P ++ Gt.qtext (Q.take k))).length ≤ 1000000 by
              rw [byteCells_len, List.length_append]
              have h1 := Gt.ptext_len P HPS.out
              have h2 := Gt.qtext_len Q HQS.out k (by rw [HN2.out]; omega)
              rw [HN1.out] at h1
              omega)
            have KW := Lib.hid (builder_textT T (T + 1) p (Lib.byteCells (Gt.ptext P ++ Gt.qtext (Q.take k))) s8 W hpp (hbd.below hbel) (Nat.lt_succ_self T) (Nat.le_trans HXZ.out hbel.size) HBL.out HSS.out)
            have hsz3 : (fillN txSlot vs 8 b.tmps).size = 45 := by rw [fillN_size, e0]
            clear hs8'
            generalize hA3 : fillN txSlot vs 8 b.tmps = A3 at hu4 hu7 hu42 hsz3 ⊢
            clear hA3
            refine call_two 4 42 47 _ _ _ _ hop hu4 hu42 (enters_of Tryz.func47 (by kernel_rfl) rfl) KW.out ?_
            rintro e w' ⟨rfl, hbd', hfr', hkt', hkf'⟩
            refine ⟨_, rfl, ?_⟩
            rw [hdst]
            have hyW : Boxed w' T7 9 (.string byb) := hkt' T7 _ _ _ ((hbel.block T7 hby.lt).trans hby) (by decide) (by have := HTL.out; omega)
            have c7 := hyW.cell
            have z7 := hyW.frozen
            have HBD' := Lib.hid (show BD w' T (T + 1) (.pointer (some ⟨T, 0, none⟩)) (Lib.byteCells (Gt.ptext P ++ Gt.qtext (Q.take (k + 1)))) by
              rw [HQT.out, ← List.append_assoc, bytes_app, show Lib.byteCells (Gt.by_ k :: Gt.pr (kl, vl)) = Lib.strCells s8 by rw [strCells_is, HS8.out]]
              exact hbd')
            have HFR' := Lib.hid ((hfx.trans (Fr.of (hbel.mono HXZ.out))).trans hfr')
            have HKT' := Lib.hid (show KT (fun k => k = T ∨ k = T7) X w' from (KT.below hbel).trans (hkt'.mono (fun k h => .inl h)))
            have HKF' := Lib.hid (show KeepsFrom w8.heap.size X w' from (keeps_below hbel).trans ⟨hkf'.size, fun k o _ h1 h2 => hkf'.same k o (Nat.zero_le _) h1 h2⟩)
            have HYW := Lib.hid hyW
            obtain ⟨a2, ha2⟩ : ∃ z, ({ tmps := A3, defers := b.defers } : Act).put (some 43) (Value.tuple #[Value.int IntKind.i64 (s8.size : Int), Value.nilIface]) = z := ⟨_, rfl⟩
            rw [ha2]
            have q7 : a2.tmps[7]?.getD undef = .pointer (some ⟨T7, 0, none⟩) := by
              rw [← ha2]
              exact ev_tmp (by
                show (A3.setIfInBounds 43 _).getD 7 undef = _
                rw [getD_set _ _ _ _ (by rw [hsz3]; decide), if_neg (by decide)]
                exact hu7)
            clear ha2 hu4 hu7 hu42 hvals KW hbd' hfr' hkt' hkf' hyW e4 e7 e8 e9 hbd hfx hby
            gi_wp2_with fail
            refine ⟨HKF'.out.trans (keepsFrom_of0 (keeps_set HYW.out _ _) _), HKT'.out.trans (KT.setCell _ _ _ _ (.inr rfl)), .inr ⟨HBD'.out.setBox HYW.out (by have := HTL.out; omega) _, HYW.out.set _, HFR'.out.trans (Fr.of ((Below.refl _ _).setCell (p := ⟨T7, 0, none⟩) HTL.out _))⟩⟩
        case done =>
          rintro D X hD ⟨p, hpp, hbd, hby, hfx⟩ hK
          have hXZ : T + 1 ≤ X.heap.size := Nat.le_trans (Nat.le_of_eq HZ4.out.symm) hfx.size
          have hbT : Below T W1 X := HB4.out.trans (hfx.below (Nat.le_refl _) (Nat.le_succ _))
          have hSX := (hbT.block (w.heap.size + 1) (by have := HTW.out; omega)).trans HS.out
          have hEX := (hbT.block (w.heap.size + 2) (by have := HTW.out; omega)).trans HE.out
          have KS := Lib.hid (builder_stringK T (T + 1) p (Gt.ptext P ++ Gt.qtext (Q.take n2)) X hpp hbd (Nat.lt_succ_self T) hXZ)
          rw [List.take_of_length_le (by rw [HN2.out]; omega)] at KS
          have HTO := Lib.hid (show txtOut P Q = .tuple #[.string ⟨(Gt.ptext P ++ Gt.qtext Q).toArray⟩, .int .i64 0] by unfold txtOut; rw [HR.out]; rfl)
          obtain ⟨sb, hsb⟩ : ∃ z : ByteArray, (⟨(Gt.ptext P ++ Gt.qtext Q).toArray⟩ : ByteArray) = z := ⟨_, rfl⟩
          rw [hsb] at KS HTO
          have HSX := Lib.hid hSX
          have HEX := Lib.hid hEX
          have HBT := Lib.hid hbT
          have HKD := Lib.hid hK
          have HTD := Lib.hid (show T + 1 ≤ D by have := HLW8.out; have := HTL.out; omega)
          clear hbd hby hfx hSX hEX hbT hsb hK
          go_wp2_with fail
          refine KS.out.mono ?_
          rintro e Y ⟨rfl, hbY, hoK⟩
          have hSY := (hbY.block (w.heap.size + 1) (by have := HTW.out; omega)).trans HSX.out
          have hEY := (hbY.block (w.heap.size + 2) (by have := HTW.out; omega)).trans HEX.out
          have HDY := Lib.hid (show Y.heap[D]? = some (.deferred (some [])) from hoK D _ HKD.out (fun e => by have := HTD.out; have := Option.some.inj e; omega) (fun c fz e => by cases e))
          have HBY := Lib.hid (show Below w.heap.size w Y from HB.out.trans ((HBT.out.trans hbY).mono (by rw [HTW.out]; omega)))
          have s0 : Y.cell? ⟨w.heap.size + 1, 0, none⟩ = some (.string ⟨#[]⟩) := by simp [World.cell?, hSY]
          have s1 : Y.frozen? ⟨w.heap.size + 1, 0, none⟩ = false := frozen_of_row _ _ _ _ _ hSY
          have r0 : Y.cell? ⟨w.heap.size + 2, 0, none⟩ = some (.int .i64 0) := by simp [World.cell?, hEY]
          have r1 : Y.frozen? ⟨w.heap.size + 2, 0, none⟩ = false := frozen_of_row _ _ _ _ _ hEY
          have HSY := Lib.hid hSY
          have HEY := Lib.hid hEY
          clear hbY hoK hSY hEY KS
          go_wp2_with fail
          obtain ⟨Z, hZ⟩ : ∃ Z, (Y.setCell ⟨w.heap.size + 1, 0, none⟩ (.string sb)).setCell ⟨w.heap.size + 1 + 1, 0, none⟩ (.int .i64 0) = Z := ⟨_, rfl⟩
          rw [hZ]
          have hDZ : Z.heap[D]? = some (.deferred (some [])) := by
            rw [← hZ, Below.heap_setCell _ _ _ _ (by have := HTD.out; have := HTW.out; simp; omega), Below.heap_setCell _ _ _ _ (by have := HTD.out; have := HTW.out; simp; omega)]
            exact HDY.out
          have hSZ : Z.heap[w.heap.size + 1]? = some (.cells #[.string sb] 9 (0, 0)) := by
            rw [← hZ, Below.heap_setCell _ _ _ _ (by simp)]; exact heap_setCell_same _ _ 0 _ _ _ HSY.out
          have hEZ : Z.heap[w.heap.size + 2]? = some (.cells #[.int .i64 0] 27 (0, 0)) := by
            rw [← hZ]
            exact heap_setCell_same _ _ 0 _ _ _ ((Below.heap_setCell _ _ _ _ (by simp)).trans HEY.out)
          have HBZ := Lib.hid (show Below w.heap.size w Z by rw [← hZ]; exact (HBY.out.setCell (p := ⟨w.heap.size + 1, 0, none⟩) (Nat.le_succ _) _).setCell (p := ⟨w.heap.size + 1 + 1, 0, none⟩) (by simp; omega) _)
          clear hZ s0 s1 r0 r1
          refine ⟨by simp, .inl ⟨_, _, rfl, run_takeDeferred hDZ, ?_⟩⟩
          have hDs : w.heap.size + 1 ≠ D := by have := HTD.out; have := HTW.out; omega
          have hDe : w.heap.size + 2 ≠ D := by have := HTD.out; have := HTW.out; omega
          obtain ⟨V, hV⟩ : ∃ V, Z.putObj D (.deferred none) = V := ⟨_, rfl⟩
          rw [hV]
          have d0 : V.cell? ⟨w.heap.size + 1, 0, none⟩ = some (.string sb) := by simp [World.cell?, ← hV, World.putObj_heap_other hDs, hSZ]
          have d1 : V.cell? ⟨w.heap.size + 2, 0, none⟩ = some (.int .i64 0) := by simp [World.cell?, ← hV, World.putObj_heap_other hDe, hEZ]
          have HBV := Lib.hid (show Below w.heap.size w V by
            rw [← hV]
            exact HBZ.out.trans ⟨rfl, rfl, rfl, by simp, fun k hk => World.putObj_heap_other (by have := HTD.out; have := HTW.out; omega)⟩)
          clear hV
          refine ⟨by simp, .inr ⟨fun _ => by omega, _, _, 24, #[.pointer (some ⟨w.heap.size + 2, 0, none⟩), .func (.func 50) #[] #[.pointer (some ⟨w.heap.size + 1, 0, none⟩)]], rfl, by simp [go_sem], fun _ _ => trivial, ?_⟩⟩
          refine CallsDIn.mono (tg_caught_idle_in 19 _ _ _) ?_
          rintro e u' w'' ⟨rfl, rfl, rfl⟩
          simp [LeavesInM, LeavesIn, settle, results, Tryz.results17, go_sem, d0, d1]
          exact ⟨HTO.out.symm, HBV.out⟩
        case stop =>
          rintro D c X hD h
          exact h.elim
  · rw [decide_eq_false hn]
    refine (tg_must_no 2 W1).mono ?_
    rintro e w2 ⟨rfl, hw2⟩
    subst w2
    exact text_door P Q w W1 HB.out ⟨#[]⟩ HS.out HE.out (by
      have : P = [] := List.length_eq_zero_iff.1 (by rw [HN1.out]; omega)
      rw [this]; rfl) _ _ _ _ _ _ _ _ _ _ _ _ _ _ _ _ _ _ _ _ _ _ _ _ _ _ _ _ _ _ _ _ _ _ _ _ _ _ _ _ _ _ _
end Go.Proofs.YtcfhenekoaegaaaGreatDoor

/- The reference's plain, Encode. -/
namespace Go.Proofs.YtcfhenekoaegaaaGreatDoor
set_option linter.unusedVariables false
set_option linter.unusedSimpArgs false
open Go.RowKit Go.Shelf
set_option maxHeartbeats 4000000
set_option maxRecDepth 100000
theorem ref_plain (x : Int) (w : World) (h0 : 0 ≤ x) (h1 : x < 256) :
    Calls Tryz.prog 49 #[.int .u8 x] w fun e w' => e = .returned (.bool (Gt.plainB x)) ∧ w' = w := by
  have HP := Lib.hid (show Gt.plainB x = (decide (97 ≤ x ∧ x ≤ 122) || decide (65 ≤ x ∧ x ≤ 90) || decide (48 ≤ x ∧ x ≤ 57) || x == 45 || x == 46 || x == 95 || x == 126) from rfl)
  go_enter Tryz.func49, Tryz.ntmps49
  go_wp2_with fail
  all_goals
    go_ret
    refine ⟨?_, rfl⟩
    refine congrArg (fun b => Ending.returned (Value.bool b)) (Bool.eq_iff_iff.2 ?_)
    first
      | decide
      | (unfold Gt.plainB; simp only [Bool.or_eq_true, decide_eq_true_eq, beq_iff_eq, true_iff, iff_true]; omega)
      | (unfold Gt.plainB; simp only [Bool.or_eq_true, decide_eq_true_eq, beq_iff_eq]; constructor <;> intro <;> omega)
theorem hexU_slice (r : Nat) (h : r < 16) (w : World) : (Instr.slice 9 (.string ⟨#[48, 49, 50, 51, 52, 53, 54, 55, 56, 57, 65, 66, 67, 68, 69, 70]⟩) (some (.int .u8 (r : Int))) (some (.int .u8 ((r : Int) + 1))) none).run Tryz.prog w = .ok (.string ⟨#[Gt.up r]⟩) w :=
  match r, h with
  | 0, _ => by kernel_rfl
  | 1, _ => by kernel_rfl
  | 2, _ => by kernel_rfl
  | 3, _ => by kernel_rfl
  | 4, _ => by kernel_rfl
  | 5, _ => by kernel_rfl
  | 6, _ => by kernel_rfl
  | 7, _ => by kernel_rfl
  | 8, _ => by kernel_rfl
  | 9, _ => by kernel_rfl
  | 10, _ => by kernel_rfl
  | 11, _ => by kernel_rfl
  | 12, _ => by kernel_rfl
  | 13, _ => by kernel_rfl
  | 14, _ => by kernel_rfl
  | 15, _ => by kernel_rfl
  | n + 16, h => absurd h (by omega)
theorem ref_Encode (s : ByteArray) (w : World) (hs : s.size ≤ 100000) :
    Calls Tryz.prog 14 #[.string s] w fun e w' => e = .returned (.string ⟨(Gt.enc s.data.toList).toArray⟩) ∧ Below w.heap.size w w' := by
  have HL := Lib.hid (show s.data.toList.length = s.size from rfl)
  go_enter Tryz.func14, Tryz.ntmps14
  go_wp2_with fail
  go_loopw [3, 4] (fun t i wr => ∃ (k : Nat) (T : ByteArray), k ≤ s.size ∧ i = .int .i64 k ∧ t = .string T ∧ T.data.toList = Gt.enc (s.data.toList.take k) ∧ Below w.heap.size w wr)
    (fun _ i _ => s.size - (intOf i).toNat)
  case atStart => exact ⟨0, ⟨#[]⟩, Nat.zero_le _, rfl, rfl, rfl, Below.refl _ _⟩
  case round =>
    obtain ⟨k, T, hk, rfl, rfl, hT, hbl⟩ := hrel
    have HT := Lib.hid hT
    have HBL := Lib.hid hbl
    have hTs : T.size ≤ 300000 := by
      have h1 : T.data.toList.length = T.size := rfl
      have h2 := (Gt.enc_length (s.data.toList.take k)).2
      rw [hT] at h1
      rw [List.length_take] at h2
      omega
    clear hT hbl
    by_cases hlt : k < s.size
    · have HKL := Lib.hid (show k < s.data.toList.length from hlt)
      obtain ⟨c, hcc⟩ : ∃ c, s.data.toList[k]'HKL.out = c := ⟨_, rfl⟩
      have HTK := Lib.hid (show s.data.toList.take (k + 1) = s.data.toList.take k ++ [c] by rw [List.take_succ_eq_append_getElem HKL.out, hcc])
      obtain ⟨x, hx⟩ : ∃ x : Int, (c.toNat : Int) = x := ⟨_, rfl⟩
      have hsx : ((s[k]'hlt).toNat : Int) = x := by rw [← hx, ← hcc]; rfl
      have HC := Lib.hid hcc
      have HX := Lib.hid hx
      have hr1 : (0 : Int) ≤ x := by omega
      have hr2 : x < 256 := by have := c.toNat_lt; omega
      clear hx hcc
      have K := Lib.hid (ref_plain x wr hr1 hr2)
      cases hp : Gt.plainB x with
      | true =>
        rw [hp] at K
        have HE1 := Lib.hid (show Gt.enc1 c = [c] by unfold Gt.enc1; rw [HX.out, if_pos hp])
        clear hp
        go_wp2_with fail
        refine K.out.mono ?_
        rintro e w2 ⟨rfl, hw2⟩
        subst w2
        have HN := Lib.hid (show (T ++ s.extract k (k + 1)).data.toList = Gt.enc (s.data.toList.take (k + 1)) by
          rw [HTK.out, Gt.enc_snoc, HE1.out, ← HT.out, ByteArray.data_append, Array.toList_append, Lib.extract_data, Nat.add_sub_cancel_left, Gt.drop1 _ _ HKL.out, HC.out]
          rfl)
        go_wp2_with fail
        go_roundw
        case rel => exact ⟨k + 1, _, hlt, by go_num, rfl, HN.out, HBL.out⟩
        case measure => simp [intOf]; omega
      | false =>
        rw [hp] at K
        have HE1 := Lib.hid (show Gt.enc1 c = [37, Gt.up (c.toNat / 16), Gt.up (c.toNat % 16)] by unfold Gt.enc1; rw [HX.out, hp]; rfl)
        clear hp
        obtain ⟨a, ha⟩ : ∃ a, c.toNat / 16 = a := ⟨_, rfl⟩
        obtain ⟨d, hd⟩ : ∃ d, c.toNat % 16 = d := ⟨_, rfl⟩
        have HXA := Lib.hid (show x / 16 = (a : Int) by have := HX.out; omega)
        have HXD := Lib.hid (show x % 16 = (d : Int) by have := HX.out; omega)
        have ha16 : a < 16 := by have := c.toNat_lt; omega
        have hd16 : d < 16 := by omega
        have hsa := hexU_slice a ha16
        have hsd := hexU_slice d hd16
        have hai : (a : Int) ≤ 15 := by omega
        have hdi : (d : Int) ≤ 15 := by omega
        rw [ha, hd] at HE1
        have HN := Lib.hid (show (T ++ ⟨#[37]⟩ ++ ⟨#[Gt.up a]⟩ ++ ⟨#[Gt.up d]⟩ : ByteArray).data.toList = Gt.enc (s.data.toList.take (k + 1)) by
          rw [HTK.out, Gt.enc_snoc, HE1.out, ← HT.out]
          simp [ByteArray.data_append])
        clear ha hd
        go_wp2_with fail
        refine K.out.mono ?_
        rintro e w2 ⟨rfl, hw2⟩
        subst w2
        go_wp2_with fail
        go_quiet (fail)
        obtain ⟨w2, hw2⟩ : ∃ W, wr.drewN nq = W := ⟨_, rfl⟩
        have HB2 := Lib.hid (show Below w.heap.size w w2 by rw [← hw2]; exact below_drewN HBL.out _)
        rw [hw2]
        clear hw2
        rw [HXA.out, HXD.out]
        go_wp2_with fail
        go_quiet (fail)
        go_wp2_with fail
        have HB3 := Lib.hid (below_drewN HB2.out nq)
        go_roundw
        case rel => exact ⟨k + 1, _, hlt, by go_num, rfl, HN.out, HB3.out⟩
        case measure => simp [intOf]; omega
    · have HTK := Lib.hid (show s.data.toList.take k = s.data.toList from List.take_of_length_le (by rw [HL.out]; omega))
      rw [HTK.out] at HT
      have HF := Lib.hid (show (⟨(Gt.enc s.data.toList).toArray⟩ : ByteArray) = T by apply ByteArray.ext; apply Array.ext'; exact HT.out.symm)
      go_wp2
      go_ret
      exact ⟨by rw [HF.out]; rfl, HBL.out⟩
end Go.Proofs.YtcfhenekoaegaaaGreatDoor

/- A region that draws its order and has guarded operations: by what its slots hold; which operations stand is decided ahead. -/
namespace Go.Proofs.YtcfhenekoaegaaaGreatDoor
set_option linter.unusedVariables false
set_option linter.unusedSimpArgs false
open Go.RowKit
set_option maxHeartbeats 2000000
def backG (md : Region.Mode) (ops : Array Oper) : Bool := (List.range ops.size).all fun i => ((ops[i]?).map fun o => (match o.guard with | none => true | some (g, _) => o.after.any fun e => e.on == g && Region.binds md e) && o.after.all fun e => !Region.binds md e || decide (e.on < i)).getD true
section
variable {P : Program} {ops : Array Oper} {Q : Exit → Act → World → Prop} {md : Region.Mode}
theorem back_ofG (h : backG md ops = true) {i : Nat} {o : Oper} (ho : ops[i]? = some o) : (∀ g b, o.guard = some (g, b) → ∃ e ∈ o.after, e.on = g ∧ Region.binds md e = true) ∧ ∀ e ∈ o.after, Region.binds md e = true → e.on < i := by
  have hi := (Array.getElem?_eq_some_iff.1 ho).1
  have h1 := List.all_eq_true.1 h i (List.mem_range.2 hi)
  rw [ho] at h1
  simp only [Option.map_some, Option.getD_some, Bool.and_eq_true] at h1
  refine ⟨fun g b hgb => ?_, fun e he hbd => ?_⟩
  · have h2 := h1.1
    rw [hgb] at h2
    obtain ⟨k, hk, h3⟩ := Array.any_eq_true.1 h2
    rw [Bool.and_eq_true, beq_iff_eq] at h3
    exact ⟨_, Array.getElem_mem hk, h3.1, h3.2⟩
  · have := (Array.all_eq_true_iff_forall_mem.1 h1.2) e he
    rw [hbd] at this
    simpa using this
theorem ready_allG (hb : backG md ops = true) {listed : Array Bool} (hs : listed.size = ops.size) (h : Region.ready md ops listed = []) : ∀ i, i < ops.size → listed.getD i false = true := by
  intro i
  induction i using Nat.strongRecOn with
  | _ i ih =>
    intro hi
    by_cases hl : listed.getD i false = true
    · exact hl
    · exfalso
      have hj : i < listed.size := by omega
      have hm : i ∈ Region.ready md ops listed := by
        unfold Region.ready
        refine List.mem_filter.2 ⟨List.mem_range.2 hi, ?_⟩
        simp only [Bool.and_eq_true, Array.getElem?_eq_getElem hi, Option.map_some, Option.getD_some]
        refine ⟨?_, Array.all_eq_true_iff_forall_mem.2 fun e he => ?_⟩
        · simp only [Array.getD, hj, dite_true] at hl ⊢
          simpa using hl
        · cases hbd : Region.binds md e with
          | false => rfl
          | true =>
            have h1 := (back_ofG hb (Array.getElem?_eq_getElem hi)).2 e he hbd
            rw [ih e.on h1 (by omega)]
            simp
      rw [h] at hm
      cases hm
theorem wpAny_invG (hb : backG md ops = true) (Inv : (Nat → Bool) → Act → World → Prop)
    (hstep : ∀ (f : Nat → Bool) (a : Act) (w : World) (i : Nat) (o : Oper), ops[i]? = some o → f i = false → (∀ e ∈ o.after, Region.binds md e = true → f e.on = true) → Inv f a w →
      if Region.wanted o (yielded ops a.tmps) then o.wp P a w (Inv (fun j => if j = i then true else f j)) Q else Inv (fun j => if j = i then true else f j) (a.put o.dst undef) w)
    (hdone : ∀ (f : Nat → Bool) (a : Act) (w : World), (∀ i, i < ops.size → f i = true) → Inv f a w → Q .normal a w) :
    ∀ (fuel : Nat) (listed : Array Bool) (a : Act) (w : World), listed.size = ops.size → listed.toList.count false ≤ fuel → Inv (fun i => listed.getD i false) a w → wpAny P md ops Q fuel listed a w := by
  intro fuel
  induction fuel with
  | zero =>
    intro listed a w hs hc hI
    have hr : Region.ready md ops listed = [] := by
      cases hr : Region.ready md ops listed with
      | nil => rfl
      | cons i r =>
        obtain ⟨o, ho, hl, hi, _⟩ := ready_mem (md := md) hs (i := i) (by rw [hr]; exact List.mem_cons_self)
        have h1 : false ∈ listed.toList := by
          simp only [Array.getD, hi, dite_true] at hl
          have h2 : listed[i] ∈ listed.toList := Array.mem_toList_iff.2 (Array.getElem_mem hi)
          have h3 : listed[i] = false := hl
          rwa [h3] at h2
        have := List.count_pos_iff.2 h1
        omega
    exact ⟨hr, hdone _ a w (ready_allG hb hs hr) hI⟩
  | succ fuel ih =>
    intro listed a w hs hc hI
    refine ⟨fun hr => hdone _ a w (ready_allG hb hs hr) hI, fun i hi => ?_⟩
    obtain ⟨o, ho, hl, hil, hpre⟩ := ready_mem hs hi
    have h1 := hstep _ a w i o ho hl hpre hI
    have hnext : ∀ a' w', Inv (fun j => if j = i then true else listed.getD j false) a' w' → wpAny P md ops Q fuel (listed.setIfInBounds i true) a' w' := by
      intro a' w' hI'
      refine ih _ a' w' (by simp [hs]) ?_ ?_
      · have h3 : listed.toList[i]'(by simpa using hil) = false := by
          simp only [Array.getD, hil, dite_true] at hl
          simpa using hl
        rw [Array.toList_setIfInBounds, List.count_set (h := by simpa using hil), h3]
        have h4 : 0 < listed.toList.count false := List.count_pos_iff.2 (by rw [← h3]; exact List.getElem_mem _)
        rw [if_pos (by rfl), if_neg (by decide)]
        omega
      · refine cast (congrArg (fun g => Inv g a' w') (funext fun j => ?_)) hI'
        by_cases hj : j = i
        · subst hj
          simp [Array.getD, hil]
        · rw [if_neg hj]
          simp only [Array.getD, Array.size_setIfInBounds]
          by_cases hjl : j < listed.size
          · simp [hjl, Array.getElem_setIfInBounds, Ne.symm hj]
          · simp [hjl]
    unfold wpOp
    simp only [ho]
    split
    · rename_i hw
      rw [if_pos hw] at h1
      exact .inl (Oper.wp_mono (fun a' w' hI' => hnext a' w' hI') h1)
    · rename_i hw
      rw [if_neg hw] at h1
      exact hnext _ _ h1
theorem region_invG {id : Nat} {a : Act} {w : World} (hm : P.follows .mixedOrders = true) (hb : backG .any ops = true) (Inv : (Nat → Bool) → Act → World → Prop) (h0 : Inv (fun _ => false) a w.drew)
    (hstep : ∀ (f : Nat → Bool) (a : Act) (w : World) (i : Nat) (o : Oper), ops[i]? = some o → f i = false → (∀ e ∈ o.after, Region.binds .any e = true → f e.on = true) → Inv f a w →
      if Region.wanted o (yielded ops a.tmps) then o.wp P a w (Inv (fun j => if j = i then true else f j)) Q else Inv (fun j => if j = i then true else f j) (a.put o.dst undef) w)
    (hdone : ∀ (f : Nat → Bool) (a : Act) (w : World), (∀ i, i < ops.size → f i = true) → Inv f a w → Q .normal a w) : (Code.region id ops true).wp P Q a w := by
  refine wp_region_any hm (wpAny_invG hb Inv hstep hdone _ _ a _ (by simp) ?_ ?_)
  · refine Nat.le_trans List.count_le_length ?_
    simp
  · refine cast (congrArg (fun g => Inv g a w.drew) (funext fun j => ?_)) h0
    by_cases hj : j < ops.size <;> simp [Array.getD, hj]
/-- all slots are filled; sel: which operations stand; an operation that does not stand leaves undef -/
theorem region_slotsG {id : Nat} {a0 : Act} {w0 : World} (slot : Nat → Nat) (F : Nat → World → Value → Prop) (sel : Nat → Bool) (hm : P.follows .mixedOrders = true) (hb : backG .any ops = true)
    (hs : ∀ i, slot i < a0.tmps.size) (hinj : ∀ i j, i < ops.size → j < ops.size → slot i = slot j → i = j) (hF : ∀ i w w' v, F i w v → Below w.heap.size w w' → F i w' v)
    (hdst : ∀ i o, ops[i]? = some o → o.dst = some (slot i))
    (hgu : ∀ i o g b, ops[i]? = some o → o.guard = some (g, b) → ∀ w v, F g w v → v = .bool (if sel i then b else !b))
    (hng : ∀ i o, ops[i]? = some o → o.guard = none → sel i = true)
    (hskip : ∀ i w, i < ops.size → sel i = false → F i w undef)
    (hstep : ∀ (f : Nat → Bool) (a : Act) (w : World) (i : Nat) (o : Oper), ops[i]? = some o → sel i = true → (∀ e ∈ o.after, Region.binds .any e = true → F e.on w (a.tmps.getD (slot e.on) undef)) → Below w0.heap.size w0 w →
      (∀ j, (∀ i, i < ops.size → slot i ≠ j) → a.tmps.getD j undef = a0.tmps.getD j undef) → o.wp P a w (fun a' w' => ∃ v, a' = a.put o.dst v ∧ F i w' v ∧ Below w.heap.size w w') Q)
    (hdone : ∀ (vs : Nat → Value) (w : World), Below w0.heap.size w0 w → (∀ i, i < ops.size → F i w (vs i)) → Q .normal { a0 with tmps := fillN slot vs ops.size a0.tmps } w) : (Code.region id ops true).wp P Q a0 w0 := by
  refine region_invG hm hb (Stand a0 w0 ops.size slot F) ⟨rfl, rfl, fun _ _ => rfl, ⟨rfl, rfl, rfl, Nat.le_refl _, fun _ _ => rfl⟩, fun _ _ h => by cases h⟩ ?_ ?_
  · intro f a w i o ho hf hpre hI
    have hi := (Array.getElem?_eq_some_iff.1 ho).1
    have hsl : slot i < a.tmps.size := by rw [hI.size]; exact hs i
    have hput : ∀ w' v, F i w' v → Below w.heap.size w w' → Stand a0 w0 ops.size slot F (fun j => if j = i then true else f j) (a.put o.dst v) w' := by
      intro w' v hv hbw
      rw [hdst i o ho]
      refine ⟨hI.defers, by rw [← hI.size]; exact Array.size_setIfInBounds .., fun j hj => ?_, hI.bel.trans (hbw.mono hI.bel.size), fun j hj hfj => ?_⟩
      · show (a.tmps.setIfInBounds (slot i) v).getD j undef = _
        rw [getD_set _ _ _ _ hsl, if_neg (Ne.symm (hj i hi))]
        exact hI.rest j hj
      · show F j w' ((a.tmps.setIfInBounds (slot i) v).getD (slot j) undef)
        rw [getD_set _ _ _ _ hsl]
        by_cases hji : j = i
        · subst hji; rw [if_pos rfl]; exact hv
        · rw [if_neg (fun e => hji (hinj j i hj hi e))]
          have h2 : f j = true := by simpa [hji] using hfj
          exact hF j w w' _ (hI.have_ j hj h2) hbw
    have hwant : Region.wanted o (yielded ops a.tmps) = sel i := by
      unfold Region.wanted
      cases hg : o.guard with
      | none => exact (hng i o ho hg).symm
      | some gb =>
        obtain ⟨g, b⟩ := gb
        obtain ⟨e, he, heg, hbd⟩ := (back_ofG hb ho).1 g b hg
        have hgi : g < i := by rw [← heg]; exact (back_ofG hb ho).2 e he hbd
        have hfg : f g = true := by rw [← heg]; exact hpre e he hbd
        have hv := hgu i o g b ho hg w _ (hI.have_ g (by omega) hfg)
        have hsg : slot g < a.tmps.size := by rw [hI.size]; exact hs g
        have hy : yielded ops a.tmps g = some (if sel i then b else !b) := by
          unfold yielded
          rw [Array.getElem?_eq_getElem (show g < ops.size by omega), Option.bind_some, hdst g _ (Array.getElem?_eq_getElem (by omega)), Option.bind_some, Array.getElem?_eq_getElem hsg]
          rw [Array.getD_eq_getD_getElem?, Array.getElem?_eq_getElem hsg, Option.getD_some] at hv
          rw [hv]
        show (yielded ops a.tmps g == some b) = sel i
        rw [hy]
        cases sel i <;> cases b <;> rfl
    rw [hwant]
    cases hsel : sel i with
    | true =>
      rw [if_pos rfl]
      refine Oper.wp_mono ?_ (hstep f a w i o ho hsel (fun e he hbd => hI.have_ e.on (by have := (back_ofG hb ho).2 e he hbd; omega) (hpre e he hbd)) hI.bel hI.rest)
      rintro a' w' ⟨v, rfl, hv, hbw⟩
      exact hput w' v hv hbw
    | false =>
      rw [if_neg (by decide)]
      exact hput w undef (hskip i w hi hsel) (Below.refl _ _)
  · intro f a w hall hI
    have e : a = { a0 with tmps := fillN slot (fun i => a.tmps.getD (slot i) undef) ops.size a0.tmps } := by
      have h1 : a.tmps = fillN slot (fun i => a.tmps.getD (slot i) undef) ops.size a0.tmps := by
        refine ext_getD (by rw [fillN_size, hI.size]) (fun j => ?_)
        by_cases hj : ∃ i, i < ops.size ∧ slot i = j
        · obtain ⟨i, hi, rfl⟩ := hj
          rw [fillN_at slot _ _ hs _ hinj i hi]
        · rw [fillN_get slot _ _ hs _ j (fun i hi e => hj ⟨i, hi, e⟩), hI.rest j (fun i hi e => hj ⟨i, hi, e⟩)]
      obtain ⟨t, d⟩ := a
      have h2 := hI.defers
      simp only at h1 h2
      rw [← h1, h2]
    rw [e]
    exact hdone _ w hI.bel (fun i hi => hI.have_ i hi (hall i hi))
end
end Go.Proofs.YtcfhenekoaegaaaGreatDoor

/- A drawn region whose last operation waits for all others, where the world is told by a relation of its own. -/
namespace Go.Proofs.YtcfhenekoaegaaaGreatDoor
set_option linter.unusedVariables false
set_option linter.unusedSimpArgs false
open Go.RowKit
section
variable {P : Program} {ops : Array Oper} {Q : Exit → Act → World → Prop}
theorem region_last2 {id : Nat} {a0 : Act} {w0 : World} (m : Nat) (slot : Nat → Nat) (F : Nat → World → Value → Prop) (T : (Nat → Bool) → World → Prop) (hm : P.follows .mixedOrders = true) (hb : backB .any ops = true)
    (hsz : ops.size = m + 1) (hanc : ((List.range m).all fun j => (ancOf .any ops m m).contains j) = true)
    (hs : ∀ i, slot i < a0.tmps.size) (hinj : ∀ i j, i < m → j < m → slot i = slot j → i = j) (h0 : T (fun _ => false) w0.drew)
    (hdst : ∀ i o, i < m → ops[i]? = some o → o.dst = some (slot i))
    (hstep : ∀ (f : Nat → Bool) (a : Act) (w : World) (i : Nat) (o : Oper), i < m → ops[i]? = some o → f i = false → (∀ e ∈ o.after, Region.binds .any e = true → f e.on = true ∧ F e.on w (a.tmps.getD (slot e.on) undef)) → T f w →
      (∀ j, (∀ i, i < m → slot i ≠ j) → a.tmps.getD j undef = a0.tmps.getD j undef) →
      o.wp P a w (fun a' w' => ∃ v, a' = a.put o.dst v ∧ F i w' v ∧ T (fun j => if j = i then true else f j) w' ∧ ∀ j v', f j = true → F j w v' → F j w' v') Q)
    (hlast : ∀ (f : Nat → Bool) (vs : Nat → Value) (w : World) (o : Oper), ops[m]? = some o → (∀ i, i < m → f i = true) → T f w → (∀ i, i < m → F i w (vs i)) →
      o.wp P { a0 with tmps := fillN slot vs m a0.tmps } w (fun a' w' => Q .normal a' w') Q) :
    (Code.region id ops true).wp P Q a0 w0 := by
  refine region_inv hm hb (fun f a w => ShutF .any ops f ∧ (f m = false → Stand2 a0 m slot F T f a w) ∧ (f m = true → Q .normal a w))
    ⟨(fun i h => by cases h), (fun _ => ⟨rfl, rfl, (fun _ _ => rfl), (fun _ _ _ => rfl), h0, (fun _ _ h => by cases h)⟩), (fun h => by cases h)⟩ ?_ ?_
  · rintro f a w i o ho hf hpre ⟨hc, h1, h2⟩
    have hi := (Array.getElem?_eq_some_iff.1 ho).1
    have hee := edges_of ho hpre
    have hc' : ShutF .any ops (fun j => if j = i then true else f j) := by
      intro x hx y hy
      show (if y = i then true else f y) = true
      by_cases hyi : y = i
      · rw [if_pos hyi]
      · rw [if_neg hyi]
        by_cases hxi : x = i
        · subst hxi; exact hee y hy
        · exact hc x (by simpa [hxi] using hx) y hy
    have hpres : ∀ {g : Nat → Bool}, ShutF .any ops g → (∀ j ∈ edgesOf .any ops m, g j = true) → ∀ j, j < m → g j = true := fun hg he j hj => by
      have h4 := List.all_eq_true.1 hanc j (List.mem_range.2 hj)
      exact anc_true hg m m he j (by simpa using h4)
    by_cases him : i = m
    · subst him
      have hI := h1 hf
      have hall := hpres hc hee
      have e : a = { a0 with tmps := fillN slot (fun j => a.tmps.getD (slot j) undef) i a0.tmps } := by
        have h5 : a.tmps = fillN slot (fun j => a.tmps.getD (slot j) undef) i a0.tmps := by
          refine ext_getD (by rw [fillN_size, hI.size]) (fun j => ?_)
          by_cases hj : ∃ k, k < i ∧ slot k = j
          · obtain ⟨k, hk, rfl⟩ := hj
            rw [fillN_at slot _ _ hs _ hinj k hk]
          · rw [fillN_get slot _ _ hs _ j (fun k hk e => hj ⟨k, hk, e⟩), hI.rest j (fun k hk e => hj ⟨k, hk, e⟩)]
        obtain ⟨t, d⟩ := a
        have h6 := hI.defers
        simp only at h5 h6
        rw [← h5, h6]
      have h7 := hlast f (fun j => a.tmps.getD (slot j) undef) w o ho hall hI.told (fun j hj => hI.have_ j hj (hall j hj))
      rw [← e] at h7
      exact Oper.wp_mono (fun a' w' hT => ⟨hc', fun h => by simp at h, fun _ => hT⟩) h7
    · have hlt : i < m := by omega
      have hfm : f m = false := by
        cases hfm : f m with
        | false => rfl
        | true =>
          have := hpres hc (hc m hfm) i hlt
          rw [hf] at this
          cases this
      have hI := h1 hfm
      refine Oper.wp_mono ?_ (hstep f a w i o hlt ho hf (fun e he hbd => ⟨hpre e he hbd, hI.have_ e.on (by have := (back_of hb ho).2 e he hbd; omega) (hpre e he hbd)⟩) hI.told hI.rest)
      rintro a' w' ⟨v, rfl, hv, ht, hst⟩
      rw [hdst i o hlt ho]
      have hsl : slot i < a.tmps.size := by rw [hI.size]; exact hs i
      refine ⟨hc', fun _ => ⟨hI.defers, by rw [← hI.size]; exact Array.size_setIfInBounds .., fun j hj => ?_, fun j hj hfj => ?_, ht, fun j hj hfj => ?_⟩, fun h => ?_⟩
      · show (a.tmps.setIfInBounds (slot i) v).getD j undef = _
        rw [getD_set _ _ _ _ hsl, if_neg (Ne.symm (hj i hlt))]
        exact hI.rest j hj
      · show (a.tmps.setIfInBounds (slot i) v).getD (slot j) undef = _
        have hji : j ≠ i := fun e => by simp [e] at hfj
        rw [getD_set _ _ _ _ hsl, if_neg (fun e => hji (hinj j i hj hlt e))]
        exact hI.yet j hj (by simpa [hji] using hfj)
      · show F j w' ((a.tmps.setIfInBounds (slot i) v).getD (slot j) undef)
        rw [getD_set _ _ _ _ hsl]
        by_cases hji : j = i
        · subst hji; rw [if_pos rfl]; exact hv
        · rw [if_neg (fun e => hji (hinj j i hj hlt e))]
          have h2 : f j = true := by simpa [hji] using hfj
          exact hst j _ h2 (hI.have_ j hj h2)
      · have h' : (if m = i then true else f m) = true := h
        rw [if_neg (Ne.symm him), hfm] at h'; cases h'
  · rintro f a w hall ⟨_, _, h3⟩
    exact h3 (hall m (by omega))
end
end Go.Proofs.YtcfhenekoaegaaaGreatDoor

/- Steps of drawn regions: an operation that leaves the world, a call, a call of two. -/
namespace Go.Proofs.YtcfhenekoaegaaaGreatDoor
set_option linter.unusedVariables false
set_option linter.unusedSimpArgs false
open Go.RowKit
theorem rg_ev {a : Act} {t : Nat} {v : Value} (h : a.tmps.getD t undef = v) : a.tmps[t]?.getD undef = v := by rw [← Array.getD_eq_getD_getElem?]; exact h
theorem rg_same {P : Program} {o : Oper} {a : Act} {w : World} {Q : Exit → Act → World → Prop} {F : World → Value → Prop} (v : Value) (h : o.wp P a w (fun a' w' => a' = a.put o.dst v ∧ w' = w) Q) (hF : F w v) :
    o.wp P a w (fun a' w' => ∃ v, a' = a.put o.dst v ∧ F w' v ∧ Below w.heap.size w w') Q := by
  refine Oper.wp_mono ?_ h
  rintro a' w' ⟨rfl, rfl⟩
  exact ⟨v, rfl, hF, Below.refl _ _⟩
theorem rg_same2 {P : Program} {o : Oper} {a : Act} {w : World} {Q : Exit → Act → World → Prop} {F : Nat → World → Value → Prop} {T : (Nat → Bool) → World → Prop} {f : Nat → Bool} {i : Nat} (v : Value)
    (h : o.wp P a w (fun a' w' => a' = a.put o.dst v ∧ w' = w) Q) (hF : F i w v) (hT : T (fun j => if j = i then true else f j) w) :
    o.wp P a w (fun a' w' => ∃ v, a' = a.put o.dst v ∧ F i w' v ∧ T (fun j => if j = i then true else f j) w' ∧ ∀ j v', f j = true → F j w v' → F j w' v') Q := by
  refine Oper.wp_mono ?_ h
  rintro a' w' ⟨rfl, rfl⟩
  exact ⟨v, rfl, hF, hT, fun _ _ _ h => h⟩
theorem rg_call {P : Program} {o : Oper} {a : Act} {w : World} {K : Act → World → Prop} {Q : Exit → Act → World → Prop} (t k : Nat) (ty : Array TypeId) (v : Value) (R : Ending → World → Prop) (ho : o.op = Op.call { callee := .value (.func k), args := #[.tmp t], argTypes := ty }) (hv : a.tmps.getD t undef = v)
    (eg : ∀ args w, (callFunc k args).run P w = .ok (.enter k args) w) (hc : Calls P k #[v] w R) (hR : ∀ e w', R e w' → ∃ r, e = .returned r ∧ K (a.put o.dst r) w') : o.wp P a w K Q := by
  have e := rg_ev hv
  have e2 : a.eval (.func k) = .func (.func k) #[] #[] := rfl
  unfold Oper.wp execOp
  simp [ho, resolve, invoke, e2, e, eg, go_sem]
  refine hc.mono ?_
  intro z w' hz
  obtain ⟨r, rfl, hk⟩ := hR z w' hz
  exact hk
theorem rg_callc {P : Program} {o : Oper} {a : Act} {w : World} {K : Act → World → Prop} {Q : Exit → Act → World → Prop} (t k : Nat) (ty : Array TypeId) (v c : Value) (R : Ending → World → Prop) (ho : o.op = Op.call { callee := .value (.func k), args := #[.tmp t, .const c], argTypes := ty }) (hv : a.tmps.getD t undef = v)
    (eg : ∀ args w, (callFunc k args).run P w = .ok (.enter k args) w) (hc : Calls P k #[v, c] w R) (hR : ∀ e w', R e w' → ∃ r, e = .returned r ∧ K (a.put o.dst r) w') : o.wp P a w K Q := by
  have e := rg_ev hv
  have e2 : a.eval (.func k) = .func (.func k) #[] #[] := rfl
  have e3 : a.eval (.const c) = c := rfl
  unfold Oper.wp execOp
  simp [ho, resolve, invoke, e2, e3, e, eg, go_sem]
  refine hc.mono ?_
  intro z w' hz
  obtain ⟨r, rfl, hk⟩ := hR z w' hz
  exact hk
theorem rg_call2 {P : Program} {o : Oper} {a : Act} {w : World} {K : Act → World → Prop} {Q : Exit → Act → World → Prop} (s t k : Nat) (ty : Array TypeId) (u v : Value) (R : Ending → World → Prop) (ho : o.op = Op.call { callee := .value (.func k), args := #[.tmp s, .tmp t], argTypes := ty }) (hu : a.tmps.getD s undef = u) (hv : a.tmps.getD t undef = v)
    (eg : ∀ args w, (callFunc k args).run P w = .ok (.enter k args) w) (hc : Calls P k #[u, v] w R) (hR : ∀ e w', R e w' → ∃ r, e = .returned r ∧ K (a.put o.dst r) w') : o.wp P a w K Q := by
  have e := rg_ev hv
  have e1 := rg_ev hu
  have e2 : a.eval (.func k) = .func (.func k) #[] #[] := rfl
  unfold Oper.wp execOp
  simp [ho, resolve, invoke, e2, e, e1, eg, go_sem]
  refine hc.mono ?_
  intro z w' hz
  obtain ⟨r, rfl, hk⟩ := hR z w' hz
  exact hk
end Go.Proofs.YtcfhenekoaegaaaGreatDoor
