/- Texts of this claim, one behind the other: RD, Yj, Yk, Yq, Yn, Yo, Yr, Ys, RA, Yt, Yu, Yv, Yf, Yg, Yh, Yi, Yw, Yx. -/
import Derived.Test.YtfacmnooklljnaaDoorYxm2
import Derived.Scope
import Derived.Test.YtfacmnooklljnaaDoorYxm1
import Derived.OwnWalkIn
import Derived.TacticsInMore
import Derived.LoopNIn
import Derived.LoopIn
import Derived.RangeFuncBox
import Derived.RangeFuncKeeps
import Derived.RangeFuncNested
import Derived.Laws.AppendOwn
import Derived.Deep.Cut
import Derived.Deep.DeepCutAuto
import Derived.Lib.SmallJoins
import Derived.Laws.OwnMore
import Derived.Laws.FloatArith
import Derived.Lib.Hide
import Derived.WalkLawsBesides
import Derived.Laws.Externs
/- A drawn region whose last operation waits for all, within a round of a range over a func; its calls may give up. WpAt at blocks and scopes. No condition but those that each law states. -/
namespace Go.Proofs.YtfacmnooklljnaaDoor
set_option linter.unusedVariables false
set_option linter.unusedSimpArgs false
open Go.RowKit
set_option maxHeartbeats 4000000
set_option maxRecDepth 100000
section
variable {P : Program} {ops : Array Oper} {Q : Exit → Act → World → Prop} {l n : Nat}
theorem region_last6R {id : Nat} {a0 : Act} {w0 : World} (m : Nat) (slot : Nat → Nat) (F : (Nat → Bool) → Nat → World → Value → Prop) (T : (Nat → Bool) → World → Prop) (hm : P.follows .mixedOrders = true) (hb : backB .any ops = true) (hbG : backG .any ops = true) (hnd : noDefer ops = true) (hng : ∀ (i : Nat) (o : Oper), ops[i]? = some o → o.guard = none)
    (hsz : ops.size = m + 1) (hanc : ((List.range m).all fun j => (ancOf .any ops m m).contains j) = true)
    (hs : ∀ i, slot i < a0.tmps.size) (hinj : ∀ i j, i < m → j < m → slot i = slot j → i = j) (h0 : T (fun _ => false) w0.drew)
    (hdst : ∀ i o, i < m → ops[i]? = some o → o.dst = some (slot i))
    (hstep : ∀ (f : Nat → Bool) (a : Act) (w : World) (i : Nat) (o : Oper), i < m → ops[i]? = some o → f i = false → (∀ e ∈ o.after, Region.binds .any e = true → f e.on = true ∧ F f e.on w (a.tmps.getD (slot e.on) undef)) → T f w →
      (∀ j, (∀ i, i < m → slot i ≠ j) → a.tmps.getD j undef = a0.tmps.getD j undef) → a.defers = a0.defers →
      o.wp P a w (fun a' w' => ∃ v, a' = a.put o.dst v ∧ F (fun j => if j = i then true else f j) i w' v ∧ T (fun j => if j = i then true else f j) w' ∧ ∀ j v', f j = true → F f j w v' → F (fun j => if j = i then true else f j) j w' v') Q)
    (hlast : ∀ (f : Nat → Bool) (vs : Nat → Value) (w : World) (o : Oper), ops[m]? = some o → (∀ i, i < m → f i = true) → T f w → (∀ i, i < m → F f i w (vs i)) →
      o.wp P { a0 with tmps := fillN slot vs m a0.tmps } w (fun a' w' => Q .normal a' w') Q) :
    (Code.region id ops true).wpIn (Fence.wide.inRound l) n P Q a0 w0 := by
  refine region_invR hnd hm hbG (fun f a w => ShutF .any ops f ∧ (f m = false → Stand3 a0 m slot F T f a w) ∧ (f m = true → Q .normal a w))
    ⟨(fun i h => by cases h), (fun _ => ⟨rfl, rfl, (fun _ _ => rfl), (fun _ _ _ => rfl), h0, (fun _ _ h => by cases h)⟩), (fun h => by cases h)⟩ ?_ ?_
  · rintro f a w i o ho hf hpre ⟨hc, h1, h2⟩
    rw [if_pos (by unfold Region.wanted; rw [hng i o ho])]
    have hi := (Array.getElem?_eq_some_iff.1 ho).1
    have hee := edges_of ho hpre
    have hc' : ShutF .any ops (fun j => if j = i then true else f j) := by
      intro x hx y hy
      show (if y = i then true else f y) = true
      by_cases hyi : y = i
      · rw [if_pos hyi]
      · rw [if_neg hyi]
        by_cases hxi : x = i
        · subst hxi; exact hee y hy
        · exact hc x (by simpa [hxi] using hx) y hy
    have hpres : ∀ {g : Nat → Bool}, ShutF .any ops g → (∀ j ∈ edgesOf .any ops m, g j = true) → ∀ j, j < m → g j = true := fun hg he j hj => by
      have h4 := List.all_eq_true.1 hanc j (List.mem_range.2 hj)
      exact anc_true hg m m he j (by simpa using h4)
    by_cases him : i = m
    · subst him
      have hI := h1 hf
      have hall := hpres hc hee
      have e : a = { a0 with tmps := fillN slot (fun j => a.tmps.getD (slot j) undef) i a0.tmps } := by
        have h5 : a.tmps = fillN slot (fun j => a.tmps.getD (slot j) undef) i a0.tmps := by
          refine ext_getD (by rw [fillN_size, hI.size]) (fun j => ?_)
          by_cases hj : ∃ k, k < i ∧ slot k = j
          · obtain ⟨k, hk, rfl⟩ := hj
            rw [fillN_at slot _ _ hs _ hinj k hk]
          · rw [fillN_get slot _ _ hs _ j (fun k hk e => hj ⟨k, hk, e⟩), hI.rest j (fun k hk e => hj ⟨k, hk, e⟩)]
        obtain ⟨t, d⟩ := a
        have h6 := hI.defers
        simp only at h5 h6
        rw [← h5, h6]
      have h7 := hlast f (fun j => a.tmps.getD (slot j) undef) w o ho hall hI.told (fun j hj => hI.have_ j hj (hall j hj))
      rw [← e] at h7
      exact Oper.wp_mono (fun a' w' hT => ⟨hc', fun h => by simp at h, fun _ => hT⟩) h7
    · have hlt : i < m := by omega
      have hfm : f m = false := by
        cases hfm : f m with
        | false => rfl
        | true =>
          have := hpres hc (hc m hfm) i hlt
          rw [hf] at this
          cases this
      have hI := h1 hfm
      refine Oper.wp_mono ?_ (hstep f a w i o hlt ho hf (fun e he hbd => ⟨hpre e he hbd, hI.have_ e.on (by have := (back_of hb ho).2 e he hbd; omega) (hpre e he hbd)⟩) hI.told hI.rest hI.defers)
      rintro a' w' ⟨v, rfl, hv, ht, hst⟩
      rw [hdst i o hlt ho]
      have hsl : slot i < a.tmps.size := by rw [hI.size]; exact hs i
      refine ⟨hc', fun _ => ⟨hI.defers, by rw [← hI.size]; exact Array.size_setIfInBounds .., fun j hj => ?_, fun j hj hfj => ?_, ht, fun j hj hfj => ?_⟩, fun h => ?_⟩
      · show (a.tmps.setIfInBounds (slot i) v).getD j undef = _
        rw [getD_set _ _ _ _ hsl, if_neg (Ne.symm (hj i hlt))]
        exact hI.rest j hj
      · show (a.tmps.setIfInBounds (slot i) v).getD (slot j) undef = _
        have hji : j ≠ i := fun e => by simp [e] at hfj
        rw [getD_set _ _ _ _ hsl, if_neg (fun e => hji (hinj j i hj hlt e))]
        exact hI.yet j hj (by simpa [hji] using hfj)
      · show F (fun j => if j = i then true else f j) j w' ((a.tmps.setIfInBounds (slot i) v).getD (slot j) undef)
        rw [getD_set _ _ _ _ hsl]
        by_cases hji : j = i
        · subst hji; rw [if_pos rfl]; exact hv
        · rw [if_neg (fun e => hji (hinj j i hj hlt e))]
          have h2 : f j = true := by simpa [hji] using hfj
          exact hst j _ h2 (hI.have_ j hj h2)
      · have h' : (if m = i then true else f m) = true := h
        rw [if_neg (Ne.symm him), hfm] at h'; cases h'
  · rintro f a w hall ⟨_, _, h3⟩
    exact h3 (hall m (by omega))
end
section
variable {F : Fence} {n : Nat} {P : Program} {Q : Exit → Act → World → Prop} {a : Act} {w : World} {f : FuncId}
theorem wpAt_block {id : Nat} {c : Code} (h : WpAt f F n P c (Exit.inBlock id Q) a w) : WpAt f F n P (Code.block id c) Q a w := by
  intro b k cs hro hbf hF hr
  have hb : F.fn b.fn := hbf ▸ hF
  have h0 : (lone (b.atR a (.code (.block id c) :: k)) cs w).fenced P F := fenced_calm (fr := b.atR a (.code (.block id c) :: k)) hb hr rfl
  obtain ⟨e, a₁, w₁, hq, harr⟩ := h b (.inBlock id :: k) cs hro hbf hF hr
  cases e with
  | normal => exact ⟨.normal, a₁, w₁, hq, .head h0 stepR_block (StepsIn.trans harr (.one (fenced_calm (fr := b.atR a₁ (.inBlock id :: k)) hb hr rfl) stepR_inBlock))⟩
  | exit id' =>
    by_cases hid : id' = id
    · simp only [Exit.inBlock, hid, if_true] at hq
      exact ⟨.normal, a₁, w₁, hq, .head h0 stepR_block (harr.1 k (by simp [exitTo, hid]))⟩
    · simp only [Exit.inBlock, hid, if_false] at hq
      have this : (id == id') = false := by simp; exact fun h => hid h.symm
      have hx : exitTo id' (.inBlock id :: k) = exitTo id' k := by simp [exitTo, this]
      exact ⟨.exit id', a₁, w₁, hq, fun k' hk => .head h0 stepR_block (harr.1 k' (by rw [hx]; exact hk)),
        fun hr' hk => let ⟨k₁, h1, h2⟩ := harr.2 hr' (by rw [hx]; exact hk); ⟨k₁, h1, .head h0 stepR_block h2⟩⟩
  | goto l =>
    have hx : gotoIn l (.inBlock id :: k) = gotoIn l k := by simp [gotoIn]
    exact ⟨_, a₁, w₁, hq, fun k' hk => .head h0 stepR_block (harr.1 k' (by rw [hx]; exact hk)),
      fun hr' hk => let ⟨k₁, h1, h2⟩ := harr.2 hr' (by rw [hx]; exact hk); ⟨k₁, h1, .head h0 stepR_block h2⟩⟩
  | ret => exact ⟨_, a₁, w₁, hq, .of_steps (.one h0 stepR_block) harr⟩
  | panic ch => exact ⟨_, a₁, w₁, hq, .of_steps (.one h0 stepR_block) harr⟩
  | outgrown => exact ⟨_, a₁, w₁, hq, .of_steps (.one h0 stepR_block) harr⟩
theorem stepR_scopeC {b : Frame} {k : List Item} {cs : List Frame} {c : Code} : step P (lone (b.atR a (.code (.scope c) :: k)) cs w) = .next (lone (b.atR a (.code c :: .inScope c :: k)) cs w) :=
  step_lone_go (by simp [stepG, stepG.exec, Frame.atR])
theorem stepR_inScopeC {b : Frame} {k : List Item} {cs : List Frame} {c : Code} : step P (lone (b.atR a (.inScope c :: k)) cs w) = .next (lone (b.atR a k) cs w) :=
  step_lone_go (by simp [stepG, stepG.exec, Frame.atR])
/-- a block with labels to which no jump goes -/
theorem wpAt_scope {c : Code} (hro : F.round = none) (h : WpAt f F n P c (Exit.noGoto Q) a w) : WpAt f F n P (Code.scope c) Q a w := by
  intro b k cs hrb hbf hF hr
  have hb : F.fn b.fn := hbf ▸ hF
  have hbr : b.roundOf = none := hrb.trans hro
  have h0 : (lone (b.atR a (.code (.scope c) :: k)) cs w).fenced P F := fenced_calm (fr := b.atR a (.code (.scope c) :: k)) hb hr rfl
  obtain ⟨e, a₁, w₁, hq, harr⟩ := h b (.inScope c :: k) cs hrb hbf hF hr
  cases e with
  | normal => exact ⟨.normal, a₁, w₁, hq, .head h0 stepR_scopeC (StepsIn.trans harr (.one (fenced_calm (fr := b.atR a₁ (.inScope c :: k)) hb hr rfl) stepR_inScopeC))⟩
  | exit id => exact ⟨.exit id, a₁, w₁, hq, fun k' hk => .head h0 stepR_scopeC (harr.1 k' (by simp [exitTo, hk])), fun hs => by rw [hbr] at hs; cases hs⟩
  | goto l => exact hq.elim
  | ret => exact ⟨_, a₁, w₁, hq, .of_steps (.one h0 stepR_scopeC) harr⟩
  | panic ch => exact ⟨_, a₁, w₁, hq, .of_steps (.one h0 stepR_scopeC) harr⟩
  | outgrown => exact ⟨_, a₁, w₁, hq, .of_steps (.one h0 stepR_scopeC) harr⟩
end
end Go.Proofs.YtfacmnooklljnaaDoor

/- token: every and its iterator; a round may give up. No conditions but those that each law states. -/
namespace Go.Proofs.YtfacmnooklljnaaDoor
set_option linter.unusedVariables false
set_option linter.unusedSimpArgs false
open Go.RowKit Go.Shelf
attribute [local go_sem] Oper.semAt_some
set_option maxHeartbeats 8000000
set_option maxRecDepth 100000
theorem turn_belowY {B : Nat} {own : Nat → Prop} {W W' : World} (h : Below W.heap.size W W') : Turn B own W W' :=
  ⟨h.os, h.tape, h.output, h.size, fun k hk _ _ => h.block k hk⟩
theorem keeps_belowY {B : Nat} {W W' : World} (h : Below W.heap.size W W') : KeepsFrom B W W' :=
  ⟨h.size, fun k o _ hk _ => (h.block k (Array.getElem?_eq_some_iff.1 hk).1).trans hk⟩
theorem boxed_below {W W' : World} {B : Nat} {t : TypeId} {v : Value} (h : Boxed W B t v) (hb : Below W.heap.size W W') : Boxed W' B t v := (hb.block _ h.lt).trans h
theorem every1_it (m S C : Nat) (by_ : Int) (l : List UInt8) (hby : 0 ≤ by_ ∧ by_ < 256) (hl : l.length ≤ 100000) (own : Nat → Prop) (Kp : World → World → Prop) (W : World) (hSC : S ≠ C) (hoS : own S) (hoC : ¬ own C)
    (hKS : ∀ X Y v, Kp X Y → Boxed X S 9 v → Boxed Y S 9 v) (hKC : ∀ X Y v, Kp X Y → Boxed X C 5 v → Boxed Y C 5 v)
    (hS : Boxed W S 9 (tx l)) (hC : Boxed W C 5 (.int .u8 by_)) (M : Nat) (hM : M ≤ W.heap.size) :
    IterAtP Fence.wide m Tryd.prog 42 #[.pointer (some ⟨S, 0, none⟩), .pointer (some ⟨C, 0, none⟩)] (fun k => #[.int .i64 k, tx ((Ap.all l by_).getD k [])]) (Ap.all l by_).length M own Kp W := by
  intro q J Jx Jp hJ hJx hJp hY h0
  have HL := Lib.hid hl
  have HBY := Lib.hid hby
  have HS := Lib.hid hS
  have HC := Lib.hid hC
  have HLN := Lib.hid (Ap.all_len l by_)
  have HPOS := Lib.hid (Ap.all_len_pos l by_)
  obtain ⟨N, hN⟩ : ∃ z, (Ap.all l by_).length = z := ⟨_, rfl⟩
  rw [hN] at hY HLN HPOS ⊢
  have HN := Lib.hid hN
  have TC := Lib.hid (fun (s : List UInt8) W (h : s.length ≤ 100000) => tok_cut ⟨s.toArray⟩ by_ W hby.1 hby.2 (by simp [ByteArray.size]; omega))
  have hNb : N ≤ 100001 := by have := HLN.out; omega
  clear hS hC hN hl hby
  refine callsIn_of_wp Tryd.func42 rfl trivial ?_ rfl
  simp only [Tryd.ntmps42, List.size_toArray, List.length_cons, List.length_nil, Nat.reduceAdd, Nat.reduceSub, Array.replicate_succ, Array.replicate_zero, List.push_toArray, List.append_toArray, List.nil_append, List.cons_append]
  gi_wp2
  gi_loopw [4] (fun i wr => ∃ k : Nat, k < N ∧ i = .int .i64 k ∧ J k wr ∧ Boxed wr S 9 (tx (Ap.restA k l by_)) ∧ Boxed wr C 5 (.int .u8 by_) ∧ M ≤ wr.heap.size) (fun i _ => N - (intOf i).toNat)
  case atStart => exact ⟨0, HPOS.out, rfl, h0, HS.out, HC.out, hM⟩
  case round =>
    obtain ⟨k, hk, rfl, hj, hs, hc, hmr⟩ := hrel
    obtain ⟨a1, a2, a3⟩ := Ap.all_at k l by_ (by rw [HN.out]; exact hk)
    rw [HN.out] at a2
    obtain ⟨r, hr⟩ : ∃ r, Ap.restA k l by_ = r := ⟨_, rfl⟩
    have hsucc := Ap.restA_succ k l by_
    rw [hr] at a1 a2 a3 hs hsucc
    have KT := TC.out r wr (by have := HL.out; omega)
    obtain ⟨c1, hc1⟩ : ∃ z, (Tp.cut r by_).1 = z := ⟨_, rfl⟩
    obtain ⟨c2, hc2⟩ : ∃ z, (Tp.cut r by_).2.1 = z := ⟨_, rfl⟩
    obtain ⟨f, hf⟩ : ∃ z, (Tp.cut r by_).2.2 = z := ⟨_, rfl⟩
    rw [hc1, hc2, hf] at KT
    rw [hc1] at a1
    rw [hf] at a2
    rw [hc2] at hsucc
    have YK := fun X hj hm => hY k X hk hj hm
    rw [a1] at YK
    unfold tx at hs KT YK
    obtain ⟨rb, hrb⟩ : ∃ z : ByteArray, (⟨r.toArray⟩ : ByteArray) = z := ⟨_, rfl⟩
    obtain ⟨b1, hb1⟩ : ∃ z : ByteArray, (⟨c1.toArray⟩ : ByteArray) = z := ⟨_, rfl⟩
    obtain ⟨b2, hb2⟩ : ∃ z : ByteArray, (⟨c2.toArray⟩ : ByteArray) = z := ⟨_, rfl⟩
    rw [hrb] at hs KT
    rw [hb1] at KT YK
    rw [hb2] at KT
    have HT2 := Lib.hid (show tx (Ap.restA (k + 1) l by_) = .string b2 by rw [hsucc]; unfold tx; rw [hb2])
    have KTH := Lib.hid KT
    have HA2 := Lib.hid a2
    have HJ := Lib.hid hj
    have HS2 := Lib.hid hs
    have HC2 := Lib.hid hc
    have cS := hs.cell
    have cC := hc.cell
    clear KT a1 a2 a3 hj hs hc hr hsucc hc1 hc2 hf hrb hb1 hb2
    gi_wp2_with fail
    refine ⟨trivial, (fun h => by cases h), (callsIn_wide.2 KTH.out).mono ?_⟩
    rintro e w1 ⟨rfl, hb⟩
    have hj1 := hJ _ _ _ HJ.out (turn_belowY (B := W.heap.size) (own := own) hb)
    have HS3 := Lib.hid (boxed_below HS2.out hb)
    have HC3 := Lib.hid (boxed_below HC2.out hb)
    have fS := HS3.out.frozen
    have hm1 : M ≤ w1.heap.size := Nat.le_trans hmr hb.size
    obtain ⟨fn, tmps, assign, body, hy, hR⟩ := YK w1 hj1 hm1
    clear hb cS cC
    gi_wp2
    refine ⟨(fun h => by cases h), hR.mono ?_⟩
    rintro z Y (⟨rfl, hj', hkp, hkf⟩ | ⟨rfl, hjx, hkf⟩ | ⟨ch, rfl, hjp, hkf⟩)
    · have HS4 := Lib.hid (hKS _ _ _ hkp HS3.out)
      have HC4 := Lib.hid (hKC _ _ _ hkp HC3.out)
      have fS4 := HS4.out.frozen
      have cS4 := HS4.out.cell
      clear hy fS hj1
      cases f with
      | true =>
        have hk1 : k + 1 < N := HA2.out.1 rfl
        have hadd : IntKind.i64.wrap ((k : Int) + 1) = (k : Int) + 1 := by simp [IntKind.wrap, IntKind.bits, IntKind.signed]; omega
        have HJ5 := Lib.hid (hJ _ _ _ hj' (Turn.setCell (B := W.heap.size) Y S 0 (.string b2) hoS))
        gi_wp2
        go_roundw
        case rel => exact ⟨k + 1, hk1, by go_num, HJ5.out, by rw [HT2.out]; exact HS4.out.set _, HC4.out.other (Ne.symm hSC) _, Nat.le_trans hm1 (Nat.le_trans hkf.size (KeepsWalks.setCell Y ⟨S, 0, none⟩ (.string b2)).size)⟩
        case measure => simp [intOf]; omega
      | false =>
        have hk1 : k + 1 = N := by
          have h : ¬ (k + 1 < N) := fun h => by have := HA2.out.2 h; cases this
          omega
        rw [hk1] at hj'
        gi_wp2
        refine bodyPost_ret (results_none rfl _ _ _) rfl ?_
        exact .inl ⟨⟨_, rfl⟩, .inl hj'⟩
    · gi_wp2
      refine bodyPost_ret (results_none rfl _ _ _) rfl ?_
      exact .inl ⟨⟨_, rfl⟩, .inr hjx⟩
    · exact ⟨rfl, .inr ⟨ch, rfl, hjp⟩⟩
theorem tk_every (F : Fence) (n : Nat) (h : F.fn 30) (hro : F.round = none) (s : ByteArray) (by_ : Int) (w : World) :
    CallsIn F n Tryd.prog 30 #[.string s, .int .u8 by_] w fun e w' => e = .returned (.func (.func 42) #[] #[.pointer (some ⟨w.heap.size, 0, none⟩), .pointer (some ⟨w.heap.size + 1, 0, none⟩)]) ∧
      w' = (w.alloc (.cells #[.string s] 9)).alloc (.cells #[.int .u8 by_] 5) := by
  refine callsIn_of_wp Tryd.func30 rfl h ?_ hro
  simp only [Tryd.ntmps30, List.size_toArray, List.length_cons, List.length_nil, Nat.reduceAdd, Nat.reduceSub, Array.replicate_succ, Array.replicate_zero, List.push_toArray, List.append_toArray, List.nil_append, List.cons_append]
  gi_wp2
  go_ret
  exact ⟨by simp, rfl⟩
theorem tk_Each (s : ByteArray) (by_ : Int) (w : World) :
    Calls Tryd.prog 23 #[.string s, .int .u8 by_] w fun e w' => e = .returned (.func (.func 29) #[] #[.pointer (some ⟨w.heap.size, 0, none⟩), .pointer (some ⟨w.heap.size + 1, 0, none⟩)]) ∧
      w' = (w.alloc (.cells #[.string s] 9)).alloc (.cells #[.int .u8 by_] 5) := by
  go_enter Tryd.func23, Tryd.ntmps23
  go_wp2
  go_ret
  exact ⟨by simp, rfl⟩
end Go.Proofs.YtfacmnooklljnaaDoor

/- token: Each's iterator; a round may give up. No conditions but those that each law states. -/
namespace Go.Proofs.YtfacmnooklljnaaDoor
set_option linter.unusedVariables false
set_option linter.unusedSimpArgs false
open Go.RowKit Go.Shelf
attribute [local go_sem] Oper.semAt_some
set_option maxHeartbeats 8000000
set_option maxRecDepth 100000
/-- what a round of Each's keeps -/
def KE3 (E : Nat) (X Y : World) : Prop := ∀ b, E ≤ b → b ≤ E + 2 → b < X.heap.size → Y.heap[b]? = X.heap[b]?
theorem KE3.refl (E : Nat) (X : World) : KE3 E X X := fun _ _ _ _ => rfl
theorem KE3.lt {E : Nat} {X Y : World} (h : KE3 E X Y) {b : Nat} (h1 : E ≤ b) (h2 : b ≤ E + 2) (h3 : b < X.heap.size) : b < Y.heap.size := by
  have h4 := h b h1 h2 h3
  rw [Array.getElem?_eq_getElem h3] at h4
  exact (Array.getElem?_eq_some_iff.1 h4).1
theorem KE3.trans {E : Nat} {X Y Z : World} (h : KE3 E X Y) (k : KE3 E Y Z) : KE3 E X Z := fun b h1 h2 h3 => (k b h1 h2 (h.lt h1 h2 h3)).trans (h b h1 h2 h3)
theorem KE3.box {E b : Nat} {X Y : World} {t : TypeId} {v : Value} (h : KE3 E X Y) (h1 : E ≤ b) (h2 : b ≤ E + 2) (hb : Boxed X b t v) : Boxed Y b t v := (h b h1 h2 hb.lt).trans hb
theorem eachP_it (S C E : Nat) (by_ : Int) (l : List UInt8) (hby : 0 ≤ by_ ∧ by_ < 256) (hl : l.length ≤ 100000) (Kp : World → World → Prop) (W : World) (hE : W.heap.size = E)
    (hKp : ∀ X Y, Kp X Y → KE3 E X Y) (hS : Boxed W S 9 (tx l)) (hC : Boxed W C 5 (.int .u8 by_)) :
    IterAtP Fence.wide 9 Tryd.prog 29 #[.pointer (some ⟨S, 0, none⟩), .pointer (some ⟨C, 0, none⟩)] (fun k => #[.int .i64 k, tx ((Ap.all l by_).getD k [])]) (Ap.all l by_).length (E + 3) (fun b => b = E + 1) Kp W := by
  intro q J Jx Jp hJ hJx hJp hY h0
  have hSE : S < E := by rw [← hE]; exact hS.lt
  have hCE : C < E := by rw [← hE]; exact hC.lt
  unfold tx at hS
  obtain ⟨lb, hlb⟩ : ∃ z : ByteArray, (⟨l.toArray⟩ : ByteArray) = z := ⟨_, rfl⟩
  rw [hlb] at hS
  have LW := Lib.hid (fun X => tk_every Fence.wide 8 trivial rfl lb by_ X)
  obtain ⟨W1, hW1⟩ : ∃ W1, W.alloc (.cells #[.func (.yield q) #[] #[]] 67) = W1 := ⟨_, rfl⟩
  have hs1 : W1.heap.size = E + 1 := by rw [← hW1]; simp [hE]
  obtain ⟨W3, hW3⟩ : ∃ W3, (W1.alloc (.cells #[.string lb] 9)).alloc (.cells #[.int .u8 by_] 5) = W3 := ⟨_, rfl⟩
  have hs3 : W3.heap.size = E + 3 := by rw [← hW3]; simp [hs1]
  have hb13 : Below W1.heap.size W1 W3 := by rw [← hW3]; exact ((Below.refl _ _).alloc (Nat.le_refl _) _).alloc (by simp) _
  have bY : Boxed W1 E 67 (.func (.yield q) #[] #[]) := by rw [← hW1, ← hE]; exact Boxed.new _ _ _
  have bS : Boxed W3 (E + 1) 9 (.string lb) := by
    rw [← hW3, ← hs1]; exact (Boxed.new _ _ _).alloc _
  have bC : Boxed W3 (E + 2) 5 (.int .u8 by_) := by
    have h := Boxed.new (W1.alloc (.cells #[.string lb] 9)) 5 (.int .u8 by_)
    rw [hW3] at h
    simpa [hs1] using h
  have cS : W1.cell? ⟨S, 0, none⟩ = some (.string lb) := by rw [← hW1]; exact (hS.alloc _).cell
  have cC : W1.cell? ⟨C, 0, none⟩ = some (.int .u8 by_) := by rw [← hW1]; exact (hC.alloc _).cell
  rw [hE] at hJ hJx hJp hY
  have j0 : J 0 W3 := by
    rw [← hW3, ← hW1]; exact hJ _ _ _ (hJ _ _ _ (hJ _ _ _ h0 (.alloc _ _)) (.alloc _ _)) (.alloc _ _)
  have HW1 := Lib.hid hW1
  have HW3 := Lib.hid hW3
  have HE := Lib.hid hE
  have HS1 := Lib.hid hs1
  have HJ0 := Lib.hid j0
  have HbY := Lib.hid (boxed_below bY hb13)
  have HbS := Lib.hid (show Boxed W3 (E + 1) 9 (tx l) by unfold tx; rw [hlb]; exact bS)
  have HbC := Lib.hid bC
  obtain ⟨t, ht⟩ : ∃ t : Nat → ByteArray, ∀ k, tx ((Ap.all l by_).getD k []) = .string (t k) := ⟨fun k => ⟨((Ap.all l by_).getD k []).toArray⟩, fun k => rfl⟩
  simp only [ht] at hY
  clear hS hC hW1 hW3 hE hs1 j0 bY bS bC hb13 h0
  refine callsIn_of_wpAt_marks Tryd.func29 rfl trivial ?_ rfl
  simp only [Tryd.ntmps29, List.size_toArray, List.length_cons, List.length_nil, Nat.reduceAdd, Nat.reduceSub, Array.replicate_succ, Array.replicate_zero, List.push_toArray, List.append_toArray, List.nil_append, List.cons_append]
  refine wpAt_seq (wpAt_of ?_)
  gi_wp2_with fail
  rw [HW1.out, HE.out]
  refine wpAt_scope rfl ?_
  refine wpAt_seq (wpAt_of ?_)
  apply wpIn_label
  gi_wp2_with fail
  refine wpAt_seq (wpAt_of ?_)
  gi_wp2_with fail
  refine ⟨trivial, (LW.out _).mono ?_⟩
  rintro e w' ⟨rfl, rfl⟩
  rw [HW3.out, HS1.out]
  gi_wp2_with fail
  refine wpAt_block ?_
  have hs3 := hs3
  refine rp_outerE (N := (Ap.all l by_).length) (own := fun b => b = E + 1) (Kp := KE3 E) (encs := fun k => #[.int .i64 k, .string (t k)]) (n := 9) trivial rfl ⟨_, rfl⟩ (by omega) (gf := 42) (lb := #[.pointer (some ⟨E + 1, 0, none⟩), .pointer (some ⟨E + 1 + 1, 0, none⟩)]) rfl trivial (enters_of Tryd.func42 (by kernel_rfl) rfl)
    (fun _ => rfl) (fun b hb => by subst hb; omega)
    (fun X hX hs => by
      have h := every1_it 8 (E + 1) (E + 1 + 1) by_ l hby hl (fun b => b = E + 1) (KE3 E) X (by omega) rfl (by omega) (fun A B v h hb => h.box (by omega) (by omega) hb) (fun A B v h hb => h.box (by omega) (by omega) hb)
        ((hX.block _ (by omega)).trans HbS.out) ((hX.block _ (by omega)).trans HbC.out) (E + 3) (by omega)
      simp only [ht] at h
      exact h)
    KE3.trans (fun X o o' h2 h3 b h4 h5 h6 => World.putObj_heap_other (by omega))
    (fun k X => J k X ∧ Boxed X E 67 (.func (.yield q) #[] #[])) (fun c X => c = .exit 0 ∧ Jx X) Jp
    (fun k X Y hs ht => ⟨hJ _ _ _ hs.1 (ht.mono (by omega) (fun b hb => hb)), ht.boxed hs.2 (by omega)⟩)
    (fun c X Y hs ht => ⟨hs.1, hJx _ _ hs.2 (ht.mono (by omega) (fun b hb => hb))⟩) (fun c X Y hs ht => hJp _ _ _ hs (ht.mono (by omega) (fun b hb => hb))) ⟨HJ0.out, HbY.out⟩ ?E
  case E =>
    apply Exists.intro
    refine ⟨?asg, ?bod, ?don, ?stp, ?pan⟩
    case asg =>
      intro l' k X K hk hi hM hK
      have HKK := Lib.hid hK
      clear hK
      gi_wp2
      exact HKK.out _ (KeepsFrom.refl _ _) (KE3.refl _ _) hi
    case bod =>
      rintro l' k X hl' ⟨r, hr⟩ hk ⟨hj, hb⟩ hM
      have cY := hb.cell
      obtain ⟨fn, tmps, assign, body, hy, hR⟩ := hY k X hk hj hM
      have hR' := roundIn_any 6 hR
      clear hR
      gi_wp2
      refine RoundIn.mono (F := Fence.wide) hR' ?_
      rintro e Y (⟨rfl, hj', hkp, hkf⟩ | ⟨rfl, hjx, hkf⟩ | ⟨ch, rfl, hjp, hkf⟩)
      · have hbY := (hKp _ _ hkp).box (Nat.le_refl _) (by omega) hb
        gi_wp2
        exact ⟨⟨hkf.size, fun i o hi h1 h2 => hkf.same i o (by omega) h1 h2⟩, hKp _ _ hkp, hj', hbY⟩
      · gi_wp2
        exact ⟨⟨hkf.size, fun i o hi h1 h2 => hkf.same i o (by omega) h1 h2⟩, rfl, hjx⟩
      · exact ⟨rfl, ⟨hkf.size, fun i o hi h1 h2 => hkf.same i o (by omega) h1 h2⟩, hjp⟩
    case don =>
      rintro D X hD ⟨hj, _⟩ hK
      show bodyPostM Fence.wide 9 Tryd.prog Tryd.f29 _ .normal _ _
      refine ⟨by simp, .inl ⟨_, _, rfl, run_takeDeferred hK, ?_⟩⟩
      exact ⟨_, results_none rfl _ _ _, .inl ⟨⟨_, rfl⟩, .inl (hJ _ _ _ hj (.putObj _ (by omega) hK rfl))⟩⟩
    case stp =>
      rintro D c X hD ⟨rfl, hjx⟩ hK
      apply wpIn_exit
      show bodyPostM Fence.wide 9 Tryd.prog Tryd.f29 _ .normal _ _
      refine ⟨by simp, .inl ⟨_, _, rfl, run_takeDeferred hK, ?_⟩⟩
      exact ⟨_, results_none rfl _ _ _, .inl ⟨⟨_, rfl⟩, .inr (hJx _ _ hjx (.putObj _ (by omega) hK rfl))⟩⟩
    case pan =>
      rintro D ch X hD hjp hK
      show bodyPostM Fence.wide 9 Tryd.prog Tryd.f29 _ (.panic ch) _ _
      refine ⟨by simp, .inl ⟨_, _, rfl, run_takeDeferred hK, ?_⟩⟩
      exact .inr ⟨ch, rfl, hJp _ _ _ hjp (.putObj _ (by omega) hK rfl)⟩
/-- where no round gives up -/
def IterAtM (F : Fence) (n : Nat) (P : Program) (gf : Nat) (lb : Array Value) (encs : Nat → Array Value) (N M : Nat) (own : Nat → Prop) (Kp : World → World → Prop) (W : World) : Prop := IterAtP F n P gf lb encs N M own Kp W
end Go.Proofs.YtfacmnooklljnaaDoor

/- Rows of the call's own: small laws (as in XQa, XQc, XQd, XQl, under names of their own). No conditions but those that each law states. -/
namespace Go.Proofs.YtfacmnooklljnaaDoor
set_option linter.unusedVariables false
set_option linter.unusedSimpArgs false
open Go.RowKit
theorem own_slY {w : World} {B : Nat} {e : TypeId} {s : Nat} {v : Value} {n : Nat} {xs : List Value} (h : w.ownsRow B e s v n xs) : ∃ p c, v = .slice p n c := by
  rcases h.2 with ⟨rfl, h0⟩ | ⟨g, cap, cur, rfl, _⟩
  · exact ⟨none, 0, by rw [h0]⟩
  · exact ⟨_, _, rfl⟩
theorem own_keepY {w w' : World} {base : Nat} {e : TypeId} {size : Nat} {v : Value} {n : Nat} {xs : List Value} (h : w.ownsRow base e size v n xs) (k : ∀ g, base ≤ g → g < w.heap.size → w'.heap[g]? = w.heap[g]?) : w'.ownsRow base e size v n xs :=
  ⟨h.1, h.2.imp id (fun ⟨g, cap, cur, h1, h2, h3, h4⟩ => ⟨g, cap, cur, h1, h2, (k g h2 (Array.getElem?_eq_some_iff.1 h3).1).trans h3, h4⟩)⟩
theorem own_keep2 {w w' : World} {base : Nat} {e : TypeId} {size : Nat} {v : Value} {n : Nat} {xs : List Value} (h : w.ownsRow base e size v n xs) (k : ∀ g, v.ownBlock = some g → w'.heap[g]? = w.heap[g]?) : w'.ownsRow base e size v n xs :=
  ⟨h.1, h.2.imp id (fun ⟨g, cap, cur, h1, h2, h3, h4⟩ => ⟨g, cap, cur, h1, h2, (k g (by rw [h1]; rfl)).trans h3, h4⟩)⟩
theorem own_belY {w w' : World} {base : Nat} {e : TypeId} {size : Nat} {v : Value} {n : Nat} {xs : List Value} (h : w.ownsRow base e size v n xs) (k : Below w.heap.size w w') : w'.ownsRow base e size v n xs := own_keepY h (fun g _ hg => k.block g hg)
theorem own_turnY {B n : Nat} {own : Nat → Prop} {C : Nat} {X Y : World} {e : TypeId} {s : Nat} {v : Value} {xs : List Value} (h : X.ownsRow C e s v n xs) (ht : Turn B own X Y) (ho : ∀ b, own b → b < C) : Y.ownsRow C e s v n xs :=
  ⟨h.1, h.2.imp id (fun ⟨g, cap, cur, k1, k2, k3, k4⟩ => ⟨g, cap, cur, k1, k2, ht.cells k3 rfl (fun e => by have := ho g e; omega), k4⟩)⟩
theorem own_lowY {w : World} {B C : Nat} {e : TypeId} {s : Nat} {v : Value} {n : Nat} {xs : List Value} (h : w.ownsRow B e s v n xs) (hC : C ≤ B) : w.ownsRow C e s v n xs :=
  ⟨h.1, h.2.imp id (fun ⟨g, cap, cur, k1, k2, k3⟩ => ⟨g, cap, cur, k1, Nat.le_trans hC k2, k3⟩)⟩
theorem own_geY {w : World} {B : Nat} {e : TypeId} {s : Nat} {v : Value} {n : Nat} {xs : List Value} (h : w.ownsRow B e s v n xs) : ∀ k, v.ownBlock = some k → B ≤ k := fun k hk => (h.lt k hk).1
theorem own_cellsY {w : World} {B : Nat} {e : TypeId} {s : Nat} {v : Value} {n : Nat} {xs : List Value} (h : w.ownsRow B e s v n xs) {k : Nat} {cs : Array Value} {t : TypeId} {fr : Nat × Nat} (ht : t ≠ e) (hk : w.heap[k]? = some (.cells cs t fr)) : some k ≠ v.ownBlock := by
  rcases h.2 with ⟨rfl, _⟩ | ⟨g, cap, cur, rfl, _, hg, _⟩
  · simp [Value.ownBlock]
  · intro e2
    have : k = g := by simpa [Value.ownBlock] using e2
    subst this
    rw [hk] at hg
    cases hg
    exact ht rfl
theorem own_setY {w : World} {B A i s n : Nat} {e : TypeId} {v x : Value} {xs : List Value} (h : w.ownsRow B e s v n xs) (hA : A < B) : (w.setCell ⟨A, i, none⟩ x).ownsRow B e s v n xs :=
  own_keepY h (fun g hg _ => Below.heap_setCell _ _ _ _ (by show g ≠ A; omega))
/-- an own row's cells -/
theorem own_atY {w : World} {B n c : Nat} {e : TypeId} {p : Option Addr} {xs : List Value} (h : w.ownsRow B e 1 (.slice p n c) n xs) {k : Nat} (hk : k < n) {v : Value} (hv : xs[k]? = some v) : ∃ g, p = some ⟨g, 0, none⟩ ∧ B ≤ g ∧ n ≤ c ∧ w.cell? ⟨g, k, none⟩ = some v ∧ g < w.heap.size := by
  rcases h.2 with ⟨hv, h0⟩ | ⟨g, cap, cur, hvv, hBg, hg, hnc, hcm, hcs, htk⟩
  · omega
  · cases hvv
    have h2 := h.cells (g := g) rfl k _ hv
    have hadd : (⟨g, 0, none⟩ : Addr).add k = ⟨g, k, none⟩ := by unfold Addr.add; split <;> simp_all
    rw [hadd] at h2
    exact ⟨g, rfl, hBg, hnc, h2, (Array.getElem?_eq_some_iff.1 hg).1⟩
theorem own_isCells {w : World} {B : Nat} {e : TypeId} {s : Nat} {v : Value} {n : Nat} {xs : List Value} (h : w.ownsRow B e s v n xs) (g : Nat) (hg : v.ownBlock = some g) : ∃ cs t fr, w.heap[g]? = some (.cells cs t fr) := by
  rcases h.2 with ⟨rfl, _⟩ | ⟨g', cap, cur, rfl, _, hgg, _⟩
  · cases hg
  · have : g' = g := by simpa [Value.ownBlock] using hg
    subst this
    exact ⟨_, _, _, hgg⟩
theorem IterAtP.anyP {P : Program} {m : Nat} (m' : Nat) {gf : Nat} {lb : Array Value} {encs : Nat → Array Value} {N M : Nat} {own : Nat → Prop} {Kp : World → World → Prop} {W : World} (h : IterAtP Fence.wide m P gf lb encs N M own Kp W) : IterAtP Fence.wide m' P gf lb encs N M own Kp W :=
  fun l J Jx Jp hJ hJx hJp hY h0 => callsIn_wide.2 (callsIn_wide.1 (h l J Jx Jp hJ hJx hJp (fun k X hk hj hm => yieldAt_any _ (hY k X hk hj hm)) h0))
end Go.Proofs.YtfacmnooklljnaaDoor

/- accept: one range of a list. No conditions but those that the law states. -/
namespace Go.Proofs.YtfacmnooklljnaaDoor
set_option linter.unusedVariables false
set_option linter.unusedSimpArgs false
open Go.RowKit Go.Shelf
attribute [local go_sem] Oper.semAt_some
set_option maxHeartbeats 8000000
set_option maxRecDepth 100000
def raV (r : Ap.Ra) : Value := .agg #[tx r.1, tx r.2.1, .int .i64 (r.2.2.1 : Int), .int .i64 r.2.2.2]
def oneOut (o : Option Ap.Ra) : Ending := match o with
  | some r => .returned (raV r)
  | none => acNo
/-- what stands behind the parts -/
structure OneW (w W : World) (B D : Nat) (V : Value) (N : Nat) (L : List (List UInt8)) : Prop where
  hb : Below w.heap.size w W
  hB : w.heap.size = B
  hD : B + 4 ≤ D
  K : W.heap[D]? = some (.deferred (some []))
  Z : W.heap[B]? = some (.cells #[.string ⟨#[]⟩, .string ⟨#[]⟩, .int .i64 0, .int .i64 0] 33 (0, 0))
  bx : Boxed W (B + 1) 38 V
  row : W.ownsRow (B + 9) 9 1 V N (L.map tx)
theorem OneW.next {w W W' : World} {B D : Nat} {V : Value} {N : Nat} {L : List (List UInt8)} (h : OneW w W B D V N L) (k : Below W.heap.size W W') : OneW w W' B D V N L :=
  ⟨h.hb.trans (k.mono h.hb.size), h.hB, h.hD, (k.block _ (Array.getElem?_eq_some_iff.1 h.K).1).trans h.K, (k.block _ (Array.getElem?_eq_some_iff.1 h.Z).1).trans h.Z, (k.block _ h.bx.lt).trans h.bx, own_belY h.row k⟩
theorem OneW.shut {w W : World} {B D : Nat} {V : Value} {N : Nat} {L : List (List UInt8)} (h : OneW w W B D V N L) : Below B w (W.putObj D (.deferred none)) :=
  h.hB ▸ h.hb.trans (belowK_b (w := w) (Nat.le_refl _) _ D _ _ (by have := h.hB; have := h.hD; omega) h.K rfl rfl)
theorem ac_one (s : ByteArray) (w : World) (hs : s.size ≤ 100000) :
    Calls Tryd.prog 24 #[.string s] w fun e w' => e = oneOut (Ap.one s.data.toList) ∧ Below w.heap.size w w' := by
  obtain ⟨L, hL⟩ : ∃ z, Ap.all s.data.toList 59 = z := ⟨_, rfl⟩
  have hsl : s.data.toList.length = s.size := rfl
  have hLl := Ap.all_len s.data.toList 59
  have hLp := Ap.all_len_pos s.data.toList 59
  have hLm : ∀ p ∈ L, p.length ≤ 100000 := fun p hp => by rw [← hL] at hp; have := Ap.all_mem hp; omega
  rw [hL] at hLl hLp
  obtain ⟨o, ho⟩ : ∃ o, Ap.one s.data.toList = o := ⟨_, rfl⟩
  rw [ho]
  have hone : o = if (Ap.cutB 47 (Tp.lower (L.getD 0 []))).2.2 = true ∧ Tp.isTok (Ap.cutB 47 (Tp.lower (L.getD 0 []))).1 = true ∧ Tp.isTok (Ap.cutB 47 (Tp.lower (L.getD 0 []))).2.1 = true ∧
      ((Ap.cutB 47 (Tp.lower (L.getD 0 []))).1 = [42] → (Ap.cutB 47 (Tp.lower (L.getD 0 []))).2.1 = [42]) then
    (Ap.takes (L.drop 1) (0, 1000, false)).map fun st => ((Ap.cutB 47 (Tp.lower (L.getD 0 []))).1, (Ap.cutB 47 (Tp.lower (L.getD 0 []))).2.1, st.1, st.2.1) else none := by
    rw [← ho]; unfold Ap.one; rw [hL]
  obtain ⟨N, hN⟩ : ∃ z, L.length = z := ⟨_, rfl⟩
  rw [hN] at hLl hLp
  have hNb : N ≤ 100001 := by omega
  obtain ⟨B, hB⟩ : ∃ z, w.heap.size = z := ⟨_, rfl⟩
  obtain ⟨W2, hW2⟩ : ∃ z, (w.alloc (.cells #[.string ⟨#[]⟩, .string ⟨#[]⟩, .int .i64 0, .int .i64 0] 33)).alloc (.cells #[.slice none 0 0] 38) = z := ⟨_, rfl⟩
  have hs2 : W2.heap.size = B + 2 := by rw [← hW2]; simp [hB]
  have hb2 : Below w.heap.size w W2 := by rw [← hW2]; exact ((Below.refl _ _).alloc (Nat.le_refl _) _).alloc (by simp) _
  have hZ2 : W2.heap[B]? = some (.cells #[.string ⟨#[]⟩, .string ⟨#[]⟩, .int .i64 0, .int .i64 0] 33 (0, 0)) := by
    rw [← hW2, Below.heap_alloc _ _ _ (by simp; omega), ← hB]
    exact World.alloc_heap_new _ _
  have hX2 : Boxed W2 (B + 1) 38 (.slice none 0 0) := by
    rw [← hW2]
    have h := Boxed.new (w.alloc (.cells #[.string ⟨#[]⟩, .string ⟨#[]⟩, .int .i64 0, .int .i64 0] 33)) 38 (.slice none 0 0)
    simpa [hB] using h
  obtain ⟨V, hV⟩ : ∃ z, (W2.alloc (.cells #[.string s] 9)).alloc (.cells #[.int .u8 59] 5) = z := ⟨_, rfl⟩
  have hsV : V.heap.size = B + 4 := by rw [← hV]; simp [hs2]
  have hb24 : Below W2.heap.size W2 V := by rw [← hV]; exact ((Below.refl _ _).alloc (Nat.le_refl _) _).alloc (by simp) _
  have hbS : Boxed V (B + 2) 9 (.string s) := by rw [← hV, ← hs2]; exact (Boxed.new _ _ _).alloc _
  have hbC : Boxed V (B + 3) 5 (.int .u8 59) := by
    have h := Boxed.new (W2.alloc (.cells #[.string s] 9)) 5 (.int .u8 59)
    rw [hV] at h
    simpa [hs2] using h
  have TE := Lib.hid (fun X => tk_Each s 59 X)
  obtain ⟨t, ht⟩ : ∃ t : Nat → ByteArray, ∀ k, tx (L.getD k []) = .string (t k) := ⟨fun k => ⟨(L.getD k []).toArray⟩, fun k => rfl⟩
  obtain ⟨i0, hi, hz0, hz1, hz2'⟩ := info_parts (show (Tryd.prog.info? 9).map (fun i => (i.zero, i.size, i.bytes)) = some (some (.string ByteArray.empty), 1, 16) by kernel_rfl)
  have hz2 := hz2'
  have HL := Lib.hid hL
  have HN := Lib.hid hN
  have HLM := Lib.hid hLm
  have HO := Lib.hid hone
  have HW2 := Lib.hid hW2
  have HB := Lib.hid hB
  have HV := Lib.hid hV
  have HS2 := Lib.hid hs2
  have HBV := Lib.hid (hb2.trans (hb24.mono hb2.size))
  have HZV := Lib.hid ((hb24.block B (by omega)).trans hZ2)
  have HXV := Lib.hid (boxed_below hX2 hb24)
  have HBS := Lib.hid hbS
  have HBC := Lib.hid hbC
  have HT := Lib.hid ht
  clear hL hLm hN ho hone hW2 hB hV hs2 hb2 hb24 hZ2 hX2 hbS hbC hz2' hLl ht
  refine callsIn_wide.1 (callsIn_of_wpAt_marks (n := 9) Tryd.func24 rfl trivial ?_ rfl)
  simp only [Tryd.ntmps24, List.size_toArray, List.length_cons, List.length_nil, Nat.reduceAdd, Nat.reduceSub, Array.replicate_succ, Array.replicate_zero, List.push_toArray, List.append_toArray, List.nil_append, List.cons_append]
  refine wpAt_seq (wpAt_of (wpIn_wide.2 ?_))
  go_wp2_with fail
  refine wpAt_seq (wpAt_of (wpIn_wide.2 ?_))
  go_wp2_with fail
  refine wpAt_seq (wpAt_seq (wpAt_of (wpIn_wide.2 ?_)))
  rw [HW2.out, HB.out]
  go_wp2_with fail
  refine (TE.out _).mono ?_
  rintro e w' ⟨rfl, rfl⟩
  rw [HV.out, HS2.out]
  go_wp2_with fail
  refine wpAt_block ?_
  refine rp_outerE (N := N) (M := B + 9) (own := fun b => b = B + 7) (Kp := KE3 (B + 6)) (encs := fun k => #[.int .i64 k, .string (t k)]) (n := 9) trivial rfl ⟨_, rfl⟩ (by omega) (gf := 29) (lb := #[.pointer (some ⟨B + 2, 0, none⟩), .pointer (some ⟨B + 2 + 1, 0, none⟩)]) rfl trivial (enters_of Tryd.func29 (by kernel_rfl) rfl)
    (fun _ => rfl) (fun b hb => by subst hb; omega)
    (fun X hX hs => by
      have h := eachP_it (B + 2) (B + 3) (B + 6) 59 s.data.toList (by decide) (by omega) (KE3 (B + 6)) X (by omega) (fun _ _ h => h) ((hX.block _ (by omega)).trans HBS.out) ((hX.block _ (by omega)).trans HBC.out)
      rw [HL.out] at h
      simp only [HT.out, HN.out] at h
      exact h.anyP _)
    KE3.trans (fun X o o' h2 h3 b h4 h5 h6 => World.putObj_heap_other (by omega))
    (fun k X => Below w.heap.size w X ∧ X.heap[B]? = some (.cells #[.string ⟨#[]⟩, .string ⟨#[]⟩, .int .i64 0, .int .i64 0] 33 (0, 0)) ∧ ∃ lv, Boxed X (B + 1) 38 lv ∧ X.ownsRow (B + 9) 9 1 lv k ((L.take k).map tx)) (fun c X => False) (fun c X => False)
    (fun k X Y hs ht => by
      obtain ⟨h1, h2, lv, h3, h4⟩ := hs
      exact ⟨h1.trans (ht.below (by have := HB.out; omega) h1.size (fun b hb => by have := HB.out; omega)), ht.low h2 (by omega) (by omega), lv, ht.boxed h3 (by omega), own_turnY h4 ht (fun b hb => by omega)⟩)
    (fun c X Y hs ht => hs) (fun c X Y hs ht => hs) ⟨HBV.out, HZV.out, _, HXV.out, World.ownsRow_nil _ _ _ _⟩ ?E
  case E =>
    apply Exists.intro
    refine ⟨?asg, ?bod, ?don, ?stp, ?pan⟩
    case stp => exact fun D c X hD hf => hf.elim
    case pan => exact fun D c X hD hf => hf.elim
    case asg =>
      intro l' k X K hk hi hM hK
      have HKK := Lib.hid hK
      clear hK hk
      gi_wp2
      exact HKK.out _ (KeepsFrom.refl _ _) (KE3.refl _ _) hi
    case bod =>
      rintro l' k X hl' ⟨r, hr⟩ hk ⟨hb, hz, lv, hbx, hrow⟩ hM
      obtain ⟨lp, lc, rfl⟩ := own_slY hrow
      have cl := hbx.cell
      have HBX := Lib.hid hbx
      have HROW := Lib.hid hrow
      have HBB := Lib.hid hb
      have HZZ := Lib.hid hz
      have HMM := Lib.hid hM
      have HTK := Lib.hid (show L.take (k + 1) = L.take k ++ [L.getD k []] by
        rw [List.take_add_one, List.getD_eq_getElem?_getD, List.getElem?_eq_getElem (by rw [HN.out]; exact hk)]; rfl)
      have hkb : k ≤ 100001 := by omega
      clear hb hz hbx hrow
      gi_wp2_with (gi_at_builtin; refine wpListIn_append_own _ rfl _ _ 38 rfl (B + 9) 9 i0 (.string ByteArray.empty) 1 16 Tryd.underlying38 hi hz0 hz1 hz2 rfl (by decide) _ _ _ rfl (HROW.out.alloc _) ⟨X.heap.size, 0, none⟩ 1 1 [.string (t k)] rfl rfl ?d1 ?d2 ?d3 ?d4 ?d5 ?_)
      try (case d1 =>
        intro j u hj
        match j, hj with
        | 0, hj => simp at hj; subst hj; simp [Addr.add])
      try (case d2 => first | rfl | (intro u hu; simp at hu; subst hu; rfl))
      try (case d3 => unfold maxLen; omega)
      try (case d4 => omega)
      try (case d5 => have := HMM.out; simp; omega)
      intro v' W3 hown' hgrow _
      have hX3 : X.heap.size ≤ W3.heap.size := Nat.le_trans (by simp) hgrow.size
      have hkeep : ∀ b, b < B + 9 → b < X.heap.size → W3.heap[b]? = X.heap[b]? := fun b h1 h2 =>
        (hgrow.block b (by simp; omega) (fun e => by have := own_geY HROW.out b e.symm; omega)).trans (Below.heap_alloc _ _ _ h2)
      have hBX : B + 9 ≤ X.heap.size := HMM.out
      have hbx3 : Boxed W3 (B + 1) 38 (.slice lp k lc) := (hkeep (B + 1) (by omega) (by omega)).trans HBX.out
      have cl3 := hbx3.cell
      have fl3 := hbx3.frozen
      obtain ⟨p', c', rfl⟩ := own_slY hown'
      have HR4 := Lib.hid (show (W3.setCell ⟨B + 1, 0, none⟩ (.slice p' (k + 1) c')).ownsRow (B + 9) 9 1 (.slice p' (k + 1) c') (k + 1) ((L.take (k + 1)).map tx) by
        rw [HTK.out, List.map_append, List.map_singleton, HT.out, List.map_take]
        exact own_setY hown' (by omega))
      have HB4 := Lib.hid (show Boxed (W3.setCell ⟨B + 1, 0, none⟩ (.slice p' (k + 1) c')) (B + 1) 38 (.slice p' (k + 1) c') from hbx3.set _)
      have hk4 : ∀ b, b < B + 9 → b < X.heap.size → b ≠ B + 1 → (W3.setCell ⟨B + 1, 0, none⟩ (.slice p' (k + 1) c')).heap[b]? = X.heap[b]? := fun b h1 h2 h3 => (Below.heap_setCell _ _ _ _ (by show b ≠ B + 1; exact h3)).trans (hkeep b h1 h2)
      have HK4 := Lib.hid hk4
      have HGB := Lib.hid (show Below w.heap.size w (W3.setCell ⟨B + 1, 0, none⟩ (.slice p' (k + 1) c')) from
        (HBB.out.trans ((((Below.refl _ X).alloc HBB.out.size _).trans (Below.grown (Below.refl _ _) hgrow (by simp; have := HBB.out.size; omega) (fun g hg => by have := own_geY HROW.out g hg; have := HB.out; omega))))).setCell (p := ⟨B + 1, 0, none⟩) (by have := HB.out; show w.heap.size ≤ B + 1; omega) _)
      have HKF := Lib.hid (show KeepsFrom V.heap.size X (W3.setCell ⟨B + 1, 0, none⟩ (.slice p' (k + 1) c')) from ⟨Nat.le_trans hX3 (KeepsWalks.setCell W3 _ _).size, fun b o' h1 h2 h3 => by
        have hne : b ≠ B + 1 := by omega
        refine (Below.heap_setCell _ _ _ _ (by show b ≠ B + 1; exact hne)).trans ((hgrow.block b (by have := (Array.getElem?_eq_some_iff.1 h2).1; simp; omega) (fun e => ?_)).trans ((Below.heap_alloc _ _ _ (Array.getElem?_eq_some_iff.1 h2).1).trans h2))
        obtain ⟨cs, ty, fr, hcs⟩ := own_isCells HROW.out b e.symm
        rw [h2] at hcs
        cases hcs
        cases h3⟩)
      clear hown' hgrow hkeep hbx3 hk4
      gi_wp2
      exact ⟨HKF.out, fun b h1 h2 h3 => HK4.out b (by omega) h3 (by omega), HGB.out, (HK4.out B (by omega) (by omega) (by omega)).trans HZZ.out, _, HB4.out, HR4.out⟩
    case don =>
      rintro D X hD ⟨hb, hz, lv, hbx, hrow⟩ hK
      rw [List.take_of_length_le (by rw [HN.out]; exact Nat.le_refl _)] at hrow
      obtain ⟨lp, lc, rfl⟩ := own_slY hrow
      have HQ := Lib.hid (show OneW w X B D (.slice lp N lc) N L from ⟨hb, HB.out, by omega, hK, hz, hbx, hrow⟩)
      obtain ⟨g, rfl, hgB, hNc, hx0, hgX⟩ := own_atY hrow (k := 0) hLp (v := tx (L.getD 0 [])) (by
        rw [List.getElem?_map, List.getD_eq_getElem?_getD, List.getElem?_eq_getElem (by rw [HN.out]; exact hLp)]; rfl)
      have hmem0 : L.getD 0 [] ∈ L := by rw [List.getD_eq_getElem?_getD, List.getElem?_eq_getElem (by rw [HN.out]; exact hLp)]; exact List.getElem_mem _
      have h0l := HLM.out _ hmem0
      have hO := HO.out
      obtain ⟨L0, hL0⟩ : ∃ z, L.getD 0 [] = z := ⟨_, rfl⟩
      rw [hL0] at hx0 h0l hO
      obtain ⟨z, hz'⟩ : ∃ z, Tp.lower L0 = z := ⟨_, rfl⟩
      have hzl : z.length ≤ 100000 := by rw [← hz', lowY_len]; exact h0l
      have KL := fun W => tok_lower ⟨L0.toArray⟩ W (by rw [ba_size]; omega)
      have KC := fun W => str_CutB ⟨z.toArray⟩ 47 W (by rw [ba_size]; omega)
      simp only at KL KC
      rw [hz'] at KL hO
      have hcl := Ap.cutB_len 47 z
      obtain ⟨ty, hty⟩ : ∃ y, (Ap.cutB 47 z).1 = y := ⟨_, rfl⟩
      obtain ⟨su, hsu⟩ : ∃ y, (Ap.cutB 47 z).2.1 = y := ⟨_, rfl⟩
      obtain ⟨fd, hfd⟩ : ∃ y, (Ap.cutB 47 z).2.2 = y := ⟨_, rfl⟩
      rw [hty, hsu, hfd] at KC hO
      rw [hty, hsu] at hcl
      have KK1 := fun W => tok_token ⟨ty.toArray⟩ W (by rw [ba_size]; omega)
      have KK2 := fun W => tok_token ⟨su.toArray⟩ W (by rw [ba_size]; omega)
      simp only at KK1 KK2
      unfold tx at hx0 KC
      obtain ⟨xb, hxb⟩ : ∃ y : ByteArray, (⟨L0.toArray⟩ : ByteArray) = y := ⟨_, rfl⟩
      obtain ⟨zb, hzb⟩ : ∃ y : ByteArray, (⟨z.toArray⟩ : ByteArray) = y := ⟨_, rfl⟩
      obtain ⟨tb, htb⟩ : ∃ y : ByteArray, (⟨ty.toArray⟩ : ByteArray) = y := ⟨_, rfl⟩
      obtain ⟨ub, hub⟩ : ∃ y : ByteArray, (⟨su.toArray⟩ : ByteArray) = y := ⟨_, rfl⟩
      rw [hxb] at hx0 KL
      rw [hzb] at KL KC
      rw [htb] at KC KK1
      rw [hub] at KC KK2
      obtain ⟨i1, hi1⟩ : ∃ y, Tp.isTok ty = y := ⟨_, rfl⟩
      obtain ⟨i2, hi2⟩ : ∃ y, Tp.isTok su = y := ⟨_, rfl⟩
      rw [hi1] at KK1 hO
      rw [hi2] at KK2 hO
      obtain ⟨bk, hbk⟩ : ∃ y, (ty == ([42] : List UInt8)) = y := ⟨_, rfl⟩
      obtain ⟨bs, hbs⟩ : ∃ y, (su == ([42] : List UInt8)) = y := ⟨_, rfl⟩
      have k1 : (tb.toList == ([42] : List UInt8)) = bk := by rw [← htb, ba_list]; exact hbk
      have k1n : (tb.toList != ([42] : List UInt8)) = !bk := by rw [← k1]; rfl
      have k2 : (ub.toList == ([42] : List UInt8)) = bs := by rw [← hub, ba_list]; exact hbs
      have HOO := Lib.hid (show o = if (fd && i1 && i2 && (!bk || bs)) = true then (Ap.takes (L.drop 1) (0, 1000, false)).map fun st => (ty, su, st.1, st.2.1) else none by
        rw [hO]
        have e1 : ty = [42] ↔ bk = true := by rw [← hbk]; simp
        have e2 : su = [42] ↔ bs = true := by rw [← hbs]; simp
        simp only [e1, e2]
        cases fd <;> cases i1 <;> cases i2 <;> cases bk <;> cases bs <;> simp)
      have MU := Lib.hid (fun W => ac_must 220 W)
      have MN := Lib.hid (fun W => ac_must_no 220 W)
      have HKL := Lib.hid KL
      have HKC := Lib.hid KC
      have HK1 := Lib.hid KK1
      have HK2 := Lib.hid KK2
      have HTB := Lib.hid htb
      have HUB := Lib.hid hub
      have HX0 := Lib.hid hx0
      have HL0 := Lib.hid hL0
      have HGB := Lib.hid hgB
      have HGX := Lib.hid hgX
      have cl := HQ.out.bx.cell
      have hN1 : 1 ≤ N := hLp
      have hNI : (1 : Int) ≤ (N : Int) := by omega
      clear hb hz hbx hrow hK hmem0 h0l hO hL0 hz' hzl KL KC hcl hty hsu hfd KK1 KK2 hxb hzb htb hub hi1 hi2 hbk hbs hgB hgX
      refine wpAt_of (wpIn_wide.2 ?_)
      go_wp2_with fail
      refine (HKL.out _).mono ?_
      rintro e w1 ⟨rfl, hb1⟩
      have HQ1 := Lib.hid (HQ.out.next hb1)
      have HGX1 := Lib.hid (Nat.lt_of_lt_of_le HGX.out hb1.size)
      have HX01 := Lib.hid ((hb1.cell (p := ⟨g, 0, none⟩) HGX.out).trans HX0.out)
      clear hb1 cl hx0
      go_wp2_with fail
      refine (HKC.out _).mono ?_
      rintro e w2 ⟨rfl, hb2⟩
      have HQ2 := Lib.hid (HQ1.out.next hb2)
      clear hb2
      go_upto_region 6 with (fail)
      go_cut [] from 27 (fun wx => (fd && i1 && i2 && (!bk || bs)) = true ∧ OneW w wx B D (.slice (some ⟨g, 0, none⟩) N lc) N L)
      case first =>
        cases fd with
        | false =>
          have HE := Lib.hid (show o = none by rw [HOO.out]; simp)
          go_wp2_with fail
          refine (MN.out _).mono ?_
          rintro e w9 ⟨rfl, hw⟩
          subst hw
          exact ⟨by simp, .inl ⟨_, _, rfl, run_takeDeferred HQ2.out.K, by rw [HE.out]; rfl, HQ2.out.shut⟩⟩
        | true =>
          go_wp2_with fail
          refine (HK1.out _).mono ?_
          rintro e w3 ⟨rfl, hb3⟩
          have HQ3 := Lib.hid (HQ2.out.next hb3)
          clear hb3
          cases i1 with
          | false =>
            have HE := Lib.hid (show o = none by rw [HOO.out]; simp)
            go_wp2_with fail
            refine (MN.out _).mono ?_
            rintro e w9 ⟨rfl, hw⟩
            subst hw
            exact ⟨by simp, .inl ⟨_, _, rfl, run_takeDeferred HQ3.out.K, by rw [HE.out]; rfl, HQ3.out.shut⟩⟩
          | true =>
            go_wp2_with fail
            refine (HK2.out _).mono ?_
            rintro e w4 ⟨rfl, hb4⟩
            have HQ4 := Lib.hid (HQ3.out.next hb4)
            clear hb4
            cases i2 with
            | false =>
              have HE := Lib.hid (show o = none by rw [HOO.out]; simp)
              go_wp2_with fail
              refine (MN.out _).mono ?_
              rintro e w9 ⟨rfl, hw⟩
              subst hw
              exact ⟨by simp, .inl ⟨_, _, rfl, run_takeDeferred HQ4.out.K, by rw [HE.out]; rfl, HQ4.out.shut⟩⟩
            | true =>
              cases bk with
              | false =>
                go_wp2_with fail
                refine (MU.out _).mono ?_
                rintro e w9 ⟨rfl, hw⟩
                subst hw
                go_wp2_with fail
                go_meet
                exact ⟨rfl, HQ4.out⟩
              | true =>
                cases bs with
                | false =>
                  have HE := Lib.hid (show o = none by rw [HOO.out]; simp)
                  go_wp2_with fail
                  refine (MN.out _).mono ?_
                  rintro e w9 ⟨rfl, hw⟩
                  subst hw
                  exact ⟨by simp, .inl ⟨_, _, rfl, run_takeDeferred HQ4.out.K, by rw [HE.out]; rfl, HQ4.out.shut⟩⟩
                | true =>
                  go_wp2_with fail
                  refine (MU.out _).mono ?_
                  rintro e w9 ⟨rfl, hw⟩
                  subst hw
                  go_wp2_with fail
                  go_meet
                  exact ⟨rfl, HQ4.out⟩
      case rest =>
        obtain ⟨hok, hq⟩ := hcut
        obtain ⟨wd, rfl⟩ : ∃ y, y = wc := ⟨_, rfl⟩
        have HQD := Lib.hid hq
        rw [hok] at HOO
        have HE := Lib.hid (show o = (Ap.takes (L.drop 1) (0, 1000, false)).map fun st => (ty, su, st.1, st.2.1) by rw [HOO.out, if_pos rfl])
        obtain ⟨R, hR⟩ : ∃ y, wd.heap.size = y := ⟨_, rfl⟩
        obtain ⟨we, hwe⟩ : ∃ y, wd.alloc (.cells #[.string tb, .string ub, .int .i64 0, .int .i64 1000, .bool false] 72) = y := ⟨_, rfl⟩
        have hbe : Below wd.heap.size wd we := by rw [← hwe]; exact (Below.refl _ _).alloc (Nat.le_refl _) _
        have hqe := hq.next hbe
        have hre : we.heap[R]? = some (rdC tb ub 0 1000 false) := by rw [← hwe, ← hR]; exact World.alloc_heap_new _ _
        have cl := hqe.bx.cell
        have hrow := hqe.row
        obtain ⟨p1, hslc, hp1, hp2⟩ : ∃ p1 : Option Addr, (∀ W, (Instr.slice 38 (.slice (some ⟨g, 0, none⟩) N lc) (some (.int .i64 1)) none none).run Tryd.prog W = .ok (.slice p1 (N - 1) (lc - 1)) W) ∧ (lc ≠ 1 → p1 = some ⟨g, 1, none⟩) ∧ (lc = 1 → N = 1) := by
          have hc1 : Tryd.prog.cellsOf 9 = 1 := by kernel_rfl
          by_cases hlc : lc = 1
          · refine ⟨some ⟨g, 0, none⟩, fun W => ?_, fun h => absurd hlc h, fun _ => by omega⟩
            subst hlc
            simp [go_sem, Tryd.underlying38, hNI, hc1]
          · refine ⟨some ⟨g, 1, none⟩, fun W => ?_, fun _ => rfl, fun h => absurd h hlc⟩
            simp [go_sem, Tryd.underlying38, hNI, hc1, hlc]
        have hsrow : SRow we (.slice p1 (N - 1) (lc - 1)) (L.drop 1) := by
          refine ⟨p1, lc - 1, by rw [List.length_drop, HN.out], fun j hj => ?_⟩
          rw [List.length_drop, HN.out] at hj
          refine ⟨g, 1, hp1 (fun h => by have := hp2 h; omega), ?_⟩
          obtain ⟨g2, hg2, _, _, hcell, _⟩ := own_atY hrow (k := 1 + j) (by omega) (v := tx (L.getD (1 + j) [])) (by
            rw [List.getElem?_map, List.getD_eq_getElem?_getD, List.getElem?_eq_getElem (by rw [HN.out]; omega)]; rfl)
          cases hg2
          rw [hcell]
          congr 2
          rw [List.getD_eq_getElem?_getD, List.getD_eq_getElem?_getD, List.getElem?_drop]
        have hgR : g < R := by rw [← hR]; exact (own_atY hq.row (k := 0) hLp (v := tx (L.getD 0 [])) (by
          rw [List.getElem?_map, List.getD_eq_getElem?_getD, List.getElem?_eq_getElem (by rw [HN.out]; exact hLp)]; rfl)).elim (fun g2 h => by cases h.1; exact h.2.2.2.2)
        have KT := ac_takes R (.slice p1 (N - 1) (lc - 1)) (L.drop 1) tb ub (0, 1000, false) we hsrow (fun j hj g' o' c' hv => by
          rw [List.length_drop, HN.out] at hj
          have h1 := hp1 (fun h => by have := hp2 h; omega)
          rw [h1] at hv
          simp only [Value.slice.injEq, Option.some.injEq, Addr.mk.injEq] at hv
          obtain ⟨⟨rfl, _⟩, _⟩ := hv; exact hgR) (by rw [List.length_drop, HN.out]; omega) (fun p hp => HLM.out p (List.mem_of_mem_drop hp)) hre (by decide)
        have HKT := Lib.hid KT
        have HQE := Lib.hid hqe
        have HWE := Lib.hid hwe
        have HR := Lib.hid hR
        have HRL := Lib.hid (show R < we.heap.size from (Array.getElem?_eq_some_iff.1 hre).1)
        have HBR := Lib.hid (show B + 1 < R by rw [← hR]; exact hq.bx.lt)
        clear hq hok HOO hbe hqe hre hrow hsrow hgR KT hwe hR hp1 hp2
        go_upto_region 8 with (fail)
        rw [HWE.out, HR.out]
        go_wp2_with (simp only [hslc])
        refine HKT.out.mono ?_
        rintro e wf ⟨hbf, hout⟩
        have hqf : OneW w wf B D (.slice (some ⟨g, 0, none⟩) N lc) N L := by
          have hlow : ∀ b, b < R → wf.heap[b]? = we.heap[b]? := fun b hb => hbf.block b hb
          have hq := HQE.out
          have hq0 := HQD.out
          have hRs := HR.out
          exact ⟨hq.hb.trans (hbf.mono (by rw [← hRs]; exact hq0.hb.size)), hq.hB, hq.hD, (hlow D (by rw [← hRs]; exact (Array.getElem?_eq_some_iff.1 hq0.K).1)).trans hq.K, (hlow B (Nat.lt_of_succ_lt HBR.out)).trans hq.Z, (hlow (B + 1) HBR.out).trans hq.bx,
            (show wf.ownsRow (B + 9) 9 1 (.slice (some ⟨g, 0, none⟩) N lc) N (L.map tx) from own_keep2 hq.row (fun g2 hg2 => (hlow g2 (by
              have h2 := hq0.row.lt g2 hg2
              rw [← hRs]; exact h2.2))))⟩
        have HQF := Lib.hid hqf
        clear hbf hqf cl hslc
        rcases hout with ⟨⟨pa, q, sn⟩, hst, rfl, hrf⟩ | ⟨hst, rfl⟩
        · have HF := Lib.hid (show o = some (ty, su, pa, q) by rw [HE.out, hst]; rfl)
          obtain ⟨c0, c1, c2, c3, c4, _⟩ := rd_cell hrf
          have hz := HQF.out.Z
          have z0 : wf.frozen? ⟨B, 0, none⟩ = false := frozen_of_row _ _ _ _ _ hz
          have z1 : wf.frozen? ⟨B, 1, none⟩ = false := frozen_of_row _ _ _ _ _ hz
          have z2 : wf.frozen? ⟨B, 2, none⟩ = false := frozen_of_row _ _ _ _ _ hz
          have z3 : wf.frozen? ⟨B, 3, none⟩ = false := frozen_of_row _ _ _ _ _ hz
          have e0 : wf.cell? ⟨B, 0, none⟩ = some (.string ⟨#[]⟩) := by simp [World.cell?, hz]
          have e1 : wf.cell? ⟨B, 1, none⟩ = some (.string ⟨#[]⟩) := by simp [World.cell?, hz]
          have e2 : wf.cell? ⟨B, 2, none⟩ = some (.int .i64 0) := by simp [World.cell?, hz]
          have e3 : wf.cell? ⟨B, 3, none⟩ = some (.int .i64 0) := by simp [World.cell?, hz]
          dsimp only at c0 c1 c2 c3 c4
          clear hst hrf hz
          go_wp2_with fail
          have hwfB := (Array.getElem?_eq_some_iff.1 HQF.out.Z).1
          have hDB : D ≠ B := by have := HQF.out.hD; omega
          refine ⟨by simp, .inl ⟨_, _, rfl, run_takeDeferred ((Below.heap_setCell _ _ _ _ hDB).trans ((Below.heap_setCell _ _ _ _ hDB).trans ((Below.heap_setCell _ _ _ _ hDB).trans ((Below.heap_setCell _ _ _ _ hDB).trans HQF.out.K)))), ?_⟩⟩
          have f4 : ((((wf.setCell ⟨B, 0, none⟩ (.string tb)).setCell ⟨B, 1, none⟩ (.string ub)).setCell ⟨B, 2, none⟩ (.int .i64 pa)).setCell ⟨B, 3, none⟩ (.int .i64 q)).heap[B]? = some (.cells #[.string tb, .string ub, .int .i64 pa, .int .i64 q] 33 (0, 0)) := by
            have a1 : (wf.setCell ⟨B, 0, none⟩ (.string tb)).heap[B]? = some (.cells #[.string tb, .string ⟨#[]⟩, .int .i64 0, .int .i64 0] 33 (0, 0)) := (heap_setCell_same wf B 0 _ _ _ HQF.out.Z).trans (by simp)
            have a2 : ((wf.setCell ⟨B, 0, none⟩ (.string tb)).setCell ⟨B, 1, none⟩ (.string ub)).heap[B]? = some (.cells #[.string tb, .string ub, .int .i64 0, .int .i64 0] 33 (0, 0)) := (heap_setCell_same _ B 1 _ _ _ a1).trans (by simp)
            have a3 : (((wf.setCell ⟨B, 0, none⟩ (.string tb)).setCell ⟨B, 1, none⟩ (.string ub)).setCell ⟨B, 2, none⟩ (.int .i64 pa)).heap[B]? = some (.cells #[.string tb, .string ub, .int .i64 pa, .int .i64 0] 33 (0, 0)) := (heap_setCell_same _ B 2 _ _ _ a2).trans (by simp)
            exact (heap_setCell_same _ B 3 _ _ _ a3).trans (by simp)
          have K4 : ((((wf.setCell ⟨B, 0, none⟩ (.string tb)).setCell ⟨B, 1, none⟩ (.string ub)).setCell ⟨B, 2, none⟩ (.int .i64 pa)).setCell ⟨B, 3, none⟩ (.int .i64 q)).heap[D]? = some (.deferred (some [])) := ((Below.heap_setCell _ _ _ _ hDB).trans ((Below.heap_setCell _ _ _ _ hDB).trans ((Below.heap_setCell _ _ _ _ hDB).trans ((Below.heap_setCell _ _ _ _ hDB).trans HQF.out.K))))
          have B4 : Below B w ((((wf.setCell ⟨B, 0, none⟩ (.string tb)).setCell ⟨B, 1, none⟩ (.string ub)).setCell ⟨B, 2, none⟩ (.int .i64 pa)).setCell ⟨B, 3, none⟩ (.int .i64 q)) := by
            have h := HQF.out.hb
            rw [HB.out] at h
            exact (((h.setCell (p := ⟨B, 0, none⟩) (Nat.le_refl _) _).setCell (p := ⟨B, 1, none⟩) (Nat.le_refl _) _).setCell (p := ⟨B, 2, none⟩) (Nat.le_refl _) _).setCell (p := ⟨B, 3, none⟩) (Nat.le_refl _) _
          obtain ⟨W4, hW4⟩ : ∃ y, (((wf.setCell ⟨B, 0, none⟩ (.string tb)).setCell ⟨B, 1, none⟩ (.string ub)).setCell ⟨B, 2, none⟩ (.int .i64 pa)).setCell ⟨B, 3, none⟩ (.int .i64 q) = y := ⟨_, rfl⟩
          rw [hW4] at f4 K4 B4 ⊢
          have f5 : (W4.putObj D (.deferred none)).heap[B]? = some (.cells #[.string tb, .string ub, .int .i64 pa, .int .i64 q] 33 (0, 0)) := (World.putObj_heap_other (by omega)).trans f4
          have c0 : (W4.putObj D (.deferred none)).cell? ⟨B, 0, none⟩ = some (.string tb) := by simp [World.cell?, f5]
          have c1 : (W4.putObj D (.deferred none)).cell? ⟨B, 1, none⟩ = some (.string ub) := by simp [World.cell?, f5]
          have c2 : (W4.putObj D (.deferred none)).cell? ⟨B, 2, none⟩ = some (.int .i64 pa) := by simp [World.cell?, f5]
          have c3 : (W4.putObj D (.deferred none)).cell? ⟨B, 3, none⟩ = some (.int .i64 q) := by simp [World.cell?, f5]
          have B5 : Below B w (W4.putObj D (.deferred none)) := B4.trans (belowK_b (w := w) (Nat.le_of_eq HB.out.symm) _ D _ _ (by have := HQF.out.hD; have := HB.out; omega) K4 rfl rfl)
          refine ⟨_, (by simp [results, Tryd.results24, go_sem, c0, c1, c2, c3]; rfl), ?_, B5⟩
          rw [HF.out]
          show _ = Ending.returned (.agg #[tx ty, tx su, .int .i64 (pa : Int), .int .i64 q])
          unfold tx
          rw [HTB.out, HUB.out]
        · have HF := Lib.hid (show o = none by rw [HE.out, hst]; rfl)
          exact ⟨by simp, .inl ⟨_, _, rfl, run_takeDeferred HQF.out.K, by rw [HF.out]; rfl, HQF.out.shut⟩⟩
end Go.Proofs.YtfacmnooklljnaaDoor

/- accept: read. A round's call may give up; what was put off catches it. No conditions but those that the law states. -/
namespace Go.Proofs.YtfacmnooklljnaaDoor
set_option linter.unusedVariables false
set_option linter.unusedSimpArgs false
open Go.RowKit Go.Shelf
attribute [local go_sem] Oper.semAt_some
set_option maxHeartbeats 8000000
set_option maxRecDepth 100000
/-- a range's cells; a row of ranges -/
def raC (r : Ap.Ra) : List Value := [tx r.1, tx r.2.1, .int .i64 (r.2.2.1 : Int), .int .i64 r.2.2.2]
def raCs (l : List Ap.Ra) : List Value := l.flatMap raC
theorem raCs_snoc (l : List Ap.Ra) (r : Ap.Ra) : raCs (l ++ [r]) = raCs l ++ raC r := by simp [raCs]
/-- what is told of a text's ranges: a row of the call's own, or the error -/
def RdO (o : Option (List Ap.Ra)) (b : Nat) (e : Ending) (w' : World) : Prop := match o with
  | some l => ∃ v, e = .returned (.tuple #[v, .int .i64 0]) ∧ w'.ownsRow b 33 4 v l.length (raCs l)
  | none => ∃ v, e = .returned (.tuple #[v, .int .i64 220])
/-- what stands while the parts are read -/
structure RdW (w X : World) (B S : Nat) (lv : Value) (acc : List Ap.Ra) : Prop where
  hb : Below w.heap.size w X
  z : Boxed X (B + 1) 29 (.int .i64 0)
  bx : Boxed X B 28 lv
  row : X.ownsRow (S + 7) 33 4 lv acc.length (raCs acc)
/-- what stands while a part's range is put into the row (0: the row loaded, 3: the new slice, 4: appended) -/
structure PuR (w0 : World) (V B S n : Nat) (V0 : Value) (xs : List Value) (f : Nat → Bool) (w : World) : Prop where
  bel : Below (S + 7) w0 w
  kf : KeepsFrom V w0 w
  an : w.heap[B]? = some (.cells #[V0] 28 (0, 0))
  own : f 4 = false → w.ownsRow (S + 7) 33 4 V0 n xs
  n0 : f 0 = false → f 4 = false
  n3 : f 3 = false → f 4 = false
theorem PuR.step {w0 w w' : World} {V B S n : Nat} {V0 : Value} {xs : List Value} {f : Nat → Bool} {i : Nat} (h : PuR w0 V B S n V0 xs f w) (hB : S + 7 ≤ w.heap.size) (k : Below w.heap.size w w') (h1 : i ≠ 4) : PuR w0 V B S n V0 xs (fun j => if j = i then true else f j) w' := by
  refine ⟨h.bel.trans (k.mono hB), h.kf.trans ⟨k.size, fun b o _ hb _ => (k.block b (Array.getElem?_eq_some_iff.1 hb).1).trans hb⟩, (k.block _ (Array.getElem?_eq_some_iff.1 h.an).1).trans h.an, fun h3 => own_belY (h.own (by simpa [Ne.symm h1] using h3)) k, fun h3 => ?_, fun h3 => ?_⟩
  · have : f 0 = false := by by_cases e : 0 = i <;> simp_all
    simpa [Ne.symm h1] using h.n0 this
  · have : f 3 = false := by by_cases e : 3 = i <;> simp_all
    simpa [Ne.symm h1] using h.n3 this
def puQ (S n : Nat) (p : ByteArray) (o : Option Ap.Ra) (r : Ap.Ra) (V1 : Value) (xs : List Value) : Nat → World → Value → Prop
  | 0, _, v => v = V1
  | 1, _, v => v = .string p
  | 2, _, v => v = raV r ∧ o = some r
  | 3, w, v => o = some r ∧ ∃ g, v = .slice (some ⟨g, 0, none⟩) 1 1 ∧ w.heap[g]? = some (.cells (raC r).toArray 33 (0, 0)) ∧ some g ≠ V1.ownBlock
  | 4, w, v => o = some r ∧ w.ownsRow (S + 7) 33 4 v (n + 1) (xs ++ raC r)
  | _, _, _ => False
theorem puQ_below {S n : Nat} {p : ByteArray} {o : Option Ap.Ra} {r : Ap.Ra} {V1 : Value} {xs : List Value} {w w' : World} (hb : Below w.heap.size w w') {j : Nat} {v : Value} (h : puQ S n p o r V1 xs j w v) : puQ S n p o r V1 xs j w' v := by
  match j, h with
  | 0, h | 1, h | 2, h => exact h
  | 3, ⟨ho, g, h1, h2, h3⟩ => exact ⟨ho, g, h1, (hb.block g (Array.getElem?_eq_some_iff.1 h2).1).trans h2, h3⟩
  | 4, ⟨ho, h⟩ => exact ⟨ho, own_belY h hb⟩
  | n + 5, h => exact h.elim
theorem rg_callQ {P : Program} {o : Oper} {a : Act} {w : World} {K : Act → World → Prop} {Q : Exit → Act → World → Prop} (t k : Nat) (ty : Array TypeId) (v : Value) (R : Ending → World → Prop) (ho : o.op = Op.call { callee := .value (.func k), args := #[.tmp t], argTypes := ty }) (hv : a.tmps.getD t undef = v)
    (eg : ∀ args w, (callFunc k args).run P w = .ok (.enter k args) w) (hc : Calls P k #[v] w R) (hR : ∀ e w', R e w' → (∃ r, e = .returned r ∧ K (a.put o.dst r) w') ∨ ∃ ch, e = .panicked ch ∧ Q (.panic ch) a w') : o.wp P a w K Q := by
  have e := rg_ev hv
  have e2 : a.eval (.func k) = .func (.func k) #[] #[] := rfl
  unfold Oper.wp execOp
  simp [ho, resolve, invoke, e2, e, eg, go_sem]
  refine hc.mono ?_
  intro z w' hz
  rcases hR z w' hz with ⟨r, rfl, hk⟩ | ⟨ch, rfl, hk⟩
  · exact hk
  · exact hk
/-- the last thing that a read does where it gave up: what was put off says why -/
theorem rd_no {fn : Func} {w W : World} {B : Nat} {lv : Value} {tm : Array Value} (hb : Below w.heap.size w W) (hB : w.heap.size = B) (hx : Boxed W B 28 lv) (hz : Boxed W (B + 1) 29 (.int .i64 0)) (R : Ending → World → Prop)
    (hr : ∀ w', w'.cell? ⟨B, 0, none⟩ = some lv → w'.cell? ⟨B + 1, 0, none⟩ = some (.int .i64 220) → Below w.heap.size w w' → LeavesInM Fence.wide 9 Tryd.prog fn tm R [] .returning w') :
    LeavesInM Fence.wide 9 Tryd.prog fn tm R [{ target := .fn (.func 20) #[], args := #[.pointer (some ⟨B + 1, 0, none⟩)] }] (.panicking [{ v := errno 220, recovered := false }]) W := by
  refine ⟨by simp, .inr ⟨fun _ => by decide, _, _, 20, #[.pointer (some ⟨B + 1, 0, none⟩)], rfl, by simp [invoke, go_sem, enters_of Tryd.func20 (by kernel_rfl) rfl], fun _ _ => trivial, ?_⟩⟩
  refine (ac_caught _ ⟨B + 1, 0, none⟩ 220 [] W _ hz.cell hz.frozen).mono ?_
  rintro e u' w' ⟨rfl, rfl, rfl⟩
  refine hr _ ?_ ?_ ?_
  · exact (hx.other (by omega) _).cell
  · exact (Boxed.set (v := .int .i64 0) _ hz).cell
  · exact hb.setCell (p := ⟨B + 1, 0, none⟩) (by show w.heap.size ≤ B + 1; omega) _
theorem rd_yes {fn : Func} {W : World} {p : Addr} {tm : Array Value} {R : Ending → World → Prop} (h : LeavesInM Fence.wide 9 Tryd.prog fn tm R [] .returning W) :
    LeavesInM Fence.wide 9 Tryd.prog fn tm R [{ target := .fn (.func 20) #[], args := #[.pointer (some p)] }] .returning W := by
  refine ⟨by simp, .inr ⟨fun _ => by decide, _, _, 20, #[.pointer (some p)], rfl, by simp [invoke, go_sem, enters_of Tryd.func20 (by kernel_rfl) rfl], fun _ _ => trivial, ?_⟩⟩
  refine (ac_caught_idle _ p W).mono ?_
  rintro e u' w' ⟨rfl, rfl, rfl⟩
  exact h
theorem ac_read (s : ByteArray) (w : World) (hs : s.size ≤ 100000) :
    Calls Tryd.prog 15 #[.string s] w fun e w' => Below w.heap.size w w' ∧ RdO (Ap.parse s.data.toList) w.heap.size e w' := by
  obtain ⟨L, hL⟩ : ∃ z, Ap.all s.data.toList 44 = z := ⟨_, rfl⟩
  have hsl : s.data.toList.length = s.size := rfl
  have hLl := Ap.all_len s.data.toList 44
  have hLm : ∀ p ∈ L, p.length ≤ 100000 := fun p hp => by rw [← hL] at hp; have := Ap.all_mem hp; omega
  rw [hL] at hLl
  obtain ⟨o, ho⟩ : ∃ o, Ap.parse s.data.toList = o := ⟨_, rfl⟩
  rw [ho]
  have hpar : o = if Tp.isVal s.data.toList = true then Ap.rd L [] else none := by rw [← ho]; unfold Ap.parse; rw [hL]
  obtain ⟨N, hN⟩ : ∃ z, L.length = z := ⟨_, rfl⟩
  rw [hN] at hLl
  have hNb : N ≤ 100001 := by omega
  obtain ⟨B, hB⟩ : ∃ z, w.heap.size = z := ⟨_, rfl⟩
  obtain ⟨W2, hW2⟩ : ∃ z, (w.alloc (.cells #[.slice none 0 0] 28)).alloc (.cells #[.int .i64 0] 29) = z := ⟨_, rfl⟩
  have hs2 : W2.heap.size = B + 2 := by rw [← hW2]; simp [hB]
  have hb2 : Below w.heap.size w W2 := by rw [← hW2]; exact ((Below.refl _ _).alloc (Nat.le_refl _) _).alloc (by simp) _
  have hX2 : Boxed W2 B 28 (.slice none 0 0) := by
    rw [← hW2, ← hB]; exact (Boxed.new _ _ _).alloc _
  have hZ2 : Boxed W2 (B + 1) 29 (.int .i64 0) := by
    rw [← hW2]
    have h := Boxed.new (w.alloc (.cells #[.slice none 0 0] 28)) 29 (.int .i64 0)
    simpa [hB] using h
  have HW2 := Lib.hid hW2
  have HB := Lib.hid hB
  have HS2 := Lib.hid hs2
  have HB2 := Lib.hid hb2
  have HX2 := Lib.hid hX2
  have HZ2 := Lib.hid hZ2
  have KV := Lib.hid (fun W => tok_value s W (by omega))
  have MU := Lib.hid (fun W => ac_must 220 W)
  have MN := Lib.hid (fun W => ac_must_no 220 W)
  obtain ⟨iv, hiv⟩ : ∃ y, Tp.isVal s.data.toList = y := ⟨_, rfl⟩
  rw [hiv] at KV hpar
  have HO := Lib.hid hpar
  have HL := Lib.hid hL
  have HN := Lib.hid hN
  have HLM := Lib.hid hLm
  clear hL hLm hN ho hpar hW2 hB hs2 hb2 hX2 hZ2 hLl hiv
  refine callsIn_wide.1 (callsIn_of_wpAt_marks (n := 9) Tryd.func15 rfl trivial ?_ rfl)
  simp only [Tryd.ntmps15, List.size_toArray, List.length_cons, List.length_nil, Nat.reduceAdd, Nat.reduceSub, Array.replicate_succ, Array.replicate_zero, List.push_toArray, List.append_toArray, List.nil_append, List.cons_append]
  refine wpAt_seq (wpAt_of (wpIn_wide.2 ?_))
  go_wp2_with fail
  rw [HW2.out, HB.out]
  refine wpAt_seq (wpAt_of (wpIn_wide.2 ?_))
  go_wp2_with fail
  refine wpAt_seq (wpAt_of (wpIn_wide.2 ?_))
  go_wp2_with fail
  refine (KV.out _).mono ?_
  rintro e w3 ⟨rfl, hb3⟩
  have HB3 := Lib.hid (HB2.out.trans (hb3.mono HB2.out.size))
  have HX3 := Lib.hid (boxed_below HX2.out hb3)
  have HZ3 := Lib.hid (boxed_below HZ2.out hb3)
  have HG3 := Lib.hid (show B + 2 ≤ w3.heap.size by rw [← HS2.out]; exact hb3.size)
  clear hb3
  cases iv with
  | false =>
    have HE := Lib.hid (show o = none by rw [HO.out]; simp)
    go_wp2_with fail
    refine (MN.out _).mono ?_
    rintro e w9 ⟨rfl, hw⟩
    subst hw
    refine rd_no HB3.out HB.out HX3.out HZ3.out _ (fun w' c0 c1 hb => ⟨_, by simp [results, Tryd.results15, go_sem, c0, c1]; rfl, ?_⟩)
    rw [HE.out]
    exact ⟨HB.out ▸ hb, _, rfl⟩
  | true =>
    have HE := Lib.hid (show o = Ap.rd L [] by rw [HO.out]; simp)
    clear HO
    go_wp2_with fail
    refine (MU.out _).mono ?_
    rintro e w9 ⟨rfl, hw⟩
    subst hw
    obtain ⟨S, hS⟩ : ∃ z, w9.heap.size = z := ⟨_, rfl⟩
    obtain ⟨V, hV⟩ : ∃ z, (w9.alloc (.cells #[.string s] 9)).alloc (.cells #[.int .u8 44] 5) = z := ⟨_, rfl⟩
    have hsV : V.heap.size = S + 2 := by rw [← hV]; simp [hS]
    have hb24 : Below w9.heap.size w9 V := by rw [← hV]; exact ((Below.refl _ _).alloc (Nat.le_refl _) _).alloc (by simp) _
    have hbS : Boxed V S 9 (.string s) := by rw [← hV, ← hS]; exact (Boxed.new _ _ _).alloc _
    have hbC : Boxed V (S + 1) 5 (.int .u8 44) := by
      have h := Boxed.new (w9.alloc (.cells #[.string s] 9)) 5 (.int .u8 44)
      rw [hV] at h
      simpa [hS] using h
    have TE := Lib.hid (fun X => tk_Each s 44 X)
    obtain ⟨t, ht⟩ : ∃ t : Nat → ByteArray, ∀ k, tx (L.getD k []) = .string (t k) := ⟨fun k => ⟨(L.getD k []).toArray⟩, fun k => rfl⟩
    obtain ⟨i0, hi, hz0, hz1, hz2'⟩ := info_parts (show (Tryd.prog.info? 33).map (fun i => (i.zero, i.size, i.bytes)) = some (some (.agg #[.string ByteArray.empty, .string ByteArray.empty, .int .i64 0, .int .i64 0]), 4, 48) by kernel_rfl)
    have hz2 := hz2'
    have HS := Lib.hid hS
    have HV := Lib.hid hV
    have HBV := Lib.hid (HB3.out.trans (hb24.mono HB3.out.size))
    have HXV := Lib.hid (boxed_below HX3.out hb24)
    have HZV := Lib.hid (boxed_below HZ3.out hb24)
    have HBS := Lib.hid hbS
    have HBC := Lib.hid hbC
    have HT := Lib.hid ht
    have HSB := Lib.hid (show B + 2 ≤ S by rw [← hS]; exact HG3.out)
    clear hS hV hb24 hbS hbC hz2' ht
    go_wp2_with fail
    refine wpAt_seq (wpAt_seq (wpAt_of (wpIn_wide.2 ?_)))
    go_wp2_with fail
    refine (TE.out _).mono ?_
    rintro e w' ⟨rfl, rfl⟩
    rw [HV.out, HS.out]
    go_wp2_with fail
    refine wpAt_block ?_
    refine rp_outerE (N := N) (M := S + 7) (own := fun b => b = S + 5) (Kp := KE3 (S + 4)) (encs := fun k => #[.int .i64 k, .string (t k)]) (n := 9) trivial rfl ⟨_, rfl⟩ (by omega) (gf := 29) (lb := #[.pointer (some ⟨S, 0, none⟩), .pointer (some ⟨S + 1, 0, none⟩)]) rfl trivial (enters_of Tryd.func29 (by kernel_rfl) rfl)
      (fun _ => rfl) (fun b hb => by subst hb; omega)
      (fun X hX hs => by
        have h := eachP_it S (S + 1) (S + 4) 44 s.data.toList (by decide) (by omega) (KE3 (S + 4)) X (by omega) (fun _ _ h => h) ((hX.block _ (by omega)).trans HBS.out) ((hX.block _ (by omega)).trans HBC.out)
        rw [HL.out] at h
        simp only [HT.out, HN.out] at h
        exact h.anyP _)
      KE3.trans (fun X o o' h2 h3 b h4 h5 h6 => World.putObj_heap_other (by omega))
      (fun k X => ∃ acc lv, RdW w X B S lv acc ∧ Ap.rd L [] = Ap.rd (L.drop k) acc ∧ acc.length ≤ k) (fun c X => False) (fun ch X => ch = [{ v := errno 220, recovered := false }] ∧ Ap.rd L [] = none ∧ Below w.heap.size w X ∧ Boxed X (B + 1) 29 (.int .i64 0) ∧ ∃ lv, Boxed X B 28 lv)
      (fun k X Y hs ht => by
        obtain ⟨acc, lv, ⟨h1, h2, h3, h4⟩, h5, h6⟩ := hs
        have := HB.out
        have := HSB.out
        exact ⟨acc, lv, ⟨h1.trans (ht.below (by omega) h1.size (fun b hb => by omega)), ht.boxed h2 (by omega), ht.boxed h3 (by omega), own_turnY h4 ht (fun b hb => by omega)⟩, h5, h6⟩)
      (fun c X Y hs ht => hs)
      (fun c X Y hs ht => by
        obtain ⟨h0, h1, h2, h3, lv, h4⟩ := hs
        have := HB.out
        have := HSB.out
        exact ⟨h0, h1, h2.trans (ht.below (by omega) h2.size (fun b hb => by omega)), ht.boxed h3 (by omega), lv, ht.boxed h4 (by omega)⟩)
      ⟨[], _, ⟨HBV.out, HZV.out, HXV.out, World.ownsRow_nil _ _ _ _⟩, rfl, Nat.le_refl _⟩ ?E
    case E =>
      apply Exists.intro
      refine ⟨?asg, ?bod, ?don, ?stp, ?pan⟩
      case stp => exact fun D c X hD hf => hf.elim
      case pan =>
        rintro D ch X hD ⟨rfl, hn, hb, hz, lv, hx⟩ hK
        refine ⟨by simp, .inl ⟨_, _, rfl, run_takeDeferred hK, ?_⟩⟩
        have hBD : B + 1 < D := by have := HSB.out; omega
        have hbD : Below B w (X.putObj D (.deferred none)) := by
          have h := hb
          rw [HB.out] at h
          exact h.trans (belowK_b (w := w) (Nat.le_of_eq HB.out.symm) _ D _ _ (by have := HB.out; omega) hK rfl rfl)
        refine rd_no (lv := lv) (HB.out.symm ▸ hbD) HB.out ((World.putObj_heap_other (by omega)).trans hx) ((World.putObj_heap_other (by omega)).trans hz) _ (fun w' c0 c1 hb => ⟨_, by simp [results, Tryd.results15, go_sem, c0, c1]; rfl, ?_⟩)
        rw [HE.out, hn]
        exact ⟨HB.out ▸ hb, _, rfl⟩
      case asg =>
        intro l' k X K hk hi hM hK
        have HKK := Lib.hid hK
        clear hK hk
        gi_wp2
        exact HKK.out _ (KeepsFrom.refl _ _) (KE3.refl _ _) hi
      case bod =>
        rintro l' k X hl' ⟨rl, hrl⟩ hk ⟨acc, lv, hq, hrd, hal⟩ hM
        have htk : (⟨(L.getD k []).toArray⟩ : ByteArray) = t k := by
          have h := HT.out k
          unfold tx at h
          exact Value.string.inj h
        have htl : (t k).toList = L.getD k [] := by rw [← htk, ba_list]
        have hdr : L.drop k = L.getD k [] :: L.drop (k + 1) := by
          rw [List.drop_eq_getElem_cons (by rw [HN.out]; exact hk), List.getD_eq_getElem?_getD, List.getElem?_eq_getElem (by rw [HN.out]; exact hk)]; rfl
        have hmem : L.getD k [] ∈ L := by rw [List.getD_eq_getElem?_getD, List.getElem?_eq_getElem (by rw [HN.out]; exact hk)]; exact List.getElem_mem _
        have hpl := HLM.out _ hmem
        rw [hdr] at hrd
        obtain ⟨pl, hpl'⟩ : ∃ y, L.getD k [] = y := ⟨_, rfl⟩
        obtain ⟨pb, hpb⟩ : ∃ y, t k = y := ⟨_, rfl⟩
        rw [hpl'] at htk htl hrd hpl
        rw [hpb] at htk htl ⊢
        have HRD := Lib.hid hrd
        have HQ := Lib.hid hq
        have HM := Lib.hid hM
        have hkb : k ≤ 100001 := by omega
        by_cases hemp : pl = []
        · have he : (pb.toList == ([] : List UInt8)) = true := by rw [htl, hemp]; rfl
          have hen : (pb.toList != ([] : List UInt8)) = false := by rw [htl, hemp]; rfl
          have HEM := Lib.hid hemp
          clear hrd hmem hdr htk htl hpl hpl' hpb hq hM hrl hk hemp
          gi_wp2
          exact ⟨KeepsFrom.refl _ _, KE3.refl _ _, acc, lv, HQ.out, by rw [HRD.out]; simp [Ap.rd, HEM.out], by omega⟩
        · have he : (pb.toList == ([] : List UInt8)) = false := by rw [htl]; simpa using hemp
          have hen : (pb.toList != ([] : List UInt8)) = true := by rw [htl]; simpa using hemp
          obtain ⟨oo, hoo⟩ : ∃ y, Ap.one pl = y := ⟨_, rfl⟩
          obtain ⟨r, hr⟩ : ∃ r, ∀ x, oo = some x → x = r := ⟨oo.getD ([], [], 0, 0), fun x h => by rw [h]; rfl⟩
          have KO := Lib.hid (fun W => by
            have h := ac_one pb W (by rw [← htk, ba_size]; exact hpl)
            rw [show pb.data.toList = pl by rw [← htk], hoo] at h
            exact h)
          have HR2 := Lib.hid (show Ap.rd L [] = oo.bind fun r => Ap.rd (L.drop (k + 1)) (acc ++ [r]) by
            rw [hrd, ← hoo]; simp [Ap.rd, hemp])
          have HRR := Lib.hid hr
          clear hrd hmem hdr htk htl hpl hpl' hpb hq hM hrl hk hemp hoo hr
          gi_wp2_with fail
          obtain ⟨hb, hz, hx, hrow⟩ := HQ.out
          have hBS := HSB.out
          have HB0 := Lib.hid hb
          have HZ0 := Lib.hid hz
          have HX0 := Lib.hid hx
          have HROW := Lib.hid hrow
          have HPO := Lib.hid (show PuR X (S + 2) B S acc.length lv (raCs acc) (fun _ => false) X.drew from
            ⟨(Below.refl _ _).drew, ⟨(Below.refl 0 X).drew.size, fun b o _ hb _ => hb⟩, hx, fun _ => own_belY hrow (Below.refl _ _).drew, fun _ => rfl, fun _ => rfl⟩)
          clear hb hz hx hrow
          refine region_last6R 5 (fun i => 15 + min i 4) (fun _ => puQ S acc.length pb oo r lv (raCs acc)) (PuR X (S + 2) B S acc.length lv (raCs acc)) (by kernel_rfl) (by kernel_rfl) (by kernel_rfl) (by kernel_rfl) ?ng rfl (by kernel_rfl) (fun i => by show 15 + min i 4 < _; simp; omega) (fun i j hi hj h => by have h : 15 + min i 4 = 15 + min j 4 := h; omega) ?start ?dst ?step ?last
          case ng =>
            intro i o ho
            match i, ho with
            | 0, ho | 1, ho | 2, ho | 3, ho | 4, ho | 5, ho => cases ho; rfl
            | n + 6, ho => exact absurd ho (by simp)
          case start => exact HPO.out
          case dst =>
            intro i o hi ho
            match i, hi, ho with
            | 0, _, ho | 1, _, ho | 2, _, ho | 3, _, ho | 4, _, ho => cases ho; rfl
            | n + 5, hi, _ => exact absurd hi (by omega)
          case step =>
            intro f a' W i oo' hib ho hfi hpre hT hrest hdf
            have hBW : S + 7 ≤ W.heap.size := Nat.le_trans HM.out hT.bel.size
            match i, hib, ho with
            | 0, _, ho =>
              cases ho
              have q2 : a'.tmps.getD 2 undef = .pointer (some ⟨B, 0, none⟩) := (hrest 2 (by intro i hi; show 15 + min i 4 ≠ _; omega))
              have c1 : W.cell? ⟨B, 0, none⟩ = some lv := by simp [World.cell?, hT.an]
              have e2 := rg_ev q2
              exact rg_same2 lv (by unfold Oper.wp execOp; go_simp; all_goals ((try simp only [e2]); (try go_simp); first | done | rfl | exact ⟨rfl, rfl⟩ | trivial)) rfl (hT.step hBW (Below.refl _ _) (by decide))
            | 1, _, ho =>
              cases ho
              have q5 : a'.tmps.getD 5 undef = .string pb := (hrest 5 (by intro i hi; show 15 + min i 4 ≠ _; omega))
              have e5 := rg_ev q5
              exact rg_same2 (.string pb) (by unfold Oper.wp execOp; go_simp; all_goals ((try simp only [e5]); (try go_simp); first | done | rfl | exact ⟨rfl, rfl⟩ | trivial)) rfl (hT.step hBW (Below.refl _ _) (by decide))
            | 2, _, ho =>
              cases ho
              have q16 : a'.tmps.getD 16 undef = .string pb := (hpre { on := 1, ground := .data } (by simp) rfl).2
              refine rg_callQ 16 24 _ _ _ rfl q16 (enters_of Tryd.func24 (by kernel_rfl) rfl) (KO.out W) (fun e w' h => ?_)
              obtain ⟨rfl, hb⟩ := h
              cases hoo : oo with
              | some x =>
                have hxr := HRR.out x hoo
                subst hxr
                exact .inl ⟨_, rfl, _, rfl, ⟨rfl, rfl⟩, hT.step hBW hb (by decide), fun j u _ hF => puQ_below hb hF⟩
              | none =>
                refine .inr ⟨_, rfl, ?_⟩
                have h4 := hT.kf.trans (show KeepsFrom (S + 2) W w' from ⟨hb.size, fun b o _ hb' _ => (hb.block b (Array.getElem?_eq_some_iff.1 hb').1).trans hb'⟩)
                have hBw := HB.out
                have hsz := HB0.out.size
                exact ⟨hdf, hsV.symm ▸ h4, rfl, by rw [HR2.out, hoo]; rfl, HB0.out.trans ((hT.bel.mono (by omega)).trans (hb.mono (by have := hT.bel.size; omega))),
                  boxed_below ((hT.bel.block _ (by omega)).trans HZ0.out) hb, lv, boxed_below hT.an hb⟩
            | 3, _, ho =>
              cases ho
              obtain ⟨q17, hor⟩ : a'.tmps.getD 17 undef = raV r ∧ oo = some r := (hpre { on := 2, ground := .data } (by simp) rfl).2
              unfold raV tx at q17
              have e17 := rg_ev q17
              have hO := hT.own (hT.n3 hfi)
              unfold Oper.wp execOp
              go_simp
              (try simp only [e17])
              (try go_simp)
              refine ⟨_, rfl, ⟨by first | exact hor | rfl, W.heap.size, rfl, World.alloc_heap_new _ _, fun h => Nat.lt_irrefl _ (hO.lt _ h.symm).2⟩, ?_, fun j u _ h => puQ_below ((Below.refl _ _).alloc (Nat.le_refl _) _) h⟩
              first | exact hT.step (i := 3) hBW ((Below.refl _ _).alloc (Nat.le_refl _) _) (by decide) | (rw [show (fun j => decide (j = 3) || f j) = (fun j => if j = 3 then true else f j) by funext j; by_cases h : j = 3 <;> simp [h]]; exact hT.step (i := 3) hBW ((Below.refl _ _).alloc (Nat.le_refl _) _) (by decide))
            | 4, _, ho =>
              cases ho
              have f15 := (hpre { on := 0, ground := .data } (by simp) rfl).1
              have q15 : a'.tmps.getD 15 undef = lv := (hpre { on := 0, ground := .data } (by simp) rfl).2
              have f18 := (hpre { on := 3, ground := .data } (by simp) rfl).1
              obtain ⟨hor, g, hg1, hg2, hg3⟩ := (hpre { on := 3, ground := .data } (by simp) rfl).2
              have qa : a'.eval (.tmp 15) = lv := q15
              have qb : a'.eval (.tmp 18) = .slice (some ⟨g, 0, none⟩) 1 1 := hg1
              have hO := hT.own hfi
              refine wp_append_own _ _ _ 28 rfl (S + 7) 33 i0 (.agg #[.string ByteArray.empty, .string ByteArray.empty, .int .i64 0, .int .i64 0]) 4 48 Tryd.underlying28 hi hz0 hz1 hz2 rfl (by decide) lv acc.length (raCs acc) qa hO ⟨g, 0, none⟩ 1 1 (raC r) qb rfl ?_ ?_ ?_ ?_ ?_ ?_
              · intro j u hj
                have h4 : W.cell? ⟨g, j, none⟩ = some u := by simpa [World.cell?, hg2] using hj
                have hadd : (⟨g, 0, none⟩ : Addr).add j = ⟨g, j, none⟩ := by unfold Addr.add; split <;> simp_all
                rw [hadd]; exact h4
              · intro u hu; simp [raC] at hu; rcases hu with rfl | rfl | rfl | rfl <;> rfl
              · unfold maxLen; omega
              · omega
              · exact hBW
              · intro v' w' hown' hgrow _
                have hne : ∀ b, b < S + 7 → some b ≠ lv.ownBlock := fun b hb e => by have := own_geY hO b e.symm; omega
                refine ⟨v', rfl, ⟨hor, hown'⟩, ⟨Below.grown hT.bel hgrow hBW (fun k hk => (hO.lt k hk).1), hT.kf.trans ⟨hgrow.size, fun b o2 h1 h2 h3 => (hgrow.block b (Array.getElem?_eq_some_iff.1 h2).1 (fun e => by
                    obtain ⟨cs, ty, fr, hcs⟩ := own_isCells hO b e.symm
                    rw [h2] at hcs
                    cases hcs
                    cases h3)).trans h2⟩, (hgrow.block B (by omega) (hne B (by omega))).trans hT.an, fun h => by simp at h, fun h => by simp [f15] at h, fun h => by simp [f18] at h⟩, fun j u hj hF => ?_⟩
                match j, hF with
                | 0, h | 1, h | 2, h => exact h
                | 3, ⟨h0, g', h1, h2, h3⟩ => exact ⟨h0, g', h1, (hgrow.block g' (Array.getElem?_eq_some_iff.1 h2).1 h3).trans h2, h3⟩
                | 4, h => rw [hfi] at hj; cases hj
                | n + 5, h => exact h.elim
            | n + 5, hib, _ => exact absurd hib (by omega)
          case last =>
            intro f vs W oL ho hall hT hvs
            have hopL : oL.op = Op.store 28 (.tmp 2) (.tmp 19) := by cases ho; rfl
            have hdsL : oL.dst = none := by cases ho; rfl
            clear ho hall
            have v0 : vs 0 = lv := hvs 0 (by decide)
            have v1 : vs 1 = .string pb := hvs 1 (by decide)
            obtain ⟨v2, hor⟩ : vs 2 = raV r ∧ oo = some r := hvs 2 (by decide)
            obtain ⟨y3, v3, _⟩ : ∃ z, vs 3 = z ∧ puQ S acc.length pb oo r lv (raCs acc) 3 W z := ⟨_, rfl, hvs 3 (by decide)⟩
            obtain ⟨y4, v4, w4⟩ : ∃ z, vs 4 = z ∧ puQ S acc.length pb oo r lv (raCs acc) 4 W z := ⟨_, rfl, hvs 4 (by decide)⟩
            simp only [fillN, List.size_toArray, List.length_cons, List.length_nil, Nat.reduceAdd, show List.range 5 = [0, 1, 2, 3, 4] from rfl, List.foldl_cons, List.foldl_nil, show 15 + min 0 4 = 15 from rfl, show 15 + min 1 4 = 16 from rfl, show 15 + min 2 4 = 17 from rfl, show 15 + min 3 4 = 18 from rfl, show 15 + min 4 4 = 19 from rfl, v0, v1, v2, v3, v4]
            clear v0 v1 v2 v3 v4 hvs
            have w4' : W.ownsRow (S + 7) 33 4 y4 (acc.length + 1) (raCs acc ++ raC r) := w4.2
            obtain ⟨g4, c4, rfl⟩ := Go.Joins.ownsRow_form w4' (by omega)
            have hAn : Boxed W B 28 lv := hT.an
            have hcA := hAn.cell
            have hzA := hAn.frozen
            have hBw := HB.out
            have hMM := HM.out
            have HKF := Lib.hid (hT.kf.trans (show KeepsFrom (S + 2) W (W.setCell ⟨B, 0, none⟩ (.slice (some ⟨g4, 0, none⟩) (acc.length + 1) c4)) from ⟨(KeepsWalks.setCell W _ _).size, fun b o' h1 h2 h3 => (Below.heap_setCell _ _ _ _ (by show b ≠ B; omega)).trans h2⟩))
            have HK3 := Lib.hid (show KE3 (S + 4) X (W.setCell ⟨B, 0, none⟩ (.slice (some ⟨g4, 0, none⟩) (acc.length + 1) c4)) from fun b h1 h2 h3 => (Below.heap_setCell _ _ _ _ (by show b ≠ B; omega)).trans (hT.bel.block b (by omega)))
            have HNX := Lib.hid (show RdW w (W.setCell ⟨B, 0, none⟩ (.slice (some ⟨g4, 0, none⟩) (acc.length + 1) c4)) B S (.slice (some ⟨g4, 0, none⟩) (acc.length + 1) c4) (acc ++ [r]) from
              ⟨(HB0.out.trans (hT.bel.mono (by omega))).setCell (p := ⟨B, 0, none⟩) (by show w.heap.size ≤ B; omega) _, Boxed.other ((hT.bel.block _ (by omega)).trans HZ0.out) (by omega) _, Boxed.set (v := lv) _ hAn, by
                rw [raCs_snoc, List.length_append, List.length_singleton]
                exact own_setY w4' (by omega)⟩)
            have HRL := Lib.hid (show Ap.rd L [] = Ap.rd (L.drop (k + 1)) (acc ++ [r]) by rw [HR2.out, hor]; rfl)
            clear hT hAn w4 w4' hor
            unfold Oper.wp execOp
            simp only [hopL]
            go_simp
            clear hcA hzA hopL hdsL
            exact ⟨hsV.symm ▸ HKF.out, HK3.out, acc ++ [r], _, HNX.out, HRL.out, by rw [List.length_append, List.length_singleton]; omega⟩
      case don =>
        rintro D X hD ⟨acc, lv, ⟨hb, hz, hx, hrow⟩, hrd, hal⟩ hK
        rw [List.drop_of_length_le (by rw [HN.out]; exact Nat.le_refl _)] at hrd
        have HF := Lib.hid (show o = some acc by rw [HE.out, hrd]; rfl)
        have hnb : lv = lv := rfl
        obtain ⟨lp, lc, rfl⟩ := own_slY hrow
        have c0 := hx.cell
        have z0 := hx.frozen
        have c1 := hz.cell
        have z1 := hz.frozen
        have hBD : B + 1 < D := by have := HSB.out; omega
        have HR := Lib.hid hrow
        have HX := Lib.hid hx
        have HZ := Lib.hid hz
        have HK := Lib.hid hK
        have HBB := Lib.hid hb
        clear hb hz hx hrow hrd hK hnb
        refine wpAt_of (wpIn_wide.2 ?_)
        go_wp2_with fail
        have b1 : Boxed (X.setCell ⟨B, 0, none⟩ (.slice lp acc.length lc)) B 28 (.slice lp acc.length lc) := HX.out.set _
        have b2 : Boxed ((X.setCell ⟨B, 0, none⟩ (.slice lp acc.length lc)).setCell ⟨B + 1, 0, none⟩ (.int .i64 0)) B 28 (.slice lp acc.length lc) := b1.other (by omega) _
        have b3 : Boxed ((X.setCell ⟨B, 0, none⟩ (.slice lp acc.length lc)).setCell ⟨B + 1, 0, none⟩ (.int .i64 0)) (B + 1) 29 (.int .i64 0) := Boxed.set (v := .int .i64 0) _ (HZ.out.other (by omega) _)
        have hBS := HSB.out
        have K2 : ((X.setCell ⟨B, 0, none⟩ (.slice lp acc.length lc)).setCell ⟨B + 1, 0, none⟩ (.int .i64 0)).heap[D]? = some (.deferred (some [])) := (Below.heap_setCell _ _ _ _ (by show D ≠ B + 1; omega)).trans ((Below.heap_setCell _ _ _ _ (by show D ≠ B; omega)).trans HK.out)
        have r2 := own_setY (i := 0) (x := .int .i64 0) (A := B + 1) (own_setY (i := 0) (x := .slice lp acc.length lc) (A := B) HR.out (by omega)) (by omega)
        have B2 : Below B w ((X.setCell ⟨B, 0, none⟩ (.slice lp acc.length lc)).setCell ⟨B + 1, 0, none⟩ (.int .i64 0)) := by
          have h := HBB.out
          rw [HB.out] at h
          exact (h.setCell (p := ⟨B, 0, none⟩) (Nat.le_refl _) _).setCell (p := ⟨B + 1, 0, none⟩) (by show B ≤ B + 1; omega) _
        obtain ⟨W4, hW4⟩ : ∃ y, (X.setCell ⟨B, 0, none⟩ (.slice lp acc.length lc)).setCell ⟨B + 1, 0, none⟩ (.int .i64 0) = y := ⟨_, rfl⟩
        rw [hW4] at b2 b3 K2 r2 B2 ⊢
        refine ⟨by simp, .inl ⟨_, _, rfl, run_takeDeferred K2, rd_yes ?_⟩⟩
        have d0 : Boxed (W4.putObj D (.deferred none)) B 28 (.slice lp acc.length lc) := (World.putObj_heap_other (by omega)).trans b2
        have d1 : Boxed (W4.putObj D (.deferred none)) (B + 1) 29 (.int .i64 0) := (World.putObj_heap_other (by omega)).trans b3
        have c0 := d0.cell
        have c1 := d1.cell
        have B5 : Below B w (W4.putObj D (.deferred none)) := B2.trans (belowK_b (w := w) (Nat.le_of_eq HB.out.symm) _ D _ _ (by have := HB.out; omega) K2 rfl rfl)
        refine ⟨_, by simp [results, Tryd.results15, go_sem, c0, c1]; rfl, B5, ?_⟩
        rw [HF.out]
        refine ⟨_, rfl, ?_⟩
        have hrr : (W4.putObj D (.deferred none)).ownsRow (S + 7) 33 4 (.slice lp acc.length lc) acc.length (raCs acc) := own_keep2 r2 (fun g hg => World.putObj_heap_other (fun e => by
          obtain ⟨cs, ty, fr, hc⟩ := own_isCells r2 g hg
          rw [e, K2] at hc
          cases hc))
        exact own_lowY hrr (by omega)
end Go.Proofs.YtfacmnooklljnaaDoor

/- accept: Parse; how well a range fits; the best one of a row. No conditions but those that each law states. -/
namespace Go.Proofs.YtfacmnooklljnaaDoor
set_option linter.unusedVariables false
set_option linter.unusedSimpArgs false
open Go.RowKit Go.Shelf
attribute [local go_sem] Oper.semAt_some
set_option maxHeartbeats 8000000
set_option maxRecDepth 100000
/-- what Parse tells -/
def PaO (o : Option (List Ap.Ra)) (b : Nat) (e : Ending) (w' : World) : Prop := match o with
  | some l => ∃ v, e = .returned (.tuple #[v, .int .i64 0]) ∧ w'.ownsRow b 33 4 v l.length (raCs l)
  | none => e = .returned (.tuple #[.slice none 0 0, .int .i64 220])
theorem ac_Parse (s : ByteArray) (w : World) (hs : s.size ≤ 100000) :
    Calls Tryd.prog 9 #[.string s] w fun e w' => Below w.heap.size w w' ∧ PaO (Ap.parse s.data.toList) w.heap.size e w' := by
  have K := ac_read s w hs
  obtain ⟨o, ho⟩ : ∃ y, Ap.parse s.data.toList = y := ⟨_, rfl⟩
  rw [ho] at K ⊢
  clear ho
  go_enter Tryd.func9, Tryd.ntmps9
  go_wp2_with fail
  refine K.mono ?_
  rintro e w' ⟨hb, h⟩
  cases o with
  | some l =>
    obtain ⟨v, rfl, hown⟩ := h
    obtain ⟨p, c, rfl⟩ := own_slY hown
    have HO := Lib.hid hown
    have HB := Lib.hid hb
    clear hown hb K
    go_wp2_with fail
    exact bodyPost_ret (v := .tuple #[.slice p l.length c, .int .i64 0]) (by simp [results, Tryd.results9, go_sem]) rfl ⟨HB.out, _, rfl, HO.out⟩
  | none =>
    obtain ⟨v, rfl⟩ := h
    have HB := Lib.hid hb
    clear hb K
    go_wp2_with fail
    exact bodyPost_ret (v := .tuple #[.slice none 0 0, .int .i64 220]) (by simp [results, Tryd.results9, go_sem]) rfl ⟨HB.out, rfl⟩
theorem ac_fits1 (r : Ap.Ra)  (w : World) :
    Calls Tryd.prog 35 #[raV r] w fun e w' => e = .returned (.bool (r.1 == ([42] : List UInt8) && r.2.1 == ([42] : List UInt8))) ∧ Below w.heap.size w w' := by
  obtain ⟨a, b, n, q⟩ := r
  unfold raV tx
  dsimp only
  obtain ⟨ab, hab⟩ : ∃ y : ByteArray, (⟨a.toArray⟩ : ByteArray) = y := ⟨_, rfl⟩
  obtain ⟨bb, hbb⟩ : ∃ y : ByteArray, (⟨b.toArray⟩ : ByteArray) = y := ⟨_, rfl⟩
  obtain ⟨x, hx⟩ : ∃ x, (a == ([42] : List UInt8)) = x := ⟨_, rfl⟩
  obtain ⟨y, hy⟩ : ∃ x, (b == ([42] : List UInt8)) = x := ⟨_, rfl⟩
  have e1 : (ab.toList == ([42] : List UInt8)) = x := by rw [← hab, ba_list]; exact hx
  have e2 : (bb.toList == ([42] : List UInt8)) = y := by rw [← hbb, ba_list]; exact hy
  rw [hab, hbb, hx, hy]
  clear hab hbb hx hy
  go_enter Tryd.func35, Tryd.ntmps35
  cases x
  · go_wp2_with fail
    exact bodyPost_ret (v := .bool false) (by simp [results, Tryd.results35, go_sem]) rfl ⟨by simp, (Below.refl _ _).alloc (Nat.le_refl _) _⟩
  · go_wp2_with fail
    exact bodyPost_ret (v := .bool y) (by simp [results, Tryd.results35, go_sem]) rfl ⟨by simp, (Below.refl _ _).alloc (Nat.le_refl _) _⟩
theorem ac_fits2 (r : Ap.Ra) (kb : ByteArray) (K : Nat) (w : World) (hK : Boxed w K 9 (.string kb)) :
    Calls Tryd.prog 36 #[raV r, .pointer (some ⟨K, 0, none⟩)] w fun e w' => e = .returned (.bool (r.1 == kb.toList && r.2.1 == ([42] : List UInt8))) ∧ Below w.heap.size w w' := by
  obtain ⟨a, b, n, q⟩ := r
  unfold raV tx
  dsimp only
  have cK := hK.cell
  have zK := hK.frozen
  have lK := hK.lt
  obtain ⟨ab, hab⟩ : ∃ y : ByteArray, (⟨a.toArray⟩ : ByteArray) = y := ⟨_, rfl⟩
  obtain ⟨bb, hbb⟩ : ∃ y : ByteArray, (⟨b.toArray⟩ : ByteArray) = y := ⟨_, rfl⟩
  obtain ⟨x, hx⟩ : ∃ x, (a == kb.toList) = x := ⟨_, rfl⟩
  obtain ⟨y, hy⟩ : ∃ x, (b == ([42] : List UInt8)) = x := ⟨_, rfl⟩
  have e1 : (ab.toList == kb.toList) = x := by rw [← hab, ba_list]; exact hx
  have e2 : (bb.toList == ([42] : List UInt8)) = y := by rw [← hbb, ba_list]; exact hy
  rw [hab, hbb, hx, hy]
  clear hab hbb hx hy
  go_enter Tryd.func36, Tryd.ntmps36
  cases x
  · go_wp2_with fail
    exact bodyPost_ret (v := .bool false) (by simp [results, Tryd.results36, go_sem]) rfl ⟨by simp, (Below.refl _ _).alloc (Nat.le_refl _) _⟩
  · go_wp2_with fail
    exact bodyPost_ret (v := .bool y) (by simp [results, Tryd.results36, go_sem]) rfl ⟨by simp, (Below.refl _ _).alloc (Nat.le_refl _) _⟩
theorem ac_fits3 (r : Ap.Ra) (kb ub : ByteArray) (K U : Nat) (w : World) (hK : Boxed w K 9 (.string kb)) (hU : Boxed w U 9 (.string ub)) :
    Calls Tryd.prog 37 #[raV r, .pointer (some ⟨K, 0, none⟩), .pointer (some ⟨U, 0, none⟩)] w fun e w' => e = .returned (.bool (r.1 == kb.toList && r.2.1 == ub.toList)) ∧ Below w.heap.size w w' := by
  obtain ⟨a, b, n, q⟩ := r
  unfold raV tx
  dsimp only
  have cK := hK.cell
  have zK := hK.frozen
  have lK := hK.lt
  have cU := hU.cell
  have zU := hU.frozen
  have lU := hU.lt
  obtain ⟨ab, hab⟩ : ∃ y : ByteArray, (⟨a.toArray⟩ : ByteArray) = y := ⟨_, rfl⟩
  obtain ⟨bb, hbb⟩ : ∃ y : ByteArray, (⟨b.toArray⟩ : ByteArray) = y := ⟨_, rfl⟩
  obtain ⟨x, hx⟩ : ∃ x, (a == kb.toList) = x := ⟨_, rfl⟩
  obtain ⟨y, hy⟩ : ∃ x, (b == ub.toList) = x := ⟨_, rfl⟩
  have e1 : (ab.toList == kb.toList) = x := by rw [← hab, ba_list]; exact hx
  have e2 : (bb.toList == ub.toList) = y := by rw [← hbb, ba_list]; exact hy
  rw [hab, hbb, hx, hy]
  clear hab hbb hx hy
  go_enter Tryd.func37, Tryd.ntmps37
  cases x
  · go_wp2_with fail
    exact bodyPost_ret (v := .bool false) (by simp [results, Tryd.results37, go_sem]) rfl ⟨by simp, (Below.refl _ _).alloc (Nat.le_refl _) _⟩
  · go_wp2_with fail
    exact bodyPost_ret (v := .bool y) (by simp [results, Tryd.results37, go_sem]) rfl ⟨by simp, (Below.refl _ _).alloc (Nat.le_refl _) _⟩
end Go.Proofs.YtfacmnooklljnaaDoor

/- accept: Fits. No conditions but those that each law states. -/
namespace Go.Proofs.YtfacmnooklljnaaDoor
set_option linter.unusedVariables false
set_option linter.unusedSimpArgs false
open Go.RowKit Go.Shelf
attribute [local go_sem] Oper.semAt_some
set_option maxHeartbeats 8000000
set_option maxRecDepth 100000
theorem ac_fits (kb ub : ByteArray) (w : World) :
    Calls Tryd.prog 25 #[.string kb, .string ub] w fun e w' => ∃ K U, e = .returned (.agg #[.func (.func 35) #[] #[], .func (.func 36) #[] #[.pointer (some ⟨K, 0, none⟩)], .func (.func 37) #[] #[.pointer (some ⟨K, 0, none⟩), .pointer (some ⟨U, 0, none⟩)]]) ∧
      Boxed w' K 9 (.string kb) ∧ Boxed w' U 9 (.string ub) ∧ Below w.heap.size w w' := by
  obtain ⟨V, hV⟩ : ∃ z, (w.alloc (.cells #[.string kb] 9)).alloc (.cells #[.string ub] 9) = z := ⟨_, rfl⟩
  have hK : Boxed V w.heap.size 9 (.string kb) := by rw [← hV]; exact (Boxed.new _ _ _).alloc _
  have hU : Boxed V (w.heap.size + 1) 9 (.string ub) := by
    have h := Boxed.new (w.alloc (.cells #[.string kb] 9)) 9 (.string ub)
    rw [hV] at h
    simpa using h
  have hb : Below w.heap.size w V := by rw [← hV]; exact ((Below.refl _ _).alloc (Nat.le_refl _) _).alloc (by simp) _
  have HV := Lib.hid hV
  have HK := Lib.hid hK
  have HU := Lib.hid hU
  have HB := Lib.hid hb
  clear hV hK hU hb
  go_enter Tryd.func25, Tryd.ntmps25
  go_wp2_with fail
  rw [HV.out]
  obtain ⟨c3, hc3⟩ : ∃ z : Array Value, #[.func (.func 35) #[] #[], .func (.func 36) #[] #[.pointer (some ⟨w.heap.size, 0, none⟩)], .func (.func 37) #[] #[.pointer (some ⟨w.heap.size, 0, none⟩), .pointer (some ⟨w.heap.size + 1, 0, none⟩)]] = z := ⟨_, rfl⟩
  have hsV : V.heap.size = w.heap.size + 1 + 1 := by rw [← HV.out]; simp
  have hZ : (V.alloc (.cells c3 56)).heap[w.heap.size + 1 + 1]? = some (.cells c3 56 (0, 0)) := by rw [← hsV]; exact World.alloc_heap_new _ _
  have hK3 := HK.out.alloc (.cells c3 56)
  have hU3 := HU.out.alloc (.cells c3 56)
  have hB3 := HB.out.alloc HB.out.size (.cells c3 56)
  rw [hc3]
  obtain ⟨Z, hz⟩ : ∃ z, V.alloc (.cells c3 56) = z := ⟨_, rfl⟩
  rw [hz] at hZ hK3 hU3 hB3 ⊢
  have c0 : Z.cell? ⟨w.heap.size + 1 + 1, 0, none⟩ = some (.func (.func 35) #[] #[]) := by simp [World.cell?, hZ, ← hc3]
  have c1 : Z.cell? ⟨w.heap.size + 1 + 1, 1, none⟩ = some (.func (.func 36) #[] #[.pointer (some ⟨w.heap.size, 0, none⟩)]) := by simp [World.cell?, hZ, ← hc3]
  have c2 : Z.cell? ⟨w.heap.size + 1 + 1, 2, none⟩ = some (.func (.func 37) #[] #[.pointer (some ⟨w.heap.size, 0, none⟩), .pointer (some ⟨w.heap.size + 1, 0, none⟩)]) := by simp [World.cell?, hZ, ← hc3]
  rw [← hc3]
  exact bodyPost_ret (v := .agg #[.func (.func 35) #[] #[], .func (.func 36) #[] #[.pointer (some ⟨w.heap.size, 0, none⟩)], .func (.func 37) #[] #[.pointer (some ⟨w.heap.size, 0, none⟩), .pointer (some ⟨w.heap.size + 1, 0, none⟩)]]) (by simp [results, Tryd.results25, go_sem, c0, c1, c2]) rfl ⟨_, _, rfl, hK3, hU3, hB3⟩
theorem fits_ix0 (K U : Nat) (W : World) : (Instr.index 56 (.agg #[.func (.func 35) #[] #[], .func (.func 36) #[] #[.pointer (some ⟨K, 0, none⟩)], .func (.func 37) #[] #[.pointer (some ⟨K, 0, none⟩), .pointer (some ⟨U, 0, none⟩)]]) (.int .i64 0)).run Tryd.prog W = .ok (.func (.func 35) #[] #[]) W := by
  first | rfl | kernel_rfl
theorem fits_in0 (args : Array Value) (W : World) : (callFunc 35 args).run Tryd.prog W = .ok (.enter 35 args) W := enters_of Tryd.func35 (by kernel_rfl) rfl args W
theorem fits_ix1 (K U : Nat) (W : World) : (Instr.index 56 (.agg #[.func (.func 35) #[] #[], .func (.func 36) #[] #[.pointer (some ⟨K, 0, none⟩)], .func (.func 37) #[] #[.pointer (some ⟨K, 0, none⟩), .pointer (some ⟨U, 0, none⟩)]]) (.int .i64 1)).run Tryd.prog W = .ok (.func (.func 36) #[] #[.pointer (some ⟨K, 0, none⟩)]) W := by
  first | rfl | kernel_rfl
theorem fits_in1 (args : Array Value) (W : World) : (callFunc 36 args).run Tryd.prog W = .ok (.enter 36 args) W := enters_of Tryd.func36 (by kernel_rfl) rfl args W
theorem fits_ix2 (K U : Nat) (W : World) : (Instr.index 56 (.agg #[.func (.func 35) #[] #[], .func (.func 36) #[] #[.pointer (some ⟨K, 0, none⟩)], .func (.func 37) #[] #[.pointer (some ⟨K, 0, none⟩), .pointer (some ⟨U, 0, none⟩)]]) (.int .i64 2)).run Tryd.prog W = .ok (.func (.func 37) #[] #[.pointer (some ⟨K, 0, none⟩), .pointer (some ⟨U, 0, none⟩)]) W := by
  first | rfl | kernel_rfl
theorem fits_in2 (args : Array Value) (W : World) : (callFunc 37 args).run Tryd.prog W = .ok (.enter 37 args) W := enters_of Tryd.func37 (by kernel_rfl) rfl args W
/-- one of the three ways -/
def fitB (r : Ap.Ra) (k u : List UInt8) : Nat → Bool
  | 0 => r.1 == [42] && r.2.1 == [42]
  | 1 => r.1 == k && r.2.1 == [42]
  | _ => r.1 == k && r.2.1 == u
theorem fits_eq (r : Ap.Ra) (k u : List UInt8) : Ap.fits r k u = if 0 < r.2.2.1 then 0 else if fitB r k u 0 = true then 1 else if fitB r k u 1 = true then 2 else if fitB r k u 2 = true then 3 else 0 := by
  unfold Ap.fits fitB
  simp
theorem ac_Fits (r : Ap.Ra) (kb ub : ByteArray) (w : World) (hn : r.2.2.1 < 2000000) :
    Calls Tryd.prog 18 #[raV r, .string kb, .string ub] w fun e w' => e = .returned (.int .i64 (Ap.fits r kb.toList ub.toList)) ∧ Below w.heap.size w w' := by
  obtain ⟨F, hF⟩ : ∃ y, Ap.fits r kb.toList ub.toList = y := ⟨_, rfl⟩
  have hFe := fits_eq r kb.toList ub.toList
  rw [hF] at hFe ⊢
  obtain ⟨V, hV⟩ : ∃ z, w.alloc (.cells (raC r).toArray 33) = z := ⟨_, rfl⟩
  have hb : Below w.heap.size w V := by rw [← hV]; exact (Below.refl _ _).alloc (Nat.le_refl _) _
  have hR : V.heap[w.heap.size]? = some (.cells (raC r).toArray 33 (0, 0)) := by rw [← hV]; exact World.alloc_heap_new _ _
  obtain ⟨A, hA⟩ : ∃ z, w.heap.size = z := ⟨_, rfl⟩
  rw [hA] at hR hb ⊢
  have HV := Lib.hid hV
  have HA := Lib.hid hA
  have HB := Lib.hid hb
  have HFE := Lib.hid hFe
  have KF := Lib.hid (fun W => ac_fits kb ub W)
  have K1 := Lib.hid (show ∀ W, Calls Tryd.prog 35 #[raV r] W fun e w' => e = .returned (.bool (fitB r kb.toList ub.toList 0)) ∧ Below W.heap.size W w' from fun W => ac_fits1 r W)
  have K2 := Lib.hid (show ∀ K W, Boxed W K 9 (.string kb) → Calls Tryd.prog 36 #[raV r, .pointer (some ⟨K, 0, none⟩)] W fun e w' => e = .returned (.bool (fitB r kb.toList ub.toList 1)) ∧ Below W.heap.size W w' from fun K W h => ac_fits2 r kb K W h)
  have K3 := Lib.hid (show ∀ K U W, Boxed W K 9 (.string kb) → Boxed W U 9 (.string ub) → Calls Tryd.prog 37 #[raV r, .pointer (some ⟨K, 0, none⟩), .pointer (some ⟨U, 0, none⟩)] W fun e w' => e = .returned (.bool (fitB r kb.toList ub.toList 2)) ∧ Below W.heap.size W w' from fun K U W h h2 => ac_fits3 r kb ub K U W h h2)
  obtain ⟨b0, hb0⟩ : ∃ y, fitB r kb.toList ub.toList 0 = y := ⟨_, rfl⟩
  obtain ⟨b1, hb1⟩ : ∃ y, fitB r kb.toList ub.toList 1 = y := ⟨_, rfl⟩
  obtain ⟨b2, hb2⟩ : ∃ y, fitB r kb.toList ub.toList 2 = y := ⟨_, rfl⟩
  rw [hb0, hb1, hb2] at HFE
  rw [hb0] at K1
  rw [hb1] at K2
  rw [hb2] at K3
  obtain ⟨n, hn'⟩ : ∃ y, r.2.2.1 = y := ⟨_, rfl⟩
  rw [hn'] at HFE hn
  obtain ⟨xb, hxb⟩ : ∃ y : ByteArray, (⟨r.1.toArray⟩ : ByteArray) = y := ⟨_, rfl⟩
  obtain ⟨yb, hyb⟩ : ∃ y : ByteArray, (⟨r.2.1.toArray⟩ : ByteArray) = y := ⟨_, rfl⟩
  obtain ⟨q, hq⟩ : ∃ y, r.2.2.2 = y := ⟨_, rfl⟩
  have hraV : raV r = .agg #[.string xb, .string yb, .int .i64 (n : Int), .int .i64 q] := by unfold raV tx; rw [hxb, hyb, hn', hq]
  have hraC : raC r = [.string xb, .string yb, .int .i64 (n : Int), .int .i64 q] := by unfold raC tx; rw [hxb, hyb, hn', hq]
  rw [hraV] at K1 K2 K3 ⊢
  rw [hraC] at HV hR
  have HR := Lib.hid hR
  clear hb0 hb1 hb2 hn' hxb hyb hq hraV hraC hV hA hb hFe hF hR
  by_cases h0 : 0 < n
  · have HE := Lib.hid (show F = 0 by rw [HFE.out, if_pos h0])
    go_enter Tryd.func18, Tryd.ntmps18
    go_wp2_with fail
    rw [HV.out]
    exact bodyPost_ret (v := .int .i64 0) (by simp [results, Tryd.results18, go_sem]) rfl ⟨by rw [HE.out], HB.out⟩
  · rw [if_neg h0] at HFE
    go_enter Tryd.func18, Tryd.ntmps18
    go_wp2_with fail
    rw [HV.out, HA.out]
    refine (KF.out _).mono ?_
    rintro e w2 ⟨K, U, rfl, hK, hU, hb⟩
    have HK := Lib.hid hK
    have HU := Lib.hid hU
    have HB2 := Lib.hid (HB.out.trans (hb.mono (by have := HA.out; have := HB.out.size; omega)))
    have HR2 := Lib.hid ((hb.block A (Array.getElem?_eq_some_iff.1 HR.out).1).trans HR.out)
    clear hK hU hb h0
    go_wp2_with fail
    go_loopw [15] (fun i wr => (i = .int .i64 0 ∨ (i = .int .i64 1 ∧ b0 = false) ∨ (i = .int .i64 2 ∧ b0 = false ∧ b1 = false) ∨ (i = .int .i64 3 ∧ b0 = false ∧ b1 = false ∧ b2 = false)) ∧ Below A w wr ∧ Boxed wr K 9 (.string kb) ∧ Boxed wr U 9 (.string ub) ∧ wr.heap[A]? = some (.cells #[.string xb, .string yb, .int .i64 (n : Int), .int .i64 q] 33 (0, 0))) (fun i _ => 3 - (intOf i).toNat)
    case atStart => exact ⟨.inl rfl, HB2.out, HK.out, HU.out, HR2.out⟩
    case round =>
      obtain ⟨hi, hb, hK, hU, hR⟩ := hrel
      have k0 : wr.cell? ⟨A, 0, none⟩ = some (.string xb) := by simp [World.cell?, hR]
      have k1 : wr.cell? ⟨A, 1, none⟩ = some (.string yb) := by simp [World.cell?, hR]
      have k2 : wr.cell? ⟨A, 2, none⟩ = some (.int .i64 (n : Int)) := by simp [World.cell?, hR]
      have k3 : wr.cell? ⟨A, 3, none⟩ = some (.int .i64 q) := by simp [World.cell?, hR]
      have HKK := Lib.hid hK
      have HUU := Lib.hid hU
      have HRR := Lib.hid hR
      have HBB := Lib.hid hb
      clear HK HU HB2 HR2 hK hU hR hb
      rcases hi with rfl | ⟨rfl, f0⟩ | ⟨rfl, f0, f1⟩ | ⟨rfl, f0, f1, f2⟩
      · go_wp2_with (simp only [fits_ix0])
        go_wp2_with fail
        refine (K1.out _).mono ?_
        rintro e w3 ⟨rfl, hb3⟩
        have HN := Lib.hid (show Below A w w3 ∧ Boxed w3 K 9 (.string kb) ∧ Boxed w3 U 9 (.string ub) ∧ w3.heap[A]? = some (.cells #[.string xb, .string yb, .int .i64 (n : Int), .int .i64 q] 33 (0, 0)) from
          ⟨HBB.out.trans (hb3.mono (by have := HA.out; have := HBB.out.size; omega)), boxed_below HKK.out hb3, boxed_below HUU.out hb3, (hb3.block A (Array.getElem?_eq_some_iff.1 HRR.out).1).trans HRR.out⟩)
        clear hb3
        cases b0 with
        | true =>
          have HE := Lib.hid (show F = 1 by rw [HFE.out, if_pos rfl])
          go_wp2_with fail
          go_ret
          exact ⟨by rw [HE.out]; rfl, HN.out.1⟩
        | false =>
          go_wp2_with fail
          go_roundw
          case rel => exact ⟨by simp_all, HN.out.1, HN.out.2.1, HN.out.2.2.1, HN.out.2.2.2⟩
          case measure => simp [intOf]
      · go_wp2_with (simp only [fits_ix1])
        go_wp2_with fail
        refine (K2.out K _ HKK.out).mono ?_
        rintro e w3 ⟨rfl, hb3⟩
        have HN := Lib.hid (show Below A w w3 ∧ Boxed w3 K 9 (.string kb) ∧ Boxed w3 U 9 (.string ub) ∧ w3.heap[A]? = some (.cells #[.string xb, .string yb, .int .i64 (n : Int), .int .i64 q] 33 (0, 0)) from
          ⟨HBB.out.trans (hb3.mono (by have := HA.out; have := HBB.out.size; omega)), boxed_below HKK.out hb3, boxed_below HUU.out hb3, (hb3.block A (Array.getElem?_eq_some_iff.1 HRR.out).1).trans HRR.out⟩)
        clear hb3
        cases b1 with
        | true =>
          have HE := Lib.hid (show F = 2 by rw [HFE.out, f0]; simp)
          go_wp2_with fail
          go_ret
          exact ⟨by rw [HE.out]; rfl, HN.out.1⟩
        | false =>
          go_wp2_with fail
          go_roundw
          case rel => exact ⟨by simp_all, HN.out.1, HN.out.2.1, HN.out.2.2.1, HN.out.2.2.2⟩
          case measure => simp [intOf]
      · go_wp2_with (simp only [fits_ix2])
        go_wp2_with fail
        refine (K3.out K U _ HKK.out HUU.out).mono ?_
        rintro e w3 ⟨rfl, hb3⟩
        have HN := Lib.hid (show Below A w w3 ∧ Boxed w3 K 9 (.string kb) ∧ Boxed w3 U 9 (.string ub) ∧ w3.heap[A]? = some (.cells #[.string xb, .string yb, .int .i64 (n : Int), .int .i64 q] 33 (0, 0)) from
          ⟨HBB.out.trans (hb3.mono (by have := HA.out; have := HBB.out.size; omega)), boxed_below HKK.out hb3, boxed_below HUU.out hb3, (hb3.block A (Array.getElem?_eq_some_iff.1 HRR.out).1).trans HRR.out⟩)
        clear hb3
        cases b2 with
        | true =>
          have HE := Lib.hid (show F = 3 by rw [HFE.out, f0, f1]; simp)
          go_wp2_with fail
          go_ret
          exact ⟨by rw [HE.out]; rfl, HN.out.1⟩
        | false =>
          go_wp2_with fail
          go_roundw
          case rel => exact ⟨by simp_all, HN.out.1, HN.out.2.1, HN.out.2.2.1, HN.out.2.2.2⟩
          case measure => simp [intOf]
      · have HE := Lib.hid (show F = 0 by rw [HFE.out, f0, f1, f2]; simp)
        go_wp2_with fail
        go_ret
        exact ⟨by rw [HE.out]; rfl, HBB.out⟩
end Go.Proofs.YtfacmnooklljnaaDoor

/- Slices of things of m cells each, wherever they lie: read, copied from, owned. No conditions but those that each law states. -/
namespace Go.Proofs.YtfacmnooklljnaaDoor
set_option linter.unusedVariables false
set_option linter.unusedSimpArgs false
open Go.RowKit
set_option maxHeartbeats 4000000
set_option maxRecDepth 100000
section
variable {α : Type}
/-- a slice of such things: f tells a thing's cells -/
def Rin (f : α → List Value) (m : Nat) (d : α) (w : World) (v : Value) (qs : List α) : Prop := ∃ p c, v = .slice p qs.length c ∧ (qs.length = 0 ∨ ∃ g o, p = some ⟨g, o, none⟩ ∧ ∀ j, j < qs.length → ∀ i x, (f (qs.getD j d))[i]? = some x → w.cell? ⟨g, o + j * m + i, none⟩ = some x)
theorem Rin.below {f : α → List Value} {m : Nat} {d : α} {w w' : World} {v : Value} {qs : List α} (h : Rin f m d w v qs) (hb : Below w.heap.size w w') : Rin f m d w' v qs := by
  obtain ⟨p, c, h1, h2⟩ := h
  exact ⟨p, c, h1, h2.imp id (fun ⟨g, o, a1, a2⟩ => ⟨g, o, a1, fun j hj i x hx => cell_below hb (a2 j hj i x hx)⟩)⟩
theorem Rin.slice {f : α → List Value} {m : Nat} {d : α} {w : World} {v : Value} {qs : List α} (h : Rin f m d w v qs) : ∃ p c, v = .slice p qs.length c := by
  obtain ⟨p, c, h1, _⟩ := h
  exact ⟨p, c, h1⟩
theorem Rin.nil {f : α → List Value} {m : Nat} {d : α} (w : World) : Rin f m d w (.slice none 0 0) [] := ⟨none, 0, rfl, .inl rfl⟩
/-- the j-th thing's cells -/
theorem Rin.at {f : α → List Value} {m : Nat} {d : α} {w : World} {v : Value} {qs : List α} (h : Rin f m d w v qs) {j : Nat} (hj : j < qs.length) :
    ∃ g o c, v = .slice (some ⟨g, o, none⟩) qs.length c ∧ ∀ i x, (f (qs.getD j d))[i]? = some x → w.cell? ⟨g, o + j * m + i, none⟩ = some x := by
  obtain ⟨p, c, rfl, h2⟩ := h
  rcases h2 with h2 | ⟨g, o, rfl, h2⟩
  · omega
  · exact ⟨g, o, c, rfl, h2 j hj⟩
theorem flat_len (f : α → List Value) (m : Nat) (hf : ∀ q, (f q).length = m) (qs : List α) : (qs.flatMap f).length = qs.length * m := by
  induction qs with
  | nil => simp
  | cons q qs ih => rw [List.flatMap_cons, List.length_append, ih, hf, List.length_cons, Nat.add_mul]; omega
theorem flat_get (f : α → List Value) (m : Nat) (d : α) (hf : ∀ q, (f q).length = m) : ∀ (qs : List α) (j i : Nat) (x : Value), j < qs.length → i < m → (f (qs.getD j d))[i]? = some x → (qs.flatMap f)[j * m + i]? = some x
  | [], j, i, x, hj, _, _ => by simp at hj
  | q :: qs, 0, i, x, hj, hi, hx => by
    rw [List.flatMap_cons, List.getElem?_append_left (by rw [hf]; omega), Nat.zero_mul, Nat.zero_add]
    exact hx
  | q :: qs, j + 1, i, x, hj, hi, hx => by
    rw [List.flatMap_cons, List.getElem?_append_right (by rw [hf, Nat.add_mul]; omega), hf, show (j + 1) * m + i - m = j * m + i by rw [Nat.add_mul]; omega]
    exact flat_get f m d hf qs j i x (by simpa using hj) hi hx
theorem flat_at (f : α → List Value) (m : Nat) (d : α) (hf : ∀ q, (f q).length = m) (hm : 0 < m) {qs : List α} {k : Nat} {u : Value} (h : (qs.flatMap f)[k]? = some u) : ∃ j i, k = j * m + i ∧ j < qs.length ∧ i < m ∧ (f (qs.getD j d))[i]? = some u := by
  have hlt : k < qs.length * m := by rw [← flat_len f m hf]; exact (List.getElem?_eq_some_iff.1 h).1
  have hj : k / m < qs.length := (Nat.div_lt_iff_lt_mul hm).2 hlt
  have hi : k % m < m := Nat.mod_lt _ hm
  have hk : k / m * m + k % m = k := by rw [Nat.mul_comm]; exact Nat.div_add_mod k m
  refine ⟨k / m, k % m, hk.symm, hj, hi, ?_⟩
  obtain ⟨y, hy⟩ : ∃ y, (f (qs.getD (k / m) d))[k % m]? = some y := ⟨_, List.getElem?_eq_getElem (by rw [hf]; exact hi)⟩
  have h2 := flat_get f m d hf qs (k / m) (k % m) y hj hi hy
  rw [hk, h] at h2
  cases h2
  exact hy
/-- as the source of an append -/
theorem Rin.src {f : α → List Value} {m : Nat} {d : α} (hf : ∀ q, (f q).length = m) (hm : 0 < m) {w : World} {v : Value} {qs : List α} (h : Rin f m d w v qs) : ∃ p c, v = .slice p qs.length c ∧ (qs.length = 0 ∨ ∃ ad, p = some ad ∧ ∀ j u, (qs.flatMap f)[j]? = some u → w.cell? (ad.add j) = some u) := by
  obtain ⟨p, c, h1, h2⟩ := h
  refine ⟨p, c, h1, h2.imp id (fun ⟨g, o, a1, a2⟩ => ⟨_, a1, fun k u hk => ?_⟩)⟩
  obtain ⟨j, i, rfl, hj, hi, hx⟩ := flat_at f m d hf hm hk
  have hadd : (⟨g, o, none⟩ : Addr).add (j * m + i) = ⟨g, o + (j * m + i), none⟩ := by unfold Addr.add; split <;> simp_all
  rw [hadd, ← Nat.add_assoc]
  exact a2 j hj i u hx
/-- what a call's own row holds -/
theorem Rin.of_own {f : α → List Value} {m : Nat} {d : α} (hf : ∀ q, (f q).length = m) (hm : 0 < m) {w : World} {C n : Nat} {e : TypeId} {v : Value} {qs : List α} (h : w.ownsRow C e m v n (qs.flatMap f)) : Rin f m d w v qs := by
  have hl : n = qs.length := by
    have h1 := h.1
    rw [flat_len f m hf] at h1
    exact (Nat.eq_of_mul_eq_mul_right hm h1).symm
  rcases h.2 with ⟨rfl, h0⟩ | ⟨g, cap, cur, rfl, _, hg, hc, _⟩
  · exact ⟨none, 0, by rw [← hl, h0], .inl (by rw [← hl, h0])⟩
  · refine ⟨some ⟨g, 0, none⟩, cap, by rw [← hl], .inr ⟨g, 0, rfl, fun j hj i x hx => ?_⟩⟩
    have hi : i < m := by
      rcases Nat.lt_or_ge i m with h | h
      · exact h
      · rw [List.getElem?_eq_none (by rw [hf]; exact h)] at hx; cases hx
    have h4 := h.cells (g := g) rfl (j * m + i) x (flat_get f m d hf qs j i x hj hi hx)
    have hadd : (⟨g, 0, none⟩ : Addr).add (j * m + i) = ⟨g, 0 + j * m + i, none⟩ := by unfold Addr.add; split <;> simp_all
    rw [hadd] at h4
    exact h4
theorem own_slA {w : World} {B : Nat} {e : TypeId} {s : Nat} {v : Value} {n : Nat} {xs : List Value} (h : w.ownsRow B e s v n xs) : ∃ p c, v = .slice p n c := by
  rcases h.2 with ⟨rfl, h0⟩ | ⟨g, cap, cur, rfl, _⟩
  · exact ⟨none, 0, by rw [h0]⟩
  · exact ⟨_, _, rfl⟩
theorem own_belA {w w' : World} {base : Nat} {e : TypeId} {size : Nat} {v : Value} {n : Nat} {xs : List Value} (h : w.ownsRow base e size v n xs) (k : Below w.heap.size w w') : w'.ownsRow base e size v n xs :=
  ⟨h.1, h.2.imp id (fun ⟨g, cap, cur, h1, h2, h3, h4⟩ => ⟨g, cap, cur, h1, h2, (k.block g (Array.getElem?_eq_some_iff.1 h3).1).trans h3, h4⟩)⟩
end
end Go.Proofs.YtfacmnooklljnaaDoor

/- accept: Quality's closure; the best one of a row. No conditions but those that each law states. -/
namespace Go.Proofs.YtfacmnooklljnaaDoor
set_option linter.unusedVariables false
set_option linter.unusedSimpArgs false
open Go.RowKit Go.Shelf
attribute [local go_sem] Oper.semAt_some
set_option maxHeartbeats 8000000
set_option maxRecDepth 100000
def ra0 : Ap.Ra := ([], [], 0, 0)
theorem raC_len (r : Ap.Ra) : (raC r).length = 4 := rfl
theorem ac_Quality1 (r : Ap.Ra) (kb ub : ByteArray) (K U : Nat) (w : World) (hn : r.2.2.1 < 2000000) (hK : Boxed w K 9 (.string kb)) (hU : Boxed w U 9 (.string ub)) :
    Calls Tryd.prog 17 #[raV r, .pointer (some ⟨K, 0, none⟩), .pointer (some ⟨U, 0, none⟩)] w fun e w' => e = .returned (.int .i64 (Ap.fits r kb.toList ub.toList)) ∧ Below w.heap.size w w' := by
  have KF := Lib.hid (fun W => ac_Fits r kb ub W hn)
  obtain ⟨F, hF⟩ : ∃ y, Ap.fits r kb.toList ub.toList = y := ⟨_, rfl⟩
  rw [hF] at KF ⊢
  have cK := hK.cell
  have zK := hK.frozen
  have lK := hK.lt
  have cU := hU.cell
  have zU := hU.frozen
  have lU := hU.lt
  unfold raV at KF ⊢
  unfold tx at KF ⊢
  clear hF hK hU
  go_enter Tryd.func17, Tryd.ntmps17
  go_wp2_with fail
  refine (KF.out _).mono ?_
  rintro e w2 ⟨rfl, hb⟩
  have HB := Lib.hid (((Below.refl w.heap.size w).alloc (Nat.le_refl _) _).trans (hb.mono (by simp)))
  clear hb
  go_wp2_with fail
  exact bodyPost_ret (v := .int .i64 F) (by simp [results, Tryd.results17, go_sem]) rfl ⟨rfl, HB.out⟩
theorem q1_in (args : Array Value) (W : World) : (callFunc 17 args).run Tryd.prog W = .ok (.enter 17 args) W := enters_of Tryd.func17 (by kernel_rfl) rfl args W
theorem set4 {W : World} {B : Nat} {t : TypeId} {a b c d a' b' c' d' : Value} (h : W.heap[B]? = some (.cells #[a, b, c, d] t (0, 0))) :
    ((((W.setCell ⟨B, 0, none⟩ a').setCell ⟨B, 1, none⟩ b').setCell ⟨B, 2, none⟩ c').setCell ⟨B, 3, none⟩ d').heap[B]? = some (.cells #[a', b', c', d'] t (0, 0)) := by
  have a1 : (W.setCell ⟨B, 0, none⟩ a').heap[B]? = some (.cells #[a', b, c, d] t (0, 0)) := (heap_setCell_same W B 0 _ _ _ h).trans (by simp)
  have a2 : ((W.setCell ⟨B, 0, none⟩ a').setCell ⟨B, 1, none⟩ b').heap[B]? = some (.cells #[a', b', c, d] t (0, 0)) := (heap_setCell_same _ B 1 _ _ _ a1).trans (by simp)
  have a3 : (((W.setCell ⟨B, 0, none⟩ a').setCell ⟨B, 1, none⟩ b').setCell ⟨B, 2, none⟩ c').heap[B]? = some (.cells #[a', b', c', d] t (0, 0)) := (heap_setCell_same _ B 2 _ _ _ a2).trans (by simp)
  exact (heap_setCell_same _ B 3 _ _ _ a3).trans (by simp)
/-- the first best one, at last -/
def bestV (st : Option Ap.Ra × Int) : Value := .tuple #[raV (st.1.getD ra0), .bool st.1.isSome]
theorem ac_best (v : Value) (l : List Ap.Ra) (kb ub : ByteArray) (K U : Nat) (w : World) (hv : Rin raC 4 ra0 w v l) (hl : l.length ≤ 1000000) (hn : ∀ r ∈ l, r.2.2.1 < 2000000) (hK : Boxed w K 9 (.string kb)) (hU : Boxed w U 9 (.string ub)) :
    Calls Tryd.prog 16 #[v, .func (.func 17) #[] #[.pointer (some ⟨K, 0, none⟩), .pointer (some ⟨U, 0, none⟩)]] w fun e w' => e = .returned (bestV (Ap.best (fun r => Ap.fits r kb.toList ub.toList) l)) ∧ Below w.heap.size w w' := by
  obtain ⟨p, c, rfl⟩ := hv.slice
  obtain ⟨N, hN⟩ : ∃ z, l.length = z := ⟨_, rfl⟩
  rw [hN] at hv hl ⊢
  obtain ⟨f, hf⟩ : ∃ f : Ap.Ra → Int, (fun r => Ap.fits r kb.toList ub.toList) = f := ⟨_, rfl⟩
  obtain ⟨B, hB⟩ : ∃ z, w.heap.size = z := ⟨_, rfl⟩
  obtain ⟨V, hV⟩ : ∃ z, w.alloc (.cells #[.string ⟨#[]⟩, .string ⟨#[]⟩, .int .i64 0, .int .i64 0] 33) = z := ⟨_, rfl⟩
  have hbV : Below B w V := by rw [← hV, ← hB]; exact (Below.refl _ _).alloc (Nat.le_refl _) _
  have hRV : V.heap[B]? = some (.cells (raC ra0).toArray 33 (0, 0)) := by rw [← hV, ← hB]; exact World.alloc_heap_new _ _
  have HQ := Lib.hid (fun r W (h1 : r.2.2.1 < 2000000) (h2 : Boxed W K 9 (.string kb)) (h3 : Boxed W U 9 (.string ub)) => show Calls Tryd.prog 17 #[raV r, .pointer (some ⟨K, 0, none⟩), .pointer (some ⟨U, 0, none⟩)] W fun e w' => e = .returned (.int .i64 (f r)) ∧ Below W.heap.size W w' from by rw [← hf]; exact ac_Quality1 r kb ub K U W h1 h2 h3)
  rw [hf, hB]
  have HVV := Lib.hid hV
  have HB := Lib.hid hB
  have HBV := Lib.hid hbV
  have HRV := Lib.hid hRV
  have HIN := Lib.hid hv
  have HN := Lib.hid hN
  have HNN := Lib.hid hn
  have HK := Lib.hid hK
  have HU := Lib.hid hU
  clear hf hB hV hbV hRV hv hN hn hK hU
  go_enter Tryd.func16, Tryd.ntmps16
  go_wp2_with fail
  rw [HVV.out, HB.out]
  go_loopw [5, 6, 12] (fun b m i wr => ∃ (k : Nat) (o : Option Ap.Ra) (q : Int), k ≤ N ∧ i = .int .i64 k ∧ b = .bool o.isSome ∧ m = .int .i64 q ∧ Ap.best f (l.take k) = (o, q) ∧ Below B w wr ∧ wr.heap[B]? = some (.cells (raC (o.getD ra0)).toArray 33 (0, 0))) (fun _ _ i _ => N - (intOf i).toNat)
  case atStart => exact ⟨0, none, 0, Nat.zero_le _, rfl, rfl, rfl, rfl, HBV.out, HRV.out⟩
  case round =>
    obtain ⟨k, o, q, hk, rfl, rfl, rfl, hst, hb, hcl⟩ := hrel
    obtain ⟨b, hbb⟩ : ∃ y, o.isSome = y := ⟨_, rfl⟩
    obtain ⟨r0, hr0⟩ : ∃ y, o.getD ra0 = y := ⟨_, rfl⟩
    rw [hr0] at hcl
    rw [hbb]
    by_cases hlt : k < N
    · have hI : (k : Int) < (N : Int) := by omega
      obtain ⟨g, oo, c', hsl, hx⟩ := (HIN.out.below (HB.out.symm ▸ hb)).at (j := k) (by rw [HN.out]; exact hlt)
      obtain ⟨rfl, rfl⟩ : p = some ⟨g, oo, none⟩ ∧ c = c' := by
        simp only [Value.slice.injEq] at hsl
        exact ⟨hsl.1, hsl.2.2⟩
      obtain ⟨r, hr⟩ : ∃ x, l.getD k ra0 = x := ⟨_, rfl⟩
      have hmem : l.getD k ra0 ∈ l := by rw [List.getD_eq_getElem?_getD, List.getElem?_eq_getElem (by rw [HN.out]; exact hlt)]; exact List.getElem_mem _
      have htk : l.take (k + 1) = l.take k ++ [l.getD k ra0] := by
        rw [List.take_add_one, List.getD_eq_getElem?_getD, List.getElem?_eq_getElem (by rw [HN.out]; exact hlt)]; rfl
      have hfew := HNN.out _ hmem
      rw [hr] at hx htk hfew
      have hnx : Ap.best f (l.take (k + 1)) = Ap.best1 f (o, q) r := by
        rw [htk, ← hst]; unfold Ap.best; rw [List.foldl_append]; rfl
      have x0 := hx 0 _ rfl
      have x1 := hx 1 _ rfl
      have x2 := hx 2 _ rfl
      have x3 := hx 3 _ rfl
      rw [Nat.add_zero] at x0
      obtain ⟨V2, hV2⟩ : ∃ z, wr.alloc (.cells (raC r).toArray 33) = z := ⟨_, rfl⟩
      have hb2 : Below wr.heap.size wr V2 := by rw [← hV2]; exact (Below.refl _ _).alloc (Nat.le_refl _) _
      obtain ⟨D, hD⟩ : ∃ z, wr.heap.size = z := ⟨_, rfl⟩
      have hr2 : V2.heap[D]? = some (.cells (raC r).toArray 33 (0, 0)) := by rw [← hV2, ← hD]; exact World.alloc_heap_new _ _
      have hwB := HB.out
      have hBD : B < D := by rw [← hD]; exact (Array.getElem?_eq_some_iff.1 hcl).1
      have hbB2 : Below B w V2 := hb.trans (hb2.mono (by omega))
      have hcl2 := (hb2.block B (by omega)).trans hcl
      have KQ := Lib.hid (HQ.out r V2 hfew ((hbB2.block K (by have := HK.out.lt; omega)).trans HK.out) ((hbB2.block U (by have := HU.out.lt; omega)).trans HU.out))
      obtain ⟨y, hy⟩ : ∃ y, f r = y := ⟨_, rfl⟩
      rw [hy] at KQ
      have hb1 : Ap.best1 f (o, q) r = if q < y then (some r, y) else (o, q) := by unfold Ap.best1; rw [hy]
      rw [hb1] at hnx
      obtain ⟨xb, hxb⟩ : ∃ y : ByteArray, (⟨r.1.toArray⟩ : ByteArray) = y := ⟨_, rfl⟩
      obtain ⟨yb, hyb⟩ : ∃ y : ByteArray, (⟨r.2.1.toArray⟩ : ByteArray) = y := ⟨_, rfl⟩
      have hraC : raC r = [.string xb, .string yb, .int .i64 (r.2.2.1 : Int), .int .i64 r.2.2.2] := by unfold raC tx; rw [hxb, hyb]
      unfold tx at x0 x1
      rw [hxb] at x0
      rw [hyb] at x1
      unfold raV tx at KQ
      rw [hxb, hyb] at KQ
      rw [hraC] at hV2 hr2
      have HNX := Lib.hid hnx
      have HV2 := Lib.hid hV2
      have HD := Lib.hid hD
      have HR2 := Lib.hid hr2
      have HB2 := Lib.hid hbB2
      have HC2 := Lib.hid hcl2
      have HRC := Lib.hid hraC
      have HBD := Lib.hid hBD
      have HR0 := Lib.hid hr0
      have HBO := Lib.hid hbb
      clear hst hb hcl hx hr hmem htk hfew hnx hb2 hr2 hbB2 hcl2 hy hb1 hxb hyb hV2 hD hwB hBD hsl hraC hr0 hbb
      go_wp2_with fail
      rw [HV2.out, HD.out]
      refine KQ.out.mono ?_
      rintro e w3 ⟨rfl, hb3⟩
      have hDl := (Array.getElem?_eq_some_iff.1 HR2.out).1
      have hc3 : w3.heap[B]? = some (.cells (raC r0).toArray 33 (0, 0)) := (hb3.block B (by have := HBD.out; omega)).trans HC2.out
      have hd3 : w3.heap[D]? = some (.cells #[.string xb, .string yb, .int .i64 (r.2.2.1 : Int), .int .i64 r.2.2.2] 33 (0, 0)) := (hb3.block D hDl).trans HR2.out
      have HB3 := Lib.hid (HB2.out.trans (hb3.mono (by have := HBD.out; omega)))
      have e0 : w3.cell? ⟨B, 0, none⟩ = some (tx r0.1) := by simp [World.cell?, hc3, raC]
      have e1 : w3.cell? ⟨B, 1, none⟩ = some (tx r0.2.1) := by simp [World.cell?, hc3, raC]
      have e2 : w3.cell? ⟨B, 2, none⟩ = some (.int .i64 (r0.2.2.1 : Int)) := by simp [World.cell?, hc3, raC]
      have e3 : w3.cell? ⟨B, 3, none⟩ = some (.int .i64 r0.2.2.2) := by simp [World.cell?, hc3, raC]
      have z0 : w3.frozen? ⟨B, 0, none⟩ = false := frozen_of_row _ _ _ _ _ hc3
      have z1 : w3.frozen? ⟨B, 1, none⟩ = false := frozen_of_row _ _ _ _ _ hc3
      have z2 : w3.frozen? ⟨B, 2, none⟩ = false := frozen_of_row _ _ _ _ _ hc3
      have z3 : w3.frozen? ⟨B, 3, none⟩ = false := frozen_of_row _ _ _ _ _ hc3
      have d0 : w3.cell? ⟨D, 0, none⟩ = some (.string xb) := by simp [World.cell?, hd3]
      have d1 : w3.cell? ⟨D, 1, none⟩ = some (.string yb) := by simp [World.cell?, hd3]
      have d2 : w3.cell? ⟨D, 2, none⟩ = some (.int .i64 (r.2.2.1 : Int)) := by simp [World.cell?, hd3]
      have d3 : w3.cell? ⟨D, 3, none⟩ = some (.int .i64 r.2.2.2) := by simp [World.cell?, hd3]
      have HC3 := Lib.hid hc3
      unfold tx at e0 e1
      clear hb3 hc3 hd3 x0 x1 x2 x3 hDl
      by_cases hqy : q < y
      · rw [if_pos hqy] at HNX
        go_wp2_with fail
        have hc := HC3.out
        obtain ⟨u0, hu0⟩ : ∃ z, tx r0.1 = z := ⟨_, rfl⟩
        obtain ⟨u1, hu1⟩ : ∃ z, tx r0.2.1 = z := ⟨_, rfl⟩
        unfold raC at hc
        rw [hu0, hu1] at hc
        have a1 : (w3.setCell ⟨B, 0, none⟩ (.string xb)).heap[B]? = some (.cells #[.string xb, u1, .int .i64 (r0.2.2.1 : Int), .int .i64 r0.2.2.2] 33 (0, 0)) := (heap_setCell_same w3 B 0 _ _ _ hc).trans (by simp)
        have a2 : ((w3.setCell ⟨B, 0, none⟩ (.string xb)).setCell ⟨B, 1, none⟩ (.string yb)).heap[B]? = some (.cells #[.string xb, .string yb, .int .i64 (r0.2.2.1 : Int), .int .i64 r0.2.2.2] 33 (0, 0)) := (heap_setCell_same _ B 1 _ _ _ a1).trans (by simp)
        have a3 : (((w3.setCell ⟨B, 0, none⟩ (.string xb)).setCell ⟨B, 1, none⟩ (.string yb)).setCell ⟨B, 2, none⟩ (.int .i64 (r.2.2.1 : Int))).heap[B]? = some (.cells #[.string xb, .string yb, .int .i64 (r.2.2.1 : Int), .int .i64 r0.2.2.2] 33 (0, 0)) := (heap_setCell_same _ B 2 _ _ _ a2).trans (by simp)
        have a4 : ((((w3.setCell ⟨B, 0, none⟩ (.string xb)).setCell ⟨B, 1, none⟩ (.string yb)).setCell ⟨B, 2, none⟩ (.int .i64 (r.2.2.1 : Int))).setCell ⟨B, 3, none⟩ (.int .i64 r.2.2.2)).heap[B]? = some (.cells #[.string xb, .string yb, .int .i64 (r.2.2.1 : Int), .int .i64 r.2.2.2] 33 (0, 0)) := (heap_setCell_same _ B 3 _ _ _ a3).trans (by simp)
        have B4 : Below B w ((((w3.setCell ⟨B, 0, none⟩ (.string xb)).setCell ⟨B, 1, none⟩ (.string yb)).setCell ⟨B, 2, none⟩ (.int .i64 (r.2.2.1 : Int))).setCell ⟨B, 3, none⟩ (.int .i64 r.2.2.2)) :=
          (((HB3.out.setCell (p := ⟨B, 0, none⟩) (Nat.le_refl _) _).setCell (p := ⟨B, 1, none⟩) (Nat.le_refl _) _).setCell (p := ⟨B, 2, none⟩) (Nat.le_refl _) _).setCell (p := ⟨B, 3, none⟩) (Nat.le_refl _) _
        rw [← HRC.out] at a4
        have HA4 := Lib.hid a4
        have HB4 := Lib.hid B4
        clear hc hu0 hu1 a1 a2 a3 a4 B4 hqy
        go_roundw
        case rel => exact ⟨k + 1, some r, y, hlt, by go_num, rfl, rfl, HNX.out, HB4.out, HA4.out⟩
        case measure => simp [intOf]; omega
      · rw [if_neg hqy] at HNX
        go_wp2_with fail
        go_roundw
        case rel => exact ⟨k + 1, o, q, hlt, by go_num, by rw [HBO.out], rfl, HNX.out, HB3.out, by rw [HR0.out]; exact HC3.out⟩
        case measure => simp [intOf]; omega
    · obtain rfl : k = N := by omega
      have hI : ¬ (k : Int) < (k : Int) := by omega
      rw [List.take_of_length_le (by rw [HN.out]; exact Nat.le_refl _)] at hst
      have HST := Lib.hid hst
      have HBB := Lib.hid hb
      have HCC := Lib.hid hcl
      have e0 : wr.cell? ⟨B, 0, none⟩ = some (.string ⟨r0.1.toArray⟩) := by simp [World.cell?, hcl, raC, tx]
      have e1 : wr.cell? ⟨B, 1, none⟩ = some (.string ⟨r0.2.1.toArray⟩) := by simp [World.cell?, hcl, raC, tx]
      have e2 : wr.cell? ⟨B, 2, none⟩ = some (.int .i64 (r0.2.2.1 : Int)) := by simp [World.cell?, hcl, raC]
      have e3 : wr.cell? ⟨B, 3, none⟩ = some (.int .i64 r0.2.2.2) := by simp [World.cell?, hcl, raC]
      have z0 : wr.frozen? ⟨B, 0, none⟩ = false := frozen_of_row _ _ _ _ _ hcl
      have z1 : wr.frozen? ⟨B, 1, none⟩ = false := frozen_of_row _ _ _ _ _ hcl
      have z2 : wr.frozen? ⟨B, 2, none⟩ = false := frozen_of_row _ _ _ _ _ hcl
      have z3 : wr.frozen? ⟨B, 3, none⟩ = false := frozen_of_row _ _ _ _ _ hcl
      clear hst hb hcl
      go_wp2_with fail
      have hf4 := set4 (a' := .string ⟨r0.1.toArray⟩) (b' := .string ⟨r0.2.1.toArray⟩) (c' := .int .i64 (r0.2.2.1 : Int)) (d' := .int .i64 r0.2.2.2) HCC.out
      have B4 := (((HBB.out.setCell (p := ⟨B, 0, none⟩) (Nat.le_refl _) (.string ⟨r0.1.toArray⟩)).setCell (p := ⟨B, 1, none⟩) (Nat.le_refl _) (.string ⟨r0.2.1.toArray⟩)).setCell (p := ⟨B, 2, none⟩) (Nat.le_refl _) (.int .i64 (r0.2.2.1 : Int))).setCell (p := ⟨B, 3, none⟩) (Nat.le_refl _) (.int .i64 r0.2.2.2)
      obtain ⟨W4, hW4⟩ : ∃ y, (((wr.setCell ⟨B, 0, none⟩ (.string ⟨r0.1.toArray⟩)).setCell ⟨B, 1, none⟩ (.string ⟨r0.2.1.toArray⟩)).setCell ⟨B, 2, none⟩ (.int .i64 (r0.2.2.1 : Int))).setCell ⟨B, 3, none⟩ (.int .i64 r0.2.2.2) = y := ⟨_, rfl⟩
      rw [hW4] at hf4 B4 ⊢
      have c0 : W4.cell? ⟨B, 0, none⟩ = some (.string ⟨r0.1.toArray⟩) := by simp [World.cell?, hf4]
      have c1 : W4.cell? ⟨B, 1, none⟩ = some (.string ⟨r0.2.1.toArray⟩) := by simp [World.cell?, hf4]
      have c2 : W4.cell? ⟨B, 2, none⟩ = some (.int .i64 (r0.2.2.1 : Int)) := by simp [World.cell?, hf4]
      have c3 : W4.cell? ⟨B, 3, none⟩ = some (.int .i64 r0.2.2.2) := by simp [World.cell?, hf4]
      refine bodyPost_ret (v := .tuple #[.agg #[.string ⟨r0.1.toArray⟩, .string ⟨r0.2.1.toArray⟩, .int .i64 (r0.2.2.1 : Int), .int .i64 r0.2.2.2], .bool b]) (by simp [results, Tryd.results16, go_sem, c0, c1, c2, c3]) rfl ⟨?_, B4⟩
      rw [HST.out]
      unfold bestV
      simp only
      rw [hbb, hr0]
      rfl
end Go.Proofs.YtfacmnooklljnaaDoor

/- accept, plainly: how many parameters a range has, how big its quality is, how many ranges there are. No conditions but those that each law states. -/
namespace Go.Proofs.YtfacmnooklljnaaDoor
set_option linter.unusedVariables false
set_option linter.unusedSimpArgs false
namespace Ap
theorem fig_le {c : UInt8} (h : fig c = true) : 48 ≤ (c.toNat : Int) ∧ (c.toNat : Int) ≤ 57 := by unfold fig at h; simpa using h
theorem num_three {l : List UInt8} (h : l.all fig = true) (h3 : l.length = 3) : 0 ≤ num l ∧ num l ≤ 999 := by
  match l, h3 with
  | [a, b, c], _ =>
    simp only [List.all_cons, List.all_nil, Bool.and_true, Bool.and_eq_true] at h
    have ha := fig_le h.1
    have hb := fig_le h.2.1
    have hc := fig_le h.2.2
    unfold num
    simp only [List.foldl_cons, List.foldl_nil]
    omega
theorem thou_le {s : List UInt8} {q : Int} (h : thou s = some q) : 0 ≤ q ∧ q ≤ 1000 := by
  unfold thou at h
  split at h
  · rename_i hc
    obtain ⟨h1, h2, h3⟩ := hc
    have h4 := num_three h3 (by rw [List.length_append, List.length_drop]; simp; omega)
    split at h
    · split at h
      · cases h; omega
      · cases h
    · cases h; omega
  · cases h
/-- a state whose quality is one -/
def StOk (n : Nat) (st : Nat × Int × Bool) : Prop := st.1 ≤ n ∧ 0 ≤ st.2.1 ∧ st.2.1 ≤ 1000
theorem take1_ok {n : Nat} {st st' : Nat × Int × Bool} {s : List UInt8} (h : take1 st s = some st') (hs : StOk n st) : StOk (n + 1) st' := by
  unfold take1 at h
  split at h
  · cases h; exact ⟨Nat.le_succ_of_le hs.1, hs.2⟩
  · cases hp : par s with
    | none => rw [hp] at h; cases h
    | some nv =>
      rw [hp] at h
      simp only [Option.bind_some] at h
      split at h
      · cases h; exact ⟨Nat.le_succ_of_le hs.1, hs.2⟩
      · split at h
        · cases ht : thou nv.2 with
          | none => rw [ht] at h; cases h
          | some q =>
            rw [ht] at h
            cases h
            exact ⟨Nat.le_succ_of_le hs.1, thou_le ht⟩
        · cases h; exact ⟨Nat.succ_le_succ hs.1, hs.2⟩
theorem takes_ok : ∀ {L : List (List UInt8)} {n : Nat} {st st' : Nat × Int × Bool}, takes L st = some st' → StOk n st → StOk (n + L.length) st'
  | [], n, st, st', h, hs => by cases h; exact hs
  | s :: L, n, st, st', h, hs => by
    unfold takes at h
    cases ht : take1 st s with
    | none => rw [ht] at h; cases h
    | some st2 =>
      rw [ht] at h
      have := takes_ok (n := n + 1) h (take1_ok ht hs)
      rw [List.length_cons, show n + (L.length + 1) = n + 1 + L.length by omega]
      exact this
theorem one_ok {s : List UInt8} {r : Ra} (h : one s = some r) : r.2.2.1 ≤ s.length + 1 ∧ 0 ≤ r.2.2.2 ∧ r.2.2.2 ≤ 1000 := by
  unfold one at h
  split at h
  · cases ht : takes ((all s 59).drop 1) (0, 1000, false) with
    | none => rw [ht] at h; cases h
    | some st =>
      rw [ht] at h
      cases h
      have h1 := takes_ok (n := 0) ht ⟨Nat.le_refl _, by decide, by decide⟩
      have h2 := all_len s 59
      rw [List.length_drop] at h1
      exact ⟨by have := h1.1; show st.1 ≤ _; omega, h1.2⟩
  · cases h
theorem rd_ok (P : Ra → Prop) : ∀ {L : List (List UInt8)} {acc l : List Ra}, rd L acc = some l → (∀ r ∈ acc, P r) → (∀ p ∈ L, ∀ r, one p = some r → P r) → (∀ r ∈ l, P r) ∧ l.length ≤ acc.length + L.length
  | [], acc, l, h, ha, _ => by cases h; exact ⟨ha, Nat.le_refl _⟩
  | p :: L, acc, l, h, ha, hp => by
    unfold rd at h
    split at h
    · have := rd_ok P h ha (fun q hq => hp q (List.mem_cons_of_mem _ hq))
      exact ⟨this.1, by rw [List.length_cons]; omega⟩
    · cases ho : one p with
      | none => rw [ho] at h; cases h
      | some r =>
        rw [ho] at h
        have := rd_ok P (acc := acc ++ [r]) h (fun x hx => by
          rcases List.mem_append.1 hx with h1 | h1
          · exact ha x h1
          · rw [List.mem_singleton] at h1
            subst h1
            exact hp p (List.mem_cons_self ..) _ ho) (fun q hq => hp q (List.mem_cons_of_mem _ hq))
        refine ⟨this.1, ?_⟩
        have h2 := this.2
        rw [List.length_append, List.length_singleton] at h2
        rw [List.length_cons]; omega
theorem parse_ok {s : List UInt8} {l : List Ra} (h : parse s = some l) : (∀ r ∈ l, r.2.2.1 ≤ s.length + 1 ∧ 0 ≤ r.2.2.2 ∧ r.2.2.2 ≤ 1000) ∧ l.length ≤ s.length + 1 := by
  unfold parse at h
  split at h
  · have h1 := rd_ok (fun r => r.2.2.1 ≤ s.length + 1 ∧ 0 ≤ r.2.2.2 ∧ r.2.2.2 ≤ 1000) h (fun r hr => by cases hr) (fun p hp r hr => by
      have h2 := one_ok hr
      have h3 := all_mem hp
      exact ⟨by omega, h2.2⟩)
    have h4 := all_len s 44
    exact ⟨h1.1, by have := h1.2; simp at this; omega⟩
  · cases h
end Ap
end Go.Proofs.YtfacmnooklljnaaDoor

/- accept: Quality, Takes. No conditions but those that each law states. -/
namespace Go.Proofs.YtfacmnooklljnaaDoor
set_option linter.unusedVariables false
set_option linter.unusedSimpArgs false
open Go.RowKit Go.Shelf
attribute [local go_sem] Oper.semAt_some
set_option maxHeartbeats 8000000
set_option maxRecDepth 100000
/-- what Quality tells -/
def quV (o : Option Int) : Value := match o with
  | some q => .tuple #[.int .i64 q, .int .i64 0]
  | none => .tuple #[.int .i64 0, .int .i64 220]
/-- the best one's quality -/
def obQ (ob : Option Ap.Ra) : Int := match ob with
  | none => 0
  | some r => r.2.2.2
/-- a row of ranges, of which a call may read -/
def RaS (w : World) (v : Value) (l : List Ap.Ra) : Prop := Rin raC 4 ra0 w v l
theorem ac_Quality (s k u : ByteArray) (w : World) (hs : s.size ≤ 100000) :
    Calls Tryd.prog 11 #[.string s, .string k, .string u] w fun e w' => e = .returned (quV (Ap.qual s.data.toList k.toList u.toList)) ∧ Below w.heap.size w w' := by
  have hsl : s.data.toList.length = s.size := rfl
  obtain ⟨o, ho⟩ : ∃ y, Ap.parse s.data.toList = y := ⟨_, rfl⟩
  have hqu : Ap.qual s.data.toList k.toList u.toList = o.map fun l => if l = [] then 1000 else obQ (Ap.best (fun r => Ap.fits r k.toList u.toList) l).1 := by rw [← ho]; rfl
  rw [hqu]
  have hok : ∀ l, o = some l → (∀ r ∈ l, r.2.2.1 < 2000000) ∧ l.length ≤ 1000000 := fun l hl => by
    have h := Ap.parse_ok (ho.trans hl)
    exact ⟨fun r hr => by have := (h.1 r hr).1; omega, by omega⟩
  have KP := Lib.hid (fun W => by
    have h := ac_Parse s W hs
    rw [ho] at h
    exact h)
  obtain ⟨V, hV⟩ : ∃ z, (w.alloc (.cells #[.string k] 9)).alloc (.cells #[.string u] 9) = z := ⟨_, rfl⟩
  have hb : Below w.heap.size w V := by rw [← hV]; exact ((Below.refl _ _).alloc (Nat.le_refl _) _).alloc (by simp) _
  obtain ⟨B, hB⟩ : ∃ z, w.heap.size = z := ⟨_, rfl⟩
  have hK : Boxed V B 9 (.string k) := by rw [← hV, ← hB]; exact (Boxed.new _ _ _).alloc _
  have hU : Boxed V (B + 1) 9 (.string u) := by
    have h := Boxed.new (w.alloc (.cells #[.string k] 9)) 9 (.string u)
    rw [hV] at h
    simpa [hB] using h
  have HB := Lib.hid hB
  have HV := Lib.hid hV
  have HBV := Lib.hid hb
  have HK := Lib.hid hK
  have HU := Lib.hid hU
  have HOK := Lib.hid hok
  clear hqu hok hV hb hB hK hU ho
  go_enter Tryd.func11, Tryd.ntmps11
  go_wp2_with fail
  rw [HV.out, HB.out]
  refine (KP.out _).mono ?_
  rintro e w2 ⟨hb2, hpo⟩
  have HB2 := Lib.hid (HBV.out.trans (hb2.mono HBV.out.size))
  have HK2 := Lib.hid (boxed_below HK.out hb2)
  have HU2 := Lib.hid (boxed_below HU.out hb2)
  cases o with
  | none =>
    obtain rfl := hpo
    clear hb2
    go_wp2_with fail
    exact bodyPost_ret (v := .tuple #[.int .i64 0, .int .i64 220]) (by simp [results, Tryd.results11, go_sem]) rfl ⟨rfl, HB.out ▸ HB2.out⟩
  | some l =>
    obtain ⟨v, rfl, hown⟩ := hpo
    have hin : Rin raC 4 ra0 w2 v l := Rin.of_own raC_len (by decide) hown
    obtain ⟨p, c, rfl⟩ := hin.slice
    obtain ⟨h1, h2⟩ := HOK.out l rfl
    have HIN := Lib.hid hin
    have HH1 := Lib.hid h1
    have HH2 := Lib.hid h2
    clear hb2 hown hin h1
    by_cases hl0 : l.length = 0
    · obtain rfl : l = [] := List.eq_nil_of_length_eq_zero hl0
      clear hl0 h2
      go_wp2_with fail
      exact bodyPost_ret (v := .tuple #[.int .i64 1000, .int .i64 0]) (by simp [results, Tryd.results11, go_sem]) rfl ⟨by simp [quV], HB.out ▸ HB2.out⟩
    · have hI : ¬ ((l.length : Nat) : Int) = 0 := by omega
      have hne : l ≠ [] := fun h => hl0 (by rw [h]; rfl)
      have HNE := Lib.hid hne
      have KB := Lib.hid (ac_best (.slice p l.length c) l k u B (B + 1) w2 HIN.out HH2.out HH1.out HK2.out HU2.out)
      obtain ⟨N, hN⟩ : ∃ z, l.length = z := ⟨_, rfl⟩
      rw [hN] at KB hl0 h2 ⊢
      rw [hN] at hI
      obtain ⟨⟨ob, m⟩, hob⟩ : ∃ y, Ap.best (fun r => Ap.fits r k.toList u.toList) l = y := ⟨_, rfl⟩
      rw [hob] at KB
      have HQ := Lib.hid (show quV ((some l : Option (List Ap.Ra)).map fun l => if l = [] then 1000 else obQ (Ap.best (fun r => Ap.fits r k.toList u.toList) l).1) = .tuple #[.int .i64 (obQ ob), .int .i64 0] by
          show Value.tuple #[.int .i64 (if l = [] then 1000 else _), .int .i64 0] = _
          rw [if_neg hne, hob])
      unfold bestV raV tx at KB
      dsimp only at KB
      clear hN hne hob
      go_wp2_with fail
      refine KB.out.mono ?_
      rintro e w3 ⟨rfl, hb3⟩
      have HB3 := Lib.hid (HB2.out.trans (hb3.mono HB2.out.size))
      clear hb3
      cases ob with
      | none =>
        go_wp2_with fail
        exact bodyPost_ret (v := .tuple #[.int .i64 0, .int .i64 0]) (by simp [results, Tryd.results11, go_sem]) rfl ⟨by rw [HQ.out]; rfl, HB.out ▸ HB3.out.alloc HB3.out.size _⟩
      | some r =>
        go_wp2_with fail
        exact bodyPost_ret (v := .tuple #[.int .i64 r.2.2.2, .int .i64 0]) (by simp [results, Tryd.results11, go_sem]) rfl ⟨by rw [HQ.out]; rfl, HB.out ▸ HB3.out.alloc HB3.out.size _⟩
/-- whether a list takes a type -/
def takesB (o : Option Int) : Bool := match o with
  | some q => decide (0 < q)
  | none => false
theorem ac_Takes (s k u : ByteArray) (w : World) (hs : s.size ≤ 100000) :
    Calls Tryd.prog 12 #[.string s, .string k, .string u] w fun e w' => e = .returned (.bool (takesB (Ap.qual s.data.toList k.toList u.toList))) ∧ Below w.heap.size w w' := by
  have KQ := Lib.hid (ac_Quality s k u w hs)
  obtain ⟨o, ho⟩ : ∃ y, Ap.qual s.data.toList k.toList u.toList = y := ⟨_, rfl⟩
  rw [ho] at KQ ⊢
  clear ho
  go_enter Tryd.func12, Tryd.ntmps12
  go_wp2_with fail
  refine KQ.out.mono ?_
  rintro e w2 ⟨rfl, hb⟩
  have HB := Lib.hid hb
  clear hb KQ
  cases o with
  | none =>
    unfold quV
    dsimp only
    go_wp2_with fail
    exact bodyPost_ret (v := .bool false) (by simp [results, Tryd.results12, go_sem]) rfl ⟨rfl, HB.out⟩
  | some q =>
    unfold quV
    dsimp only
    go_wp2_with fail
    exact bodyPost_ret (v := .bool (decide (0 < q))) (by simp [results, Tryd.results12, go_sem]) rfl ⟨rfl, HB.out⟩
end Go.Proofs.YtfacmnooklljnaaDoor

/- Floats from 0 to 1: their order is that of their bits; what is a thousandth; a thousandfold cut to a whole number. Plain. -/
namespace Go.Proofs.YtfacmnooklljnaaDoor
set_option linter.unusedVariables false
set_option linter.unusedSimpArgs false
set_option maxRecDepth 100000
set_option maxHeartbeats 4000000
namespace Fl
open Ieee
def ONE : Nat := 4607182418800017408
def TH : Nat := 4652007308841189376
def INF : Nat := 9218868437227405312
/-- the value of a magnitude, in units of the least place -/
def val (r : Nat) : Nat := if r < 4503599627370496 then r else (4503599627370496 + r % 4503599627370496) * 2 ^ (r / 4503599627370496 - 1)
theorem val_pos {r : Nat} (h : ¬ r < 4503599627370496) : val r = (4503599627370496 + r % 4503599627370496) * 2 ^ (r / 4503599627370496 - 1) := if_neg h
theorem val_lt {a b : Nat} (h : a < b) : val a < val b := by
  by_cases ha : a < 4503599627370496
  · have e1 : val a = a := if_pos ha
    by_cases hb : b < 4503599627370496
    · rw [e1, show val b = b from if_pos hb]; exact h
    · rw [e1, val_pos hb]
      have h1 : 1 ≤ 2 ^ (b / 4503599627370496 - 1) := Nat.one_le_two_pow
      have h2 := Nat.mul_le_mul_left (4503599627370496 + b % 4503599627370496) h1
      omega
  · have hb : ¬ b < 4503599627370496 := by omega
    rw [val_pos ha, val_pos hb]
    have hk : a / 4503599627370496 ≤ b / 4503599627370496 := Nat.div_le_div_right (by omega)
    have hk1 : 1 ≤ a / 4503599627370496 := (Nat.one_le_div_iff (by omega)).2 (by omega)
    rcases Nat.lt_or_ge (a / 4503599627370496) (b / 4503599627370496) with hlt | hge
    · obtain ⟨j, hj⟩ : ∃ j, b / 4503599627370496 - 1 = (a / 4503599627370496 - 1) + 1 + j := ⟨b / 4503599627370496 - 1 - (a / 4503599627370496 - 1) - 1, by omega⟩
      rw [hj, Nat.pow_add, Nat.pow_succ]
      have hp : 1 ≤ 2 ^ (a / 4503599627370496 - 1) := Nat.one_le_two_pow
      have hq : 1 ≤ 2 ^ j := Nat.one_le_two_pow
      obtain ⟨P, hP⟩ : ∃ P, 2 ^ (a / 4503599627370496 - 1) = P := ⟨_, rfl⟩
      obtain ⟨Q, hQ⟩ : ∃ Q, 2 ^ j = Q := ⟨_, rfl⟩
      rw [hP, hQ]
      rw [hP] at hp
      rw [hQ] at hq
      have h1 : (4503599627370496 + a % 4503599627370496) * P < 9007199254740992 * P := Nat.mul_lt_mul_of_pos_right (by omega) (by omega)
      have h2 : 9007199254740992 * P ≤ (4503599627370496 + b % 4503599627370496) * (P * 2 * Q) := by
        have e : 9007199254740992 * P = 4503599627370496 * (P * 2 * 1) := by omega
        rw [e]
        exact Nat.mul_le_mul (by omega) (Nat.mul_le_mul_left _ hq)
      omega
    · have he : a / 4503599627370496 = b / 4503599627370496 := by omega
      rw [he]
      have hp : 1 ≤ 2 ^ (b / 4503599627370496 - 1) := Nat.one_le_two_pow
      exact Nat.mul_lt_mul_of_pos_right (by omega) (by omega)
theorem val_le {a b : Nat} (h : a ≤ b) : val a ≤ val b := by
  rcases Nat.lt_or_ge a b with h1 | h1
  · exact Nat.le_of_lt (val_lt h1)
  · have : a = b := by omega
    rw [this]; exact Nat.le_refl _
theorem val_inj {a b : Nat} (h : val a < val b) : a < b := by
  rcases Nat.lt_or_ge a b with h1 | h1
  · exact h1
  · have := val_le h1; omega
/-- what a word of a sign-less finite number stands for -/
theorem read_pos {r : Nat} (h : r < INF) : ∃ m k : Nat, double.read r = .number false m (-1074 + (k : Int)) ∧ m * 2 ^ k = val r ∧ m < 9007199254740992 ∧ k = r / 4503599627370496 - 1 := by
  unfold INF at h
  have h1 : double.signWeight = 9223372036854775808 := by decide
  have h2 : double.binade = 4503599627370496 := by decide
  have h3 : double.infRung = 9218868437227405312 := by decide
  have h4 : double.leastPlace = -1074 := by decide
  have e1 : r / 9223372036854775808 = 0 := Nat.div_eq_of_lt (by omega)
  have e2 : r % 9223372036854775808 = r := Nat.mod_eq_of_lt (by omega)
  unfold Format.read
  simp only [h1, h2, h3, h4, e1, e2]
  by_cases hr : r < 4503599627370496
  · refine ⟨r, 0, ?_, ?_, by omega, by omega⟩
    · rw [if_pos hr]; rfl
    · unfold val; rw [if_pos hr]; simp
  · refine ⟨4503599627370496 + r % 4503599627370496, r / 4503599627370496 - 1, ?_, ?_, by omega, rfl⟩
    · rw [if_neg hr, if_pos h]; rfl
    · unfold val; rw [if_neg hr]
theorem cmp_nat (x y : Nat) : compare (x : Int) (y : Int) = compare x y := by
  rw [Nat.compare_eq_ite_lt]
  show compareOfLessAndEq (x : Int) (y : Int) = _
  unfold compareOfLessAndEq
  rcases Nat.lt_trichotomy x y with h | h | h
  · rw [if_pos (by omega), if_pos h]
  · subst h; simp
  · rw [if_neg (by omega), if_neg (by omega), if_neg (by omega), if_pos h]
theorem cmp_mul (x y c : Nat) (hc : 0 < c) : compare (x * c) (y * c) = compare x y := by
  rw [Nat.compare_eq_ite_lt, Nat.compare_eq_ite_lt]
  simp only [Nat.mul_lt_mul_right hc]
theorem order_pos {a b : Nat} (ha : a < INF) (hb : b < INF) : double.order a b = some (compare a b) := by
  obtain ⟨m, k, e1, v1, _⟩ := read_pos ha
  obtain ⟨n, l, e2, v2, _⟩ := read_pos hb
  unfold Format.order
  rw [e1, e2]
  unfold Datum.order
  simp only [Option.some.injEq]
  have hv : compare a b = compare (val a) (val b) := by
    rw [Nat.compare_eq_ite_lt, Nat.compare_eq_ite_lt]
    rcases Nat.lt_trichotomy a b with h | h | h
    · rw [if_pos h, if_pos (val_lt h)]
    · subst h; simp
    · have := val_lt h
      rw [if_neg (by omega), if_pos h, if_neg (by omega), if_pos this]
  rw [hv, ← v1, ← v2]
  obtain ⟨c, hc⟩ : ∃ c, min k l = c := ⟨_, rfl⟩
  have hmin : min (-1074 + (k : Int)) (-1074 + (l : Int)) = -1074 + (c : Int) := by omega
  rw [hmin]
  have t1 : (-1074 + (k : Int) - (-1074 + (c : Int))).toNat = k - c := by omega
  have t2 : (-1074 + (l : Int) - (-1074 + (c : Int))).toNat = l - c := by omega
  rw [t1, t2]
  unfold signed
  simp only [Bool.false_eq_true, if_false]
  rw [cmp_nat, Nat.shiftLeft_eq, Nat.shiftLeft_eq]
  have s1 : m * 2 ^ k = m * 2 ^ (k - c) * 2 ^ c := by rw [Nat.mul_assoc, ← Nat.pow_add]; congr 2; omega
  have s2 : n * 2 ^ l = n * 2 ^ (l - c) * 2 ^ c := by rw [Nat.mul_assoc, ← Nat.pow_add]; congr 2; omega
  rw [s1, s2, cmp_mul _ _ _ (Nat.two_pow_pos _)]
/-- a thousandth of a number up to 1000 -/
def Tn (n : Nat) : Nat := (double.div (double.write (.number false n 0)) TH).getD 0
theorem Tn_div : ∀ n : Fin 1001, double.div (double.write (.number false n.val 0)) TH = some (Tn n.val) := by decide +kernel
theorem Tn_step : ∀ n : Fin 1000, Tn n.val < Tn (n.val + 1) := by decide +kernel
theorem Tn_top : Tn 1000 = ONE := by decide +kernel
theorem Tn_zero : Tn 0 = 0 := by decide +kernel
theorem Tn_val : ∀ n : Fin 1000, n.val * 2 ^ 1074 ≤ 1000 * val (Tn (n.val + 1)) := by decide +kernel
theorem Tn_lt {a b : Nat} (h : a < b) (hb : b ≤ 1000) : Tn a < Tn b := by
  induction b with
  | zero => omega
  | succ b ih =>
    have h1 := Tn_step ⟨b, by omega⟩
    simp only at h1
    rcases Nat.lt_or_ge a b with h2 | h2
    · exact Nat.lt_trans (ih h2 (by omega)) h1
    · have : a = b := by omega
      subst this; exact h1
theorem Tn_le {a b : Nat} (h : a ≤ b) (hb : b ≤ 1000) : Tn a ≤ Tn b := by
  rcases Nat.lt_or_ge a b with h1 | h1
  · exact Nat.le_of_lt (Tn_lt h1 hb)
  · have : a = b := by omega
    rw [this]; exact Nat.le_refl _
theorem Tn_one {n : Nat} (h : n ≤ 1000) : Tn n ≤ ONE := by rw [← Tn_top]; exact Tn_le h (Nat.le_refl _)
theorem one_inf {r : Nat} (h : r ≤ ONE) : r < INF := by unfold ONE at h; unfold INF; omega
end Fl
end Go.Proofs.YtfacmnooklljnaaDoor

/- Floats from 0 to 1: a thousandfold cut to a whole number. Plain. -/
namespace Go.Proofs.YtfacmnooklljnaaDoor
set_option linter.unusedVariables false
set_option linter.unusedSimpArgs false
set_option maxRecDepth 100000
set_option maxHeartbeats 1000000
namespace Fl
open Ieee
/-- so many whole thousandths are there at most -/
theorem whole {r m : Nat} (hm : 1 ≤ m) (hm2 : m ≤ 1000) (h : Tn m ≤ r) : (m - 1) * 2 ^ 1074 ≤ 1000 * val r := by
  have h1 := Tn_val ⟨m - 1, by omega⟩
  simp only [show m - 1 + 1 = m by omega] at h1
  have h2 := val_le h
  exact Nat.le_trans h1 (Nat.mul_le_mul_left _ h2)
/-- the value of a rung made of places and of what is kept -/
theorem val_rung {L q : Nat} (h : L = 0 ∨ 4503599627370496 ≤ q) (hq : q ≤ 9007199254740992) : val (L * 4503599627370496 + q) = q * 2 ^ L := by
  by_cases h0 : L * 4503599627370496 + q < 4503599627370496
  · obtain rfl : L = 0 := by omega
    unfold val; rw [if_pos (by omega)]; simp
  · rw [val_pos h0]
    rcases Nat.lt_or_ge q 4503599627370496 with h1 | h1
    · obtain rfl : L = 0 := by omega
      omega
    · rcases Nat.lt_or_ge q 9007199254740992 with h2 | h2
      · have e1 : (L * 4503599627370496 + q) / 4503599627370496 = L + 1 := by omega
        have e2 : (L * 4503599627370496 + q) % 4503599627370496 = q - 4503599627370496 := by omega
        rw [e1, e2, show 4503599627370496 + (q - 4503599627370496) = q by omega]; simp
      · obtain rfl : q = 9007199254740992 := by omega
        have e1 : (L * 4503599627370496 + 9007199254740992) / 4503599627370496 = L + 2 := by omega
        have e2 : (L * 4503599627370496 + 9007199254740992) % 4503599627370496 = 0 := by omega
        rw [e1, e2, show L + 2 - 1 = L + 1 by omega, Nat.pow_succ]; omega
/-- a sign-less finite number below 2 ^ 11 cut towards nought -/
theorem toInt_pos {p : Nat} (hp : p < INF) (hk : p / 4503599627370496 - 1 ≤ 1074) : (double.read p).toInt .zero = some ((val p / 2 ^ 1074 : Nat) : Int) := by
  obtain ⟨m, k, e1, v1, hm, hk2⟩ := read_pos hp
  rw [e1]
  unfold Datum.toInt Datum.integral Toward.cut
  simp only
  have t1 : (-1074 + (k : Int)).toNat = 0 := by omega
  have t2 : (-(-1074 + (k : Int))).toNat = 1074 - k := by omega
  rw [t1, t2, Nat.shiftLeft_zero]
  simp only [Bool.toNat_false, Nat.add_zero, Option.some.injEq]
  unfold signed
  simp only [Bool.false_eq_true, if_false, Nat.shiftLeft_zero]
  congr 1
  rw [← v1]
  have e2 : m * 2 ^ k / 2 ^ 1074 = m / 2 ^ (1074 - k) := by
    have : (2 : Nat) ^ 1074 = 2 ^ (1074 - k) * 2 ^ k := by rw [← Nat.pow_add]; congr 1; omega
    rw [this, Nat.mul_div_mul_right _ _ (Nat.two_pow_pos k)]
  rw [e2, Nat.shiftLeft_eq, Nat.one_mul]
  rcases Nat.le_total (1074 - k) (m.log2 + 2) with h | h
  · rw [Nat.min_eq_left h]
  · rw [Nat.min_eq_right h]
    have hlt : m < 2 ^ (m.log2 + 1) := Nat.lt_log2_self
    have h1 : m < 2 ^ (m.log2 + 2) := Nat.lt_trans hlt (Nat.pow_lt_pow_right (by decide) (by omega))
    have h2 : m < 2 ^ (1074 - k) := Nat.lt_of_lt_of_le h1 (Nat.pow_le_pow_right (by decide) h)
    rw [Nat.div_eq_of_lt h1, Nat.div_eq_of_lt h2]
theorem cut_bound {X d g : Nat} (hlog : X.log2 = g) (hX : X ≠ 0) (hdg : g ≤ d + 52) : X / 2 ^ d ≤ Toward.even.cut false X d ∧ Toward.even.cut false X d ≤ 9007199254740992 := by
  have hg2 : X < 2 ^ (g + 1) := by rw [← hlog]; exact Nat.lt_log2_self
  obtain ⟨c, hc⟩ : ∃ c, min d (g + 2) = c := ⟨_, rfl⟩
  have hcd : c ≤ d := by omega
  have hcg : g + 1 ≤ c + 53 := by omega
  have hlow : X / 2 ^ d ≤ X / 2 ^ c := Nat.div_le_div_left (Nat.pow_le_pow_right (by decide) hcd) (Nat.two_pow_pos c)
  have hup : X / 2 ^ c < 9007199254740992 := by
    rw [Nat.div_lt_iff_lt_mul (Nat.two_pow_pos c)]
    refine Nat.lt_of_lt_of_le hg2 ?_
    rw [show (9007199254740992 : Nat) = 2 ^ 53 from rfl, ← Nat.pow_add]
    exact Nat.pow_le_pow_right (by decide) (by omega)
  unfold Toward.cut
  simp only
  rw [hlog, hc, Nat.shiftLeft_eq, Nat.one_mul]
  have hb : ∀ b : Bool, b.toNat ≤ 1 := fun b => by cases b <;> decide
  refine ⟨Nat.le_trans hlow (Nat.le_add_right _ _), ?_⟩
  have h1 := hb (decide (2 ^ c < 2 * (X % 2 ^ c)) || 2 ^ c == 2 * (X % 2 ^ c) && X / 2 ^ c % 2 == 1)
  exact Nat.le_trans (Nat.add_le_add (Nat.le_sub_one_of_lt hup) h1) (by decide)
theorem log_le {X g : Nat} (hX : X ≠ 0) (h : X < 2 ^ (g + 1)) : X.log2 ≤ g := by
  have h1 := Nat.log2_self_le hX
  rcases Nat.lt_or_ge g X.log2 with h2 | h2
  · have h3 : 2 ^ (g + 1) ≤ 2 ^ X.log2 := Nat.pow_le_pow_right (by decide) h2
    exact absurd (Nat.lt_of_lt_of_le h (Nat.le_trans h3 h1)) (Nat.lt_irrefl _)
  · exact h2
theorem log_ge {X g : Nat} (h : 2 ^ g ≤ X) : g ≤ X.log2 := by
  rcases Nat.lt_or_ge X.log2 g with h2 | h2
  · have h1 : X < 2 ^ (X.log2 + 1) := Nat.lt_log2_self
    have h3 : 2 ^ (X.log2 + 1) ≤ 2 ^ g := Nat.pow_le_pow_right (by decide) h2
    exact absurd (Nat.lt_of_lt_of_le h1 (Nat.le_trans h3 h)) (Nat.lt_irrefl _)
  · exact h2
/-- the word nearest to a thousandfold -/
theorem near_th {m k : Nat} (hm : 0 < m) (hm2 : m < 9007199254740992) (hk : k ≤ 1021) : ∃ L q d : Nat, double.nearest false (m * 8796093022208000) (-1074 + (k : Int) + -43) = L * 4503599627370496 + q ∧ q ≤ 9007199254740992 ∧ L ≤ 1031 ∧ (L = 0 ∨ 4503599627370496 ≤ q) ∧
    m * 8796093022208000 / 2 ^ d ≤ q ∧ d + k = L + 43 := by
  obtain ⟨X, hX⟩ : ∃ X, m * 8796093022208000 = X := ⟨_, rfl⟩
  have hX0 : X ≠ 0 := by omega
  have hXl : 2 ^ 52 ≤ X := by rw [show (2 : Nat) ^ 52 = 4503599627370496 from rfl]; omega
  have hXu : X < 2 ^ (105 + 1) := by
    have h1 : X < 9007199254740992 * 9007199254740992 := by
      rw [← hX]
      exact Nat.lt_of_le_of_lt (Nat.mul_le_mul_left m (show 8796093022208000 ≤ 9007199254740992 by decide)) (Nat.mul_lt_mul_of_pos_right hm2 (by decide))
    exact Nat.lt_of_lt_of_le h1 (by decide)
  obtain ⟨g, hg⟩ : ∃ g, X.log2 = g := ⟨_, rfl⟩
  have hg3 : 52 ≤ g := by rw [← hg]; exact log_ge hXl
  have hg4 : g ≤ 105 := by rw [← hg]; exact log_le hX0 hXu
  have hg1 : 2 ^ g ≤ X := by rw [← hg]; exact Nat.log2_self_le hX0
  rw [hX]
  clear hXl hXu hX
  obtain ⟨L, hL⟩ : ∃ L : Nat, max (-1074 + (k : Int) + -43 + (g : Int) - 52) (-1074) = -1074 + (L : Int) := ⟨(max ((k : Int) - 95 + g) 0).toNat, by omega⟩
  have t1 : (-1074 + (k : Int) + -43 - (-1074 + (L : Int))).toNat = 0 := by omega
  have t3 : (-1074 + (L : Int) - -1074).toNat = L := by omega
  have hL2 : L ≤ 1031 := by omega
  obtain ⟨d, hd⟩ : ∃ d : Nat, (-1074 + (L : Int) - (-1074 + (k : Int) + -43)).toNat = d := ⟨_, rfl⟩
  have hdk : d + k = L + 43 := by omega
  have hdg : g ≤ d + 52 := by omega
  have hdL : L = 0 ∨ d + 52 = g := by omega
  obtain ⟨hq1, hq2⟩ := cut_bound hg hX0 hdg
  have hkq : L = 0 ∨ 4503599627370496 ≤ Toward.even.cut false X d := by
    rcases hdL with h | h
    · exact .inl h
    · right
      refine Nat.le_trans ?_ hq1
      rw [Nat.le_div_iff_mul_le (Nat.two_pow_pos d), show (4503599627370496 : Nat) = 2 ^ 52 from rfl, ← Nat.pow_add, show 52 + d = g by omega]
      exact hg1
  refine ⟨L, Toward.even.cut false X d, d, ?_, hq2, hL2, hkq, hq1, hdk⟩
  have h4 : double.leastPlace = -1074 := by decide
  have h2 : double.binade = 4503599627370496 := by decide
  have h3 : double.infRung = 9218868437227405312 := by decide
  have h5 : (double.fractionBits : Int) = 52 := by decide
  unfold Format.nearest
  rw [if_neg hX0]
  simp only [h4, h2, h3, h5, hg, hL, t1, t3, hd, Nat.shiftLeft_zero]
  have hle : L * 4503599627370496 + Toward.even.cut false X d ≤ 9218868437227405312 :=
    Nat.le_trans (Nat.add_le_add (Nat.mul_le_mul_right 4503599627370496 hL2) hq2) (by decide)
  rw [Nat.min_eq_left hle]
  rfl
/-- a thousandfold, cut to a whole number: it is no less than it should be -/
theorem mul_ok {r : Nat} (h0 : 0 < r) (h1 : r < ONE) : ∃ p : Nat, ∃ i : Nat, double.mul r TH = some p ∧ (double.read p).toInt .zero = some (i : Int) ∧ i < 9223372036854775807 ∧ 1000 * val r < (i + 1) * 2 ^ 1074 := by
  unfold ONE at h1
  obtain ⟨m, k, e1, v1, hm, hk⟩ := read_pos (r := r) (by unfold INF; omega)
  have hk2 : k ≤ 1021 := by omega
  have hm0 : 0 < m := by
    rcases Nat.eq_zero_or_pos m with h | h
    · rw [h, Nat.zero_mul] at v1
      have := val_lt h0
      omega
    · exact h
  have e2 : double.read TH = .number false 8796093022208000 (-43) := by decide +kernel
  obtain ⟨L, q, d, hw, hq2, hL2, hkq, hq1, hdk⟩ := near_th hm0 hm hk2
  have hval := val_rung hkq hq2
  have hmul : double.mul r TH = some (L * 4503599627370496 + q) := by
    unfold Format.mul
    rw [e1, e2]
    unfold Datum.product
    simp only [Option.map_some, Bool.xor_self]
    unfold Format.write
    simp only
    rw [hw]
  have hle : L * 4503599627370496 + q ≤ 1031 * 4503599627370496 + 9007199254740992 := Nat.add_le_add (Nat.mul_le_mul_right 4503599627370496 hL2) hq2
  have hti := toInt_pos (p := L * 4503599627370496 + q) (by unfold INF; exact Nat.lt_of_le_of_lt hle (by decide)) (by
    have h2 : (L * 4503599627370496 + q) / 4503599627370496 ≤ (1031 * 4503599627370496 + 9007199254740992) / 4503599627370496 := Nat.div_le_div_right hle
    exact Nat.le_trans (Nat.sub_le _ _) (Nat.le_trans h2 (by decide)))
  rw [hval] at hti
  have hq3 : q * 2 ^ L / 2 ^ 1074 = q / 2 ^ (1074 - L) := by
    have : (2 : Nat) ^ 1074 = 2 ^ (1074 - L) * 2 ^ L := by rw [← Nat.pow_add, Nat.sub_add_cancel (Nat.le_trans hL2 (by decide))]
    rw [this, Nat.mul_div_mul_right _ _ (Nat.two_pow_pos L)]
  rw [hq3] at hti
  refine ⟨_, _, hmul, hti, ?_, ?_⟩
  · exact Nat.lt_of_le_of_lt (Nat.le_trans (Nat.div_le_self _ _) hq2) (by decide)
  · have h7 : m * 8796093022208000 / 2 ^ d / 2 ^ (1074 - L) ≤ q / 2 ^ (1074 - L) := Nat.div_le_div_right hq1
    rw [Nat.div_div_eq_div_mul, ← Nat.pow_add, show d + (1074 - L) = 43 + (1074 - k) by omega, Nat.pow_add, show m * 8796093022208000 = 2 ^ 43 * (m * 1000) by
        rw [show (8796093022208000 : Nat) = 2 ^ 43 * 1000 from rfl, Nat.mul_left_comm], Nat.mul_div_mul_left _ _ (Nat.two_pow_pos 43)] at h7
    obtain ⟨i, hi⟩ : ∃ i, q / 2 ^ (1074 - L) = i := ⟨_, rfl⟩
    rw [hi] at h7 ⊢
    have h9 : m * 1000 < (i + 1) * 2 ^ (1074 - k) := by
      rw [← Nat.div_lt_iff_lt_mul (Nat.two_pow_pos _)]; exact Nat.lt_succ_of_le h7
    have e9 : (2 : Nat) ^ 1074 = 2 ^ (1074 - k) * 2 ^ k := by rw [← Nat.pow_add, Nat.sub_add_cancel (Nat.le_trans hk2 (by decide))]
    rw [← v1, e9, ← Nat.mul_assoc, ← Nat.mul_assoc, Nat.mul_comm 1000 m]
    exact Nat.mul_lt_mul_of_pos_right h9 (Nat.two_pow_pos k)
end Fl
end Go.Proofs.YtfacmnooklljnaaDoor

/- accept: the quality of a number, plainly. -/
namespace Go.Proofs.YtfacmnooklljnaaDoor
set_option linter.unusedVariables false
set_option linter.unusedSimpArgs false
set_option maxRecDepth 100000
set_option maxHeartbeats 1000000
namespace Fl
open Ieee
/-- so many thousandths -/
def IsW (r n : Nat) : Prop := n ≤ 999 ∧ Tn n ≤ r ∧ r < Tn (n + 1)
def W (r : Nat) : Nat := (List.range 999).countP fun j => decide (Tn (j + 1) ≤ r)
theorem count_lt (n N : Nat) : (List.range N).countP (fun j => decide (j < n)) = min n N := by
  induction N with
  | zero => simp
  | succ N ih =>
    rw [List.range_succ, List.countP_append, ih]
    by_cases h : N < n
    · simp [h]; omega
    · simp [h]; omega
theorem W_is {r n : Nat} (h : IsW r n) : W r = n := by
  obtain ⟨h1, h2, h3⟩ := h
  have e : (List.range 999).countP (fun j => decide (Tn (j + 1) ≤ r)) = (List.range 999).countP (fun j => decide (j < n)) := by
    refine List.countP_congr fun j hj => ?_
    have hj : j < 999 := List.mem_range.1 hj
    simp only [decide_eq_true_eq]
    constructor
    · intro h
      rcases Nat.lt_or_ge j n with h4 | h4
      · exact h4
      · have h5 := Tn_le (show n + 1 ≤ j + 1 by omega) (by omega)
        omega
    · intro h
      have h5 := Tn_le (show j + 1 ≤ n by omega) (by omega)
      omega
  unfold W
  rw [e, count_lt]; omega
def ge1 (q : Nat) : Bool := double.order q ONE == some .gt || double.order q ONE == some .eq
def gt0 (q : Nat) : Bool := double.order q 0 == some .gt
/-- the quality of a number -/
def weigh (q : Nat) : Int := if ge1 q = true then 1000 else if gt0 q = true then (W q : Int) else 0
theorem read_one : double.read ONE = .number false 4503599627370496 (-52) := by decide +kernel
theorem read_zero : double.read 0 = .number false 0 (-1074) := by decide +kernel
theorem not_gt (x y : Int) (h : x ≤ y) : (compare x y == Ordering.gt) = false := by
  show (compareOfLessAndEq x y == Ordering.gt) = false
  unfold compareOfLessAndEq
  by_cases h1 : x < y
  · rw [if_pos h1]; rfl
  · rw [if_neg h1, if_pos (by omega)]; rfl
/-- numbers from one up; none above nought; between -/
theorem cls (q : Nat) (h64 : q < 18446744073709551616) : (ge1 q = true ∧ gt0 q = true) ∨ (ge1 q = false ∧ gt0 q = false) ∨ (ge1 q = false ∧ gt0 q = true ∧ 0 < q ∧ q < ONE) := by
  rcases Nat.lt_or_ge q INF with hq | hq
  · have o1 := order_pos hq (show ONE < INF by decide)
    have o0 := order_pos hq (show 0 < INF by decide)
    unfold ge1 gt0
    rw [o1, o0, Nat.compare_eq_ite_lt, Nat.compare_eq_ite_lt]
    rcases Nat.lt_trichotomy q ONE with h | h | h
    · rcases Nat.eq_zero_or_pos q with h0 | h0
      · right; left
        rw [if_pos h, if_neg (by omega), if_neg (by omega)]
        exact ⟨rfl, rfl⟩
      · right; right
        rw [if_pos h, if_neg (by omega), if_pos h0]
        exact ⟨rfl, rfl, h0, h⟩
    · left
      have : 0 < ONE := by decide
      rw [if_neg (by omega), if_neg (by omega), if_neg (by omega), if_pos (by omega)]
      exact ⟨rfl, rfl⟩
    · left
      rw [if_neg (by omega), if_pos h, if_neg (by omega), if_pos (by omega)]
      exact ⟨rfl, rfl⟩
  · unfold ge1 gt0 Format.order
    rw [read_one, read_zero]
    cases hr : double.read q with
    | nan s f => right; left; exact ⟨rfl, rfl⟩
    | infinity s =>
      cases s with
      | true => right; left; exact ⟨rfl, rfl⟩
      | false => left; exact ⟨rfl, rfl⟩
    | number s m p =>
      cases s with
      | false =>
        exfalso
        have h1 : double.signWeight = 9223372036854775808 := by decide
        have h2 : double.binade = 4503599627370496 := by decide
        have h3 : double.infRung = 9218868437227405312 := by decide
        unfold INF at hq
        unfold Format.read at hr
        simp only [h1, h2, h3] at hr
        rcases Nat.lt_or_ge q 9223372036854775808 with hl | hl
        · rw [Nat.mod_eq_of_lt hl, if_neg (by omega), if_neg (by omega)] at hr
          split at hr <;> cases hr
        · have e1 : q / 9223372036854775808 = 1 := by omega
          rw [e1] at hr
          split at hr
          · cases hr
          · split at hr
            · cases hr
            · split at hr <;> cases hr
      | true =>
        right; left
        unfold Datum.order signed
        simp only [if_true, Bool.false_eq_true, if_false]
        have hn : ∀ x y : Nat, (some (compare (-(x : Int)) (y : Int)) == some Ordering.gt) = false := fun x y => not_gt _ _ (by omega)
        have he : ∀ x y : Nat, 0 < y → (some (compare (-(x : Int)) (y : Int)) == some Ordering.eq) = false := fun x y hy => by
          show (compareOfLessAndEq (-(x : Int)) (y : Int) == Ordering.eq) = false
          unfold compareOfLessAndEq
          rw [if_pos (by omega)]; rfl
        rw [hn, hn, he _ _ (by rw [Nat.shiftLeft_eq]; exact Nat.mul_pos (by decide) (Nat.two_pow_pos _))]
        exact ⟨rfl, rfl⟩
end Fl
end Go.Proofs.YtfacmnooklljnaaDoor

/- accept and its reference: the quality of a number. No conditions but those that each law states. -/
namespace Go.Proofs.YtfacmnooklljnaaDoor
set_option linter.unusedVariables false
set_option linter.unusedSimpArgs false
open Go.RowKit
set_option maxHeartbeats 4000000
set_option maxRecDepth 100000
theorem fl_T (n : Nat) (h : n ≤ 1000) (t : TypeId) (W : World) : (binOp .quo t (.float .f64 (floatOfInt .f64 (n : Int))) (.float .f64 4652007308841189376)).run Tryd.prog W = .ok (.float .f64 (Fl.Tn n)) W := by
  refine run_float_arith W .quo t .f64 _ _ _ ?_
  have h1 := Fl.Tn_div ⟨n, by omega⟩
  simp only at h1
  show Ieee.double.div (floatOfInt .f64 (n : Int)) Fl.TH = _
  rw [← h1]
  congr 1
theorem gt_bool {a b : Nat} (ha : a < Fl.INF) (hb : b < Fl.INF) : (FloatKind.f64.format.order a b == some .gt) = decide (b < a) := by
  show (Ieee.double.order a b == some .gt) = _
  rw [Fl.order_pos ha hb, Nat.compare_eq_ite_lt]
  rcases Nat.lt_trichotomy a b with h | h | h
  · rw [if_pos h, decide_eq_false (by omega)]; rfl
  · subst h; simp
  · rw [if_neg (by omega), if_pos h, decide_eq_true h]; rfl
theorem ac_Weigh (q : Nat) (w : World) (hq : q < 18446744073709551616) :
    Calls Tryd.prog 6 #[.float .f64 q] w fun e w' => e = .returned (.int .i64 (Fl.weigh q)) ∧ w' = w := by
  rcases Fl.cls q hq with ⟨h1, h2⟩ | ⟨h1, h2⟩ | ⟨h1, h2, h3, h4⟩
  · have hw : Fl.weigh q = 1000 := by unfold Fl.weigh; rw [if_pos h1]
    rw [hw]
    have e1 : (FloatKind.f64.format.order q 4607182418800017408 == some Ordering.gt || FloatKind.f64.format.order q 4607182418800017408 == some Ordering.eq) = true := h1
    clear h1 h2 hw hq
    go_enter Tryd.func6, Tryd.ntmps6
    go_wp2_with fail
    go_ret
    exact ⟨rfl, rfl⟩
  · have hw : Fl.weigh q = 0 := by unfold Fl.weigh; rw [if_neg (by rw [h1]; decide), if_neg (by rw [h2]; decide)]
    rw [hw]
    have e1 : (FloatKind.f64.format.order q 4607182418800017408 == some Ordering.gt || FloatKind.f64.format.order q 4607182418800017408 == some Ordering.eq) = false := h1
    have e2 : (FloatKind.f64.format.order q 0 == some Ordering.gt) = false := h2
    clear h1 h2 hw hq
    go_enter Tryd.func6, Tryd.ntmps6
    go_wp2_with fail
    go_ret
    exact ⟨rfl, rfl⟩
  · have hw : Fl.weigh q = (Fl.W q : Int) := by unfold Fl.weigh; rw [if_neg (by rw [h1]; decide), if_pos h2]
    rw [hw]
    have e1 : (FloatKind.f64.format.order q 4607182418800017408 == some Ordering.gt || FloatKind.f64.format.order q 4607182418800017408 == some Ordering.eq) = false := h1
    have e2 : (FloatKind.f64.format.order q 0 == some Ordering.gt) = true := h2
    obtain ⟨p, i, hm, hi, hib, hlow⟩ := Fl.mul_ok h3 h4
    have e3 : ∀ W, (binOp .mul 23 (.float .f64 q) (.float .f64 4652007308841189376)).run Tryd.prog W = .ok (.float .f64 p) W := fun W => run_float_arith W .mul _ .f64 _ _ _ hm
    have e4 : ∀ W, (convert 23 3 (.float .f64 p)).run Tryd.prog W = .ok (.int .i64 (i : Int)) W := fun W => by
      refine run_convert_float_int W _ _ .f64 .i64 p (i : Int) (by rw [Tryd.underlying23]; rfl) Tryd.underlying3 ?_
      unfold floatToIntVal
      rw [show (FloatKind.f64.decode p).toInt .zero = some (i : Int) from hi]
      simp only
      rw [if_pos]
      constructor
      · show (-9223372036854775808 : Int) ≤ _; omega
      · show _ ≤ (9223372036854775807 : Int); omega
    have hadd : IntKind.i64.wrap ((i : Int) + 1) = (i : Int) + 1 := by simp [IntKind.wrap, IntKind.bits, IntKind.signed]; omega
    obtain ⟨n0, hn0⟩ : ∃ n0 : Nat, n0 = min (i + 1) 999 := ⟨_, rfl⟩
    have e5 : ∀ W, (Builtin.min_ #[3, 3] 3 #[.int .i64 ((i : Int) + 1), .int .i64 999]).run Tryd.prog W = .ok (.int .i64 (n0 : Int)) W := fun W => by
      simp [Builtin.min_, Builtin.min2, go_sem]
      split <;> omega
    have hstart : n0 ≤ 999 ∧ q < Fl.Tn (n0 + 1) := by
      refine ⟨by omega, ?_⟩
      rcases Nat.lt_or_ge (i + 1) 999 with h | h
      · have hn : n0 = i + 1 := by omega
        rw [hn]
        rcases Nat.lt_or_ge q (Fl.Tn (i + 1 + 1)) with h5 | h5
        · exact h5
        · have h6 := Fl.whole (show 1 ≤ i + 1 + 1 by omega) (by omega) h5
          simp only [Nat.add_sub_cancel] at h6
          exact absurd (Nat.lt_of_lt_of_le hlow h6) (Nat.lt_irrefl _)
      · have hn : n0 = 999 := by omega
        rw [hn, show Fl.Tn (999 + 1) = Fl.ONE from Fl.Tn_top]
        exact h4
    have HST := Lib.hid hstart
    have hinf : q < Fl.INF := Fl.one_inf (Nat.le_of_lt h4)
    have HT := Lib.hid (fun (n : Nat) (h : n ≤ 999) W => fl_T n (by omega) 23 W)
    have HG := Lib.hid (show ∀ (n : Nat), n ≤ 999 → (FloatKind.f64.format.order (Fl.Tn n) q == some Ordering.gt) = decide (q < Fl.Tn n) from fun n hn => gt_bool (Fl.one_inf (Fl.Tn_one (by omega))) hinf)
    clear h1 h2 hw hq hm hi hib hlow hstart hinf h3 h4 hn0
    go_enter Tryd.func6, Tryd.ntmps6
    go_wp2_with (first | simp only [e3] | simp only [e4] | simp only [e5])
    go_loopw [3] (fun v wr => ∃ n : Nat, v = .int .i64 (n : Int) ∧ n ≤ 999 ∧ q < Fl.Tn (n + 1) ∧ wr = w) (fun v _ => (intOf v).toNat)
    case atStart => exact ⟨n0, rfl, HST.out.1, HST.out.2, rfl⟩
    case round =>
      obtain ⟨n, rfl, hn, hlt, hw⟩ := hrel
      subst hw
      have t1 := HT.out n hn
      have t2 := HG.out n hn
      have HLT := Lib.hid hlt
      by_cases hc : q < Fl.Tn n
      · have hn1 : 1 ≤ n := by
          rcases Nat.eq_zero_or_pos n with h | h
          · rw [h, Fl.Tn_zero] at hc; omega
          · exact h
        rw [decide_eq_true hc] at t2
        obtain ⟨m, rfl⟩ : ∃ m, n = m + 1 := ⟨n - 1, by omega⟩
        have HC := Lib.hid hc
        have hsub : IntKind.i64.wrap (((m + 1 : Nat) : Int) - 1) = (m : Int) := by simp [IntKind.wrap, IntKind.bits, IntKind.signed]; omega
        push_cast at t1
        clear hlt hc
        go_wp2_with (simp only [t1])
        go_roundw
        case rel => exact ⟨m, by go_num, by omega, HC.out, (by first | trivial | rfl)⟩
        case measure => simp [intOf]
      · rw [decide_eq_false hc] at t2
        have HW := Lib.hid (Fl.W_is (r := q) (n := n) ⟨hn, by omega, hlt⟩)
        clear hlt hc
        go_wp2_with (simp only [t1])
        go_ret
        exact ⟨by rw [HW.out]; rfl, rfl⟩
theorem rf_Weigh (q : Nat) (w : World) (hq : q < 18446744073709551616) :
    Calls Tryd.prog 7 #[.float .f64 q] w fun e w' => e = .returned (.int .i64 (Fl.weigh q)) ∧ w' = w := by
  rcases Fl.cls q hq with ⟨h1, h2⟩ | ⟨h1, h2⟩ | ⟨h1, h2, h3, h4⟩
  · have hw : Fl.weigh q = 1000 := by unfold Fl.weigh; rw [if_pos h1]
    rw [hw]
    have e1 : (FloatKind.f64.format.order q 4607182418800017408 == some Ordering.gt || FloatKind.f64.format.order q 4607182418800017408 == some Ordering.eq) = true := h1
    have e2 : (FloatKind.f64.format.order q 0 == some Ordering.gt) = true := h2
    clear h1 h2 hw hq
    go_enter Tryd.func7, Tryd.ntmps7
    go_wp2_with fail
    go_ret
    exact ⟨rfl, rfl⟩
  · have hw : Fl.weigh q = 0 := by unfold Fl.weigh; rw [if_neg (by rw [h1]; decide), if_neg (by rw [h2]; decide)]
    rw [hw]
    have e2 : (FloatKind.f64.format.order q 0 == some Ordering.gt) = false := h2
    clear h1 h2 hw hq
    go_enter Tryd.func7, Tryd.ntmps7
    go_wp2_with fail
    go_ret
    exact ⟨rfl, rfl⟩
  · have hw : Fl.weigh q = (Fl.W q : Int) := by unfold Fl.weigh; rw [if_neg (by rw [h1]; decide), if_pos h2]
    rw [hw]
    have e1 : (FloatKind.f64.format.order q 4607182418800017408 == some Ordering.gt || FloatKind.f64.format.order q 4607182418800017408 == some Ordering.eq) = false := h1
    have e2 : (FloatKind.f64.format.order q 0 == some Ordering.gt) = true := h2
    have hinf : q < Fl.INF := Fl.one_inf (Nat.le_of_lt h4)
    have H4 := Lib.hid h4
    have HT := Lib.hid (fun (n : Nat) (h : n ≤ 1000) W => fl_T n h 23 W)
    have HG := Lib.hid (show ∀ (n : Nat), n ≤ 1000 → (FloatKind.f64.format.order (Fl.Tn n) q == some Ordering.lt || FloatKind.f64.format.order (Fl.Tn n) q == some Ordering.eq) = decide (Fl.Tn n ≤ q) from fun n hn => by
      show (Ieee.double.order _ _ == some .lt || Ieee.double.order _ _ == some .eq) = _
      rw [Fl.order_pos (Fl.one_inf (Fl.Tn_one hn)) hinf, Nat.compare_eq_ite_lt]
      rcases Nat.lt_trichotomy (Fl.Tn n) q with h | h | h
      · rw [if_pos h, decide_eq_true (by omega)]; rfl
      · rw [h]; simp
      · rw [if_neg (by omega), if_pos h, decide_eq_false (by omega)]; rfl)
    clear h1 h2 hw hq hinf h3 h4
    go_enter Tryd.func7, Tryd.ntmps7
    go_wp2_with fail
    go_loopw [3] (fun v wr => ∃ n : Nat, v = .int .i64 (n : Int) ∧ n ≤ 999 ∧ Fl.Tn n ≤ q ∧ wr = w) (fun v _ => 999 - (intOf v).toNat)
    case atStart => exact ⟨0, rfl, by omega, by rw [Fl.Tn_zero]; exact Nat.zero_le _, rfl⟩
    case round =>
      obtain ⟨n, rfl, hn, hle, hw⟩ := hrel
      subst hw
      have t1 := HT.out (n + 1) (by omega)
      have t2 := HG.out (n + 1) (by omega)
      push_cast at t1
      by_cases hc : Fl.Tn (n + 1) ≤ q
      · have hn1 : n + 1 ≤ 999 := by
          rcases Nat.lt_or_ge n 999 with h | h
          · omega
          · have : n = 999 := by omega
            subst this
            have h5 := H4.out
            rw [show Fl.Tn (999 + 1) = Fl.ONE from Fl.Tn_top] at hc
            omega
        rw [decide_eq_true hc] at t2
        have HC := Lib.hid hc
        have hadd : IntKind.i64.wrap ((n : Int) + 1) = (n : Int) + 1 := by simp [IntKind.wrap, IntKind.bits, IntKind.signed]; omega
        clear hle hc
        go_wp2_with (simp only [t1])
        go_roundw
        case rel => exact ⟨n + 1, by go_num, hn1, HC.out, (by first | trivial | rfl)⟩
        case measure => simp [intOf]; omega
      · rw [decide_eq_false hc] at t2
        have HW := Lib.hid (Fl.W_is (r := q) (n := n) ⟨hn, hle, by omega⟩)
        have hadd : IntKind.i64.wrap ((n : Int) + 1) = (n : Int) + 1 := by simp [IntKind.wrap, IntKind.bits, IntKind.signed]; omega
        clear hle hc
        go_wp2_with (simp only [t1])
        go_ret
        exact ⟨by rw [HW.out]; rfl, rfl⟩
end Go.Proofs.YtfacmnooklljnaaDoor

/- The law's fixed questions, plainly; floats and their words. No conditions but those that each law states. -/
namespace Go.Proofs.YtfacmnooklljnaaDoor
set_option linter.unusedVariables false
set_option linter.unusedSimpArgs false
open Go.RowKit Go.Shelf
attribute [local go_sem] Oper.semAt_some
set_option maxHeartbeats 8000000
set_option maxRecDepth 100000
def tTE : List UInt8 := [116, 101, 120, 116]
def tES : List UInt8 := [101, 118, 101, 110, 116, 45, 115, 116, 114, 101, 97, 109]
theorem wq1 : Ap.qual [116, 101, 120, 116, 47, 42, 59, 113, 61, 48, 46, 53, 44, 32, 116, 101, 120, 116, 47, 101, 118, 101, 110, 116, 45, 115, 116, 114, 101, 97, 109] tTE tES = some 1000 := by decide +kernel
theorem wq2 : Ap.qual [] tTE tES = some 1000 := by decide +kernel
theorem wq3 : Ap.qual [42, 47, 42, 59, 113, 61, 48, 46, 50, 53, 44, 32, 116, 101, 120, 116, 47, 104, 116, 109, 108, 59, 113, 61, 49] tTE tES = some 250 := by decide +kernel
theorem wq4 : takesB (Ap.qual [116, 101, 120, 116, 47, 101, 118, 101, 110, 116, 45, 115, 116, 114, 101, 97, 109, 59, 113, 61, 48] tTE tES) = false := by decide +kernel
theorem wp1 : Ap.parse [116, 101, 120, 116] = none := by decide +kernel
theorem wp2 : Ap.parse [97, 47, 98, 59, 113, 61, 49, 46, 53] = none := by decide +kernel
theorem wp3 : Ap.parse [97, 47, 98, 59, 113, 61, 48, 46, 49, 50, 51, 52] = none := by decide +kernel
theorem ww1 : Fl.weigh 4602678819172646912 = 500 := by decide +kernel
theorem ww2 : Fl.weigh 9221120237041090561 = 0 := by decide +kernel
theorem ww3 : Fl.weigh 9223372036854775808 = 0 := by decide +kernel
theorem fl_from (n : Int) (w : World) : (callFunc 5 #[.int .u64 n]).run Tryd.prog w = .ok (.value (.float .f64 n.toNat)) w := by
  rw [run_callFunc_extern Tryd.func5 (by kernel_rfl) (by kernel_rfl) (by kernel_rfl) (e := Extern.MathFloatBits.float64frombits) (by kernel_rfl)]
  rfl
theorem fl_bits (b : Nat) (w : World) : (callFunc 19 #[.float .f64 b]).run Tryd.prog w = .ok (.value (.int .u64 b)) w := by
  rw [run_callFunc_extern Tryd.func19 (by kernel_rfl) (by kernel_rfl) (by kernel_rfl) (e := Extern.MathFloatBits.float64bits) (by kernel_rfl)]
  rfl
theorem lw_num12 (n : Int) (w : World) (h : -9223372036854775808 ≤ n ∧ n ≤ 9223372036854775807) : Calls Tryd.prog 10 #[.int .i64 n] w fun e w' => e = .returned (.int .i64 n) ∧ w' = w := by
  go_enter Tryd.func10, Tryd.ntmps10
  go_wp2_with fail
  exact bodyPost_ret (v := .int .i64 n) (by simp [results, Tryd.results10, go_sem]) rfl ⟨rfl, rfl⟩
theorem fl_nan (w : World) : Calls Tryd.prog 13 #[] w fun e w' => e = .returned (.float .f64 9221120237041090561) ∧ w' = w := by
  go_enter Tryd.func13, Tryd.ntmps13
  go_wp2_with (simp only [fl_from])
  exact bodyPost_ret (v := .float .f64 9221120237041090561) (by simp [results, Tryd.results13, go_sem]) rfl ⟨rfl, rfl⟩
theorem fl_sign (w : World) : Calls Tryd.prog 14 #[.float .f64 0, .float .f64 13830554455654793216] w fun e w' => e = .returned (.float .f64 9223372036854775808) ∧ w' = w := by
  go_enter Tryd.func14, Tryd.ntmps14
  go_wp2_with (simp only [fl_from, fl_bits])
  refine bodyPost_ret (v := .float .f64 (bits .or .u64 (bits .andNot .u64 0 9223372036854775808) (bits .and .u64 13830554455654793216 9223372036854775808)).toNat) (by simp [results, Tryd.results14, go_sem]) rfl ⟨?_, rfl⟩
  rw [show (bits .or .u64 (bits .andNot .u64 0 9223372036854775808) (bits .and .u64 13830554455654793216 9223372036854775808)).toNat = 9223372036854775808 by decide +kernel]
end Go.Proofs.YtfacmnooklljnaaDoor

/- The law's fixed questions, walked. No conditions but those that each law states. -/
namespace Go.Proofs.YtfacmnooklljnaaDoor
set_option linter.unusedVariables false
set_option linter.unusedSimpArgs false
open Go.RowKit Go.Shelf
attribute [local go_sem] Oper.semAt_some
set_option maxHeartbeats 8000000
set_option maxRecDepth 100000
theorem lw_works12 (w : World) : Calls Tryd.prog 8 #[] w fun e w' => e = .returned (.bool true) ∧ Below w.heap.size w w' := by
  have K1 := Lib.hid (fun W => by
    have h := ac_Quality ⟨#[116, 101, 120, 116, 47, 42, 59, 113, 61, 48, 46, 53, 44, 32, 116, 101, 120, 116, 47, 101, 118, 101, 110, 116, 45, 115, 116, 114, 101, 97, 109]⟩ ⟨#[116, 101, 120, 116]⟩ ⟨#[101, 118, 101, 110, 116, 45, 115, 116, 114, 101, 97, 109]⟩ W (by decide)
    rw [show (⟨#[116, 101, 120, 116]⟩ : ByteArray).toList = tTE from ba_list tTE, show (⟨#[101, 118, 101, 110, 116, 45, 115, 116, 114, 101, 97, 109]⟩ : ByteArray).toList = tES from ba_list tES] at h
    rw [show Ap.qual ((⟨#[116, 101, 120, 116, 47, 42, 59, 113, 61, 48, 46, 53, 44, 32, 116, 101, 120, 116, 47, 101, 118, 101, 110, 116, 45, 115, 116, 114, 101, 97, 109]⟩ : ByteArray).data.toList) tTE tES = some 1000 from wq1] at h
    unfold quV at h
    exact h)
  have K2 := Lib.hid (fun W => by
    have h := ac_Quality ⟨#[]⟩ ⟨#[116, 101, 120, 116]⟩ ⟨#[101, 118, 101, 110, 116, 45, 115, 116, 114, 101, 97, 109]⟩ W (by decide)
    rw [show (⟨#[116, 101, 120, 116]⟩ : ByteArray).toList = tTE from ba_list tTE, show (⟨#[101, 118, 101, 110, 116, 45, 115, 116, 114, 101, 97, 109]⟩ : ByteArray).toList = tES from ba_list tES] at h
    rw [show Ap.qual ((⟨#[]⟩ : ByteArray).data.toList) tTE tES = some 1000 from wq2] at h
    unfold quV at h
    exact h)
  have K3 := Lib.hid (fun W => by
    have h := ac_Quality ⟨#[42, 47, 42, 59, 113, 61, 48, 46, 50, 53, 44, 32, 116, 101, 120, 116, 47, 104, 116, 109, 108, 59, 113, 61, 49]⟩ ⟨#[116, 101, 120, 116]⟩ ⟨#[101, 118, 101, 110, 116, 45, 115, 116, 114, 101, 97, 109]⟩ W (by decide)
    rw [show (⟨#[116, 101, 120, 116]⟩ : ByteArray).toList = tTE from ba_list tTE, show (⟨#[101, 118, 101, 110, 116, 45, 115, 116, 114, 101, 97, 109]⟩ : ByteArray).toList = tES from ba_list tES] at h
    rw [show Ap.qual ((⟨#[42, 47, 42, 59, 113, 61, 48, 46, 50, 53, 44, 32, 116, 101, 120, 116, 47, 104, 116, 109, 108, 59, 113, 61, 49]⟩ : ByteArray).data.toList) tTE tES = some 250 from wq3] at h
    unfold quV at h
    exact h)
  have K4 := Lib.hid (fun W => by
    have h := ac_Takes ⟨#[116, 101, 120, 116, 47, 101, 118, 101, 110, 116, 45, 115, 116, 114, 101, 97, 109, 59, 113, 61, 48]⟩ ⟨#[116, 101, 120, 116]⟩ ⟨#[101, 118, 101, 110, 116, 45, 115, 116, 114, 101, 97, 109]⟩ W (by decide)
    rw [show (⟨#[116, 101, 120, 116]⟩ : ByteArray).toList = tTE from ba_list tTE, show (⟨#[101, 118, 101, 110, 116, 45, 115, 116, 114, 101, 97, 109]⟩ : ByteArray).toList = tES from ba_list tES] at h
    rw [show takesB (Ap.qual ((⟨#[116, 101, 120, 116, 47, 101, 118, 101, 110, 116, 45, 115, 116, 114, 101, 97, 109, 59, 113, 61, 48]⟩ : ByteArray).data.toList) tTE tES) = false from wq4] at h
    exact h)
  have P0 := Lib.hid (fun W => by
    have h := ac_Parse ⟨#[116, 101, 120, 116]⟩ W (by decide)
    rw [show Ap.parse ((⟨#[116, 101, 120, 116]⟩ : ByteArray).data.toList) = none from wp1] at h
    exact h)
  have P1 := Lib.hid (fun W => by
    have h := ac_Parse ⟨#[97, 47, 98, 59, 113, 61, 49, 46, 53]⟩ W (by decide)
    rw [show Ap.parse ((⟨#[97, 47, 98, 59, 113, 61, 49, 46, 53]⟩ : ByteArray).data.toList) = none from wp2] at h
    exact h)
  have P2 := Lib.hid (fun W => by
    have h := ac_Parse ⟨#[97, 47, 98, 59, 113, 61, 48, 46, 49, 50, 51, 52]⟩ W (by decide)
    rw [show Ap.parse ((⟨#[97, 47, 98, 59, 113, 61, 48, 46, 49, 50, 51, 52]⟩ : ByteArray).data.toList) = none from wp3] at h
    exact h)
  have G1 := Lib.hid (fun W => by
    have h := ac_Weigh 4602678819172646912 W (by decide)
    rw [ww1] at h
    exact h)
  have G2 := Lib.hid (fun W => by
    have h := ac_Weigh 9221120237041090561 W (by decide)
    rw [ww2] at h
    exact h)
  have G3 := Lib.hid (fun W => by
    have h := ac_Weigh 9223372036854775808 W (by decide)
    rw [ww3] at h
    exact h)
  have NA := Lib.hid fl_nan
  have SG := Lib.hid fl_sign
  have NU := Lib.hid lw_num12
  obtain ⟨B, hB⟩ : ∃ z, w.heap.size = z := ⟨_, rfl⟩
  have HB := Lib.hid hB
  rw [hB]
  clear hB
  go_enter Tryd.func8, Tryd.ntmps8
  go_wp2_with fail
  refine (K1.out _).mono ?_
  rintro e w1 ⟨rfl, hb1⟩
  have HB1 := Lib.hid (show Below B w w1 from HB.out ▸ hb1)
  clear hb1
  go_wp2_with fail
  refine (K2.out _).mono ?_
  rintro e w2 ⟨rfl, hb2⟩
  have HB2 := Lib.hid (HB1.out.trans (hb2.mono (by have := HB.out; have := HB1.out.size; omega)))
  clear hb2
  go_wp2_with fail
  refine (K3.out _).mono ?_
  rintro e w3 ⟨rfl, hb3⟩
  have HB3 := Lib.hid (HB2.out.trans (hb3.mono (by have := HB.out; have := HB2.out.size; omega)))
  clear hb3
  obtain ⟨V, hV⟩ : ∃ z, w3.alloc (.cells #[.string ⟨#[116, 101, 120, 116]⟩, .string ⟨#[97, 47, 98, 59, 113, 61, 49, 46, 53]⟩, .string ⟨#[97, 47, 98, 59, 113, 61, 48, 46, 49, 50, 51, 52]⟩] 9) = z := ⟨_, rfl⟩
  obtain ⟨G, hG⟩ : ∃ z, w3.heap.size = z := ⟨_, rfl⟩
  have HCV := Lib.hid (show V.heap[G]? = some (.cells #[.string ⟨#[116, 101, 120, 116]⟩, .string ⟨#[97, 47, 98, 59, 113, 61, 49, 46, 53]⟩, .string ⟨#[97, 47, 98, 59, 113, 61, 48, 46, 49, 50, 51, 52]⟩] 9 (0, 0)) by rw [← hV, ← hG]; exact World.alloc_heap_new _ _)
  have HBV := Lib.hid (show Below B w V by rw [← hV]; exact HB3.out.alloc (by have := HB.out; have := HB3.out.size; omega) _)
  have HV := Lib.hid hV
  have HG := Lib.hid hG
  clear hV hG
  go_wp2_with fail
  rw [HV.out, HG.out]
  go_loopw [8] (fun i wr => (i = .int .i64 0 ∨ i = .int .i64 1 ∨ i = .int .i64 2 ∨ i = .int .i64 3) ∧ Below B w wr ∧ wr.heap[G]? = some (.cells #[.string ⟨#[116, 101, 120, 116]⟩, .string ⟨#[97, 47, 98, 59, 113, 61, 49, 46, 53]⟩, .string ⟨#[97, 47, 98, 59, 113, 61, 48, 46, 49, 50, 51, 52]⟩] 9 (0, 0))) (fun i _ => 3 - (intOf i).toNat)
  case atStart => exact ⟨.inl rfl, HBV.out, HCV.out⟩
  case round =>
    obtain ⟨hi, hb, hc⟩ := hrel
    have x0 : wr.cell? ⟨G, 0, none⟩ = some (.string ⟨#[116, 101, 120, 116]⟩) := by simp [World.cell?, hc]
    have x1 : wr.cell? ⟨G, 1, none⟩ = some (.string ⟨#[97, 47, 98, 59, 113, 61, 49, 46, 53]⟩) := by simp [World.cell?, hc]
    have x2 : wr.cell? ⟨G, 2, none⟩ = some (.string ⟨#[97, 47, 98, 59, 113, 61, 48, 46, 49, 50, 51, 52]⟩) := by simp [World.cell?, hc]
    have HBW := Lib.hid hb
    have HC := Lib.hid hc
    clear hb hc HBV HCV HV HG
    rcases hi with rfl | rfl | rfl | rfl
    · go_wp2_with fail
      refine (P0.out _).mono ?_
      rintro e w4 ⟨hb4, rfl⟩
      have HN := Lib.hid (show Below B w w4 ∧ w4.heap[G]? = some (.cells #[.string ⟨#[116, 101, 120, 116]⟩, .string ⟨#[97, 47, 98, 59, 113, 61, 49, 46, 53]⟩, .string ⟨#[97, 47, 98, 59, 113, 61, 48, 46, 49, 50, 51, 52]⟩] 9 (0, 0)) from ⟨HBW.out.trans (hb4.mono (by have := HB.out; have := HBW.out.size; omega)), (hb4.block G (Array.getElem?_eq_some_iff.1 HC.out).1).trans HC.out⟩)
      clear hb4
      go_wp2_with fail
      refine (NU.out _ _ (by decide)).mono ?_
      rintro e w5 ⟨rfl, rfl⟩
      go_wp2_with fail
      go_roundw
      case rel => exact ⟨by simp_all, HN.out.1, HN.out.2⟩
      case measure => simp [intOf]
    · go_wp2_with fail
      refine (P1.out _).mono ?_
      rintro e w4 ⟨hb4, rfl⟩
      have HN := Lib.hid (show Below B w w4 ∧ w4.heap[G]? = some (.cells #[.string ⟨#[116, 101, 120, 116]⟩, .string ⟨#[97, 47, 98, 59, 113, 61, 49, 46, 53]⟩, .string ⟨#[97, 47, 98, 59, 113, 61, 48, 46, 49, 50, 51, 52]⟩] 9 (0, 0)) from ⟨HBW.out.trans (hb4.mono (by have := HB.out; have := HBW.out.size; omega)), (hb4.block G (Array.getElem?_eq_some_iff.1 HC.out).1).trans HC.out⟩)
      clear hb4
      go_wp2_with fail
      refine (NU.out _ _ (by decide)).mono ?_
      rintro e w5 ⟨rfl, rfl⟩
      go_wp2_with fail
      go_roundw
      case rel => exact ⟨by simp_all, HN.out.1, HN.out.2⟩
      case measure => simp [intOf]
    · go_wp2_with fail
      refine (P2.out _).mono ?_
      rintro e w4 ⟨hb4, rfl⟩
      have HN := Lib.hid (show Below B w w4 ∧ w4.heap[G]? = some (.cells #[.string ⟨#[116, 101, 120, 116]⟩, .string ⟨#[97, 47, 98, 59, 113, 61, 49, 46, 53]⟩, .string ⟨#[97, 47, 98, 59, 113, 61, 48, 46, 49, 50, 51, 52]⟩] 9 (0, 0)) from ⟨HBW.out.trans (hb4.mono (by have := HB.out; have := HBW.out.size; omega)), (hb4.block G (Array.getElem?_eq_some_iff.1 HC.out).1).trans HC.out⟩)
      clear hb4
      go_wp2_with fail
      refine (NU.out _ _ (by decide)).mono ?_
      rintro e w5 ⟨rfl, rfl⟩
      go_wp2_with fail
      go_roundw
      case rel => exact ⟨by simp_all, HN.out.1, HN.out.2⟩
      case measure => simp [intOf]
    · clear x0 x1 x2
      go_wp2_with fail
      refine (NU.out _ _ (by decide)).mono ?_
      rintro e w10 ⟨rfl, rfl⟩
      go_wp2_with fail
      refine (NU.out _ _ (by decide)).mono ?_
      rintro e w11 ⟨rfl, rfl⟩
      go_wp2_with fail
      refine (NU.out _ _ (by decide)).mono ?_
      rintro e w12 ⟨rfl, rfl⟩
      go_wp2_with fail
      refine (K4.out _).mono ?_
      rintro e w20 ⟨rfl, hb20⟩
      have HB20 := Lib.hid (HBW.out.trans (hb20.mono (by have := HB.out; have := HBW.out.size; omega)))
      clear hb20
      go_wp2_with fail
      refine (G1.out _).mono ?_
      rintro e w13 ⟨rfl, rfl⟩
      go_wp2_with fail
      refine (NA.out _).mono ?_
      rintro e w14 ⟨rfl, rfl⟩
      go_wp2_with fail
      refine (G2.out _).mono ?_
      rintro e w15 ⟨rfl, rfl⟩
      go_wp2_with fail
      refine (SG.out _).mono ?_
      rintro e w16 ⟨rfl, rfl⟩
      go_wp2_with fail
      refine (G3.out _).mono ?_
      rintro e w17 ⟨rfl, rfl⟩
      go_wp2_with fail
      go_ret
      exact ⟨rfl, HB20.out⟩
end Go.Proofs.YtfacmnooklljnaaDoor
