/- Texts of this claim, one behind the other: Ry, Ox, Oy, Oz, Pa, Pb, Pc, Pd, Pe, Pf, Pg, Ph, Pi, Pj, Pk. -/
import Derived.Test.YtgfammlmbjmkoaaGreatDoorOwm3
import Derived.Test.YtgfammlmbjmkoaaGreatDoorOwm4
import Derived.Deep.RegionWith
import Derived.Laws.AppendOwnNone
import Derived.Deep.Cut
import Derived.Maps.AppendAt
/- As region_last3, where what a slot holds may hang on which operations are done. -/
namespace Go.Proofs.YtgfammlmbjmkoaaGreatDoor
set_option linter.unusedVariables false
set_option linter.unusedSimpArgs false
open Go.RowKit
structure Stand3 (a0 : Act) (m : Nat) (slot : Nat → Nat) (F : (Nat → Bool) → Nat → World → Value → Prop) (T : (Nat → Bool) → World → Prop) (f : Nat → Bool) (a : Act) (w : World) : Prop where
  defers : a.defers = a0.defers
  size : a.tmps.size = a0.tmps.size
  rest : ∀ j, (∀ i, i < m → slot i ≠ j) → a.tmps.getD j undef = a0.tmps.getD j undef
  yet : ∀ i, i < m → f i = false → a.tmps.getD (slot i) undef = a0.tmps.getD (slot i) undef
  told : T f w
  have_ : ∀ i, i < m → f i = true → F f i w (a.tmps.getD (slot i) undef)
theorem rg_same3 {P : Program} {o : Oper} {a : Act} {w : World} {Q : Exit → Act → World → Prop} {F : (Nat → Bool) → Nat → World → Value → Prop} {T : (Nat → Bool) → World → Prop} {f : Nat → Bool} {i : Nat} (v : Value)
    (h : o.wp P a w (fun a' w' => a' = a.put o.dst v ∧ w' = w) Q) (hF : F (fun j => if j = i then true else f j) i w v) (hT : T (fun j => if j = i then true else f j) w) (hM : ∀ j v', F f j w v' → F (fun j => if j = i then true else f j) j w v') :
    o.wp P a w (fun a' w' => ∃ v, a' = a.put o.dst v ∧ F (fun j => if j = i then true else f j) i w' v ∧ T (fun j => if j = i then true else f j) w' ∧ ∀ j v', f j = true → F f j w v' → F (fun j => if j = i then true else f j) j w' v') Q := by
  refine Oper.wp_mono ?_ h
  rintro a' w' ⟨rfl, rfl⟩
  exact ⟨v, rfl, hF, hT, fun j v' _ h => hM j v' h⟩
section
variable {P : Program} {ops : Array Oper} {Q : Exit → Act → World → Prop}
theorem region_last3 {id : Nat} {a0 : Act} {w0 : World} (m : Nat) (slot : Nat → Nat) (F : (Nat → Bool) → Nat → World → Value → Prop) (T : (Nat → Bool) → World → Prop) (hm : P.follows .mixedOrders = true) (hb : backB .any ops = true)
    (hsz : ops.size = m + 1) (hanc : ((List.range m).all fun j => (ancOf .any ops m m).contains j) = true)
    (hs : ∀ i, slot i < a0.tmps.size) (hinj : ∀ i j, i < m → j < m → slot i = slot j → i = j) (h0 : T (fun _ => false) w0.drew)
    (hdst : ∀ i o, i < m → ops[i]? = some o → o.dst = some (slot i))
    (hstep : ∀ (f : Nat → Bool) (a : Act) (w : World) (i : Nat) (o : Oper), i < m → ops[i]? = some o → f i = false → (∀ e ∈ o.after, Region.binds .any e = true → f e.on = true ∧ F f e.on w (a.tmps.getD (slot e.on) undef)) → T f w →
      (∀ j, (∀ i, i < m → slot i ≠ j) → a.tmps.getD j undef = a0.tmps.getD j undef) →
      o.wp P a w (fun a' w' => ∃ v, a' = a.put o.dst v ∧ F (fun j => if j = i then true else f j) i w' v ∧ T (fun j => if j = i then true else f j) w' ∧ ∀ j v', f j = true → F f j w v' → F (fun j => if j = i then true else f j) j w' v') Q)
    (hlast : ∀ (f : Nat → Bool) (vs : Nat → Value) (w : World) (o : Oper), ops[m]? = some o → (∀ i, i < m → f i = true) → T f w → (∀ i, i < m → F f i w (vs i)) →
      o.wp P { a0 with tmps := fillN slot vs m a0.tmps } w (fun a' w' => Q .normal a' w') Q) :
    (Code.region id ops true).wp P Q a0 w0 := by
  refine region_inv hm hb (fun f a w => ShutF .any ops f ∧ (f m = false → Stand3 a0 m slot F T f a w) ∧ (f m = true → Q .normal a w))
    ⟨(fun i h => by cases h), (fun _ => ⟨rfl, rfl, (fun _ _ => rfl), (fun _ _ _ => rfl), h0, (fun _ _ h => by cases h)⟩), (fun h => by cases h)⟩ ?_ ?_
  · rintro f a w i o ho hf hpre ⟨hc, h1, h2⟩
    have hi := (Array.getElem?_eq_some_iff.1 ho).1
    have hee := edges_of ho hpre
    have hc' : ShutF .any ops (fun j => if j = i then true else f j) := by
      intro x hx y hy
      show (if y = i then true else f y) = true
      by_cases hyi : y = i
      · rw [if_pos hyi]
      · rw [if_neg hyi]
        by_cases hxi : x = i
        · subst hxi; exact hee y hy
        · exact hc x (by simpa [hxi] using hx) y hy
    have hpres : ∀ {g : Nat → Bool}, ShutF .any ops g → (∀ j ∈ edgesOf .any ops m, g j = true) → ∀ j, j < m → g j = true := fun hg he j hj => by
      have h4 := List.all_eq_true.1 hanc j (List.mem_range.2 hj)
      exact anc_true hg m m he j (by simpa using h4)
    by_cases him : i = m
    · subst him
      have hI := h1 hf
      have hall := hpres hc hee
      have e : a = { a0 with tmps := fillN slot (fun j => a.tmps.getD (slot j) undef) i a0.tmps } := by
        have h5 : a.tmps = fillN slot (fun j => a.tmps.getD (slot j) undef) i a0.tmps := by
          refine ext_getD (by rw [fillN_size, hI.size]) (fun j => ?_)
          by_cases hj : ∃ k, k < i ∧ slot k = j
          · obtain ⟨k, hk, rfl⟩ := hj
            rw [fillN_at slot _ _ hs _ hinj k hk]
          · rw [fillN_get slot _ _ hs _ j (fun k hk e => hj ⟨k, hk, e⟩), hI.rest j (fun k hk e => hj ⟨k, hk, e⟩)]
        obtain ⟨t, d⟩ := a
        have h6 := hI.defers
        simp only at h5 h6
        rw [← h5, h6]
      have h7 := hlast f (fun j => a.tmps.getD (slot j) undef) w o ho hall hI.told (fun j hj => hI.have_ j hj (hall j hj))
      rw [← e] at h7
      exact Oper.wp_mono (fun a' w' hT => ⟨hc', fun h => by simp at h, fun _ => hT⟩) h7
    · have hlt : i < m := by omega
      have hfm : f m = false := by
        cases hfm : f m with
        | false => rfl
        | true =>
          have := hpres hc (hc m hfm) i hlt
          rw [hf] at this
          cases this
      have hI := h1 hfm
      refine Oper.wp_mono ?_ (hstep f a w i o hlt ho hf (fun e he hbd => ⟨hpre e he hbd, hI.have_ e.on (by have := (back_of hb ho).2 e he hbd; omega) (hpre e he hbd)⟩) hI.told hI.rest)
      rintro a' w' ⟨v, rfl, hv, ht, hst⟩
      rw [hdst i o hlt ho]
      have hsl : slot i < a.tmps.size := by rw [hI.size]; exact hs i
      refine ⟨hc', fun _ => ⟨hI.defers, by rw [← hI.size]; exact Array.size_setIfInBounds .., fun j hj => ?_, fun j hj hfj => ?_, ht, fun j hj hfj => ?_⟩, fun h => ?_⟩
      · show (a.tmps.setIfInBounds (slot i) v).getD j undef = _
        rw [getD_set _ _ _ _ hsl, if_neg (Ne.symm (hj i hlt))]
        exact hI.rest j hj
      · show (a.tmps.setIfInBounds (slot i) v).getD (slot j) undef = _
        have hji : j ≠ i := fun e => by simp [e] at hfj
        rw [getD_set _ _ _ _ hsl, if_neg (fun e => hji (hinj j i hj hlt e))]
        exact hI.yet j hj (by simpa [hji] using hfj)
      · show F (fun j => if j = i then true else f j) j w' ((a.tmps.setIfInBounds (slot i) v).getD (slot j) undef)
        rw [getD_set _ _ _ _ hsl]
        by_cases hji : j = i
        · subst hji; rw [if_pos rfl]; exact hv
        · rw [if_neg (fun e => hji (hinj j i hj hlt e))]
          have h2 : f j = true := by simpa [hji] using hfj
          exact hst j _ h2 (hI.have_ j hj h2)
      · have h' : (if m = i then true else f m) = true := h
        rw [if_neg (Ne.symm him), hfm] at h'; cases h'
  · rintro f a w hall ⟨_, _, h3⟩
    exact h3 (hall m (by omega))
end
end Go.Proofs.YtgfammlmbjmkoaaGreatDoor

/- route: Add. -/
namespace Go.Proofs.YtgfammlmbjmkoaaGreatDoor
set_option linter.unusedVariables false
set_option linter.unusedSimpArgs false
open Go.RowKit Go.Shelf
set_option maxHeartbeats 8000000
set_option maxRecDepth 100000
section
variable {P : Program} {ops : Array Oper} {Q : Exit → Act → World → Prop}
theorem region_last6 {id : Nat} {a0 : Act} {w0 : World} (m : Nat) (slot : Nat → Nat) (F : (Nat → Bool) → Nat → World → Value → Prop) (T : (Nat → Bool) → World → Prop) (hm : P.follows .mixedOrders = true) (hb : backB .any ops = true)
    (hsz : ops.size = m + 1) (hanc : ((List.range m).all fun j => (ancOf .any ops m m).contains j) = true)
    (hs : ∀ i, slot i < a0.tmps.size) (hinj : ∀ i j, i < m → j < m → slot i = slot j → i = j) (h0 : T (fun _ => false) w0.drew)
    (hdst : ∀ i o, i < m → ops[i]? = some o → o.dst = some (slot i))
    (hstep : ∀ (f : Nat → Bool) (a : Act) (w : World) (i : Nat) (o : Oper), i < m → ops[i]? = some o → f i = false → (∀ e ∈ o.after, Region.binds .any e = true → f e.on = true ∧ F f e.on w (a.tmps.getD (slot e.on) undef)) → T f w →
      (∀ j, (∀ i, i < m → slot i ≠ j) → a.tmps.getD j undef = a0.tmps.getD j undef) → a.defers = a0.defers →
      o.wp P a w (fun a' w' => ∃ v, a' = a.put o.dst v ∧ F (fun j => if j = i then true else f j) i w' v ∧ T (fun j => if j = i then true else f j) w' ∧ ∀ j v', f j = true → F f j w v' → F (fun j => if j = i then true else f j) j w' v') Q)
    (hlast : ∀ (f : Nat → Bool) (vs : Nat → Value) (w : World) (o : Oper), ops[m]? = some o → (∀ i, i < m → f i = true) → T f w → (∀ i, i < m → F f i w (vs i)) →
      o.wp P { a0 with tmps := fillN slot vs m a0.tmps } w (fun a' w' => Q .normal a' w') Q) :
    (Code.region id ops true).wp P Q a0 w0 := by
  refine region_inv hm hb (fun f a w => ShutF .any ops f ∧ (f m = false → Stand3 a0 m slot F T f a w) ∧ (f m = true → Q .normal a w))
    ⟨(fun i h => by cases h), (fun _ => ⟨rfl, rfl, (fun _ _ => rfl), (fun _ _ _ => rfl), h0, (fun _ _ h => by cases h)⟩), (fun h => by cases h)⟩ ?_ ?_
  · rintro f a w i o ho hf hpre ⟨hc, h1, h2⟩
    have hi := (Array.getElem?_eq_some_iff.1 ho).1
    have hee := edges_of ho hpre
    have hc' : ShutF .any ops (fun j => if j = i then true else f j) := by
      intro x hx y hy
      show (if y = i then true else f y) = true
      by_cases hyi : y = i
      · rw [if_pos hyi]
      · rw [if_neg hyi]
        by_cases hxi : x = i
        · subst hxi; exact hee y hy
        · exact hc x (by simpa [hxi] using hx) y hy
    have hpres : ∀ {g : Nat → Bool}, ShutF .any ops g → (∀ j ∈ edgesOf .any ops m, g j = true) → ∀ j, j < m → g j = true := fun hg he j hj => by
      have h4 := List.all_eq_true.1 hanc j (List.mem_range.2 hj)
      exact anc_true hg m m he j (by simpa using h4)
    by_cases him : i = m
    · subst him
      have hI := h1 hf
      have hall := hpres hc hee
      have e : a = { a0 with tmps := fillN slot (fun j => a.tmps.getD (slot j) undef) i a0.tmps } := by
        have h5 : a.tmps = fillN slot (fun j => a.tmps.getD (slot j) undef) i a0.tmps := by
          refine ext_getD (by rw [fillN_size, hI.size]) (fun j => ?_)
          by_cases hj : ∃ k, k < i ∧ slot k = j
          · obtain ⟨k, hk, rfl⟩ := hj
            rw [fillN_at slot _ _ hs _ hinj k hk]
          · rw [fillN_get slot _ _ hs _ j (fun k hk e => hj ⟨k, hk, e⟩), hI.rest j (fun k hk e => hj ⟨k, hk, e⟩)]
        obtain ⟨t, d⟩ := a
        have h6 := hI.defers
        simp only at h5 h6
        rw [← h5, h6]
      have h7 := hlast f (fun j => a.tmps.getD (slot j) undef) w o ho hall hI.told (fun j hj => hI.have_ j hj (hall j hj))
      rw [← e] at h7
      exact Oper.wp_mono (fun a' w' hT => ⟨hc', fun h => by simp at h, fun _ => hT⟩) h7
    · have hlt : i < m := by omega
      have hfm : f m = false := by
        cases hfm : f m with
        | false => rfl
        | true =>
          have := hpres hc (hc m hfm) i hlt
          rw [hf] at this
          cases this
      have hI := h1 hfm
      refine Oper.wp_mono ?_ (hstep f a w i o hlt ho hf (fun e he hbd => ⟨hpre e he hbd, hI.have_ e.on (by have := (back_of hb ho).2 e he hbd; omega) (hpre e he hbd)⟩) hI.told hI.rest hI.defers)
      rintro a' w' ⟨v, rfl, hv, ht, hst⟩
      rw [hdst i o hlt ho]
      have hsl : slot i < a.tmps.size := by rw [hI.size]; exact hs i
      refine ⟨hc', fun _ => ⟨hI.defers, by rw [← hI.size]; exact Array.size_setIfInBounds .., fun j hj => ?_, fun j hj hfj => ?_, ht, fun j hj hfj => ?_⟩, fun h => ?_⟩
      · show (a.tmps.setIfInBounds (slot i) v).getD j undef = _
        rw [getD_set _ _ _ _ hsl, if_neg (Ne.symm (hj i hlt))]
        exact hI.rest j hj
      · show (a.tmps.setIfInBounds (slot i) v).getD (slot j) undef = _
        have hji : j ≠ i := fun e => by simp [e] at hfj
        rw [getD_set _ _ _ _ hsl, if_neg (fun e => hji (hinj j i hj hlt e))]
        exact hI.yet j hj (by simpa [hji] using hfj)
      · show F (fun j => if j = i then true else f j) j w' ((a.tmps.setIfInBounds (slot i) v).getD (slot j) undef)
        rw [getD_set _ _ _ _ hsl]
        by_cases hji : j = i
        · subst hji; rw [if_pos rfl]; exact hv
        · rw [if_neg (fun e => hji (hinj j i hj hlt e))]
          have h2 : f j = true := by simpa [hji] using hfj
          exact hst j _ h2 (hI.have_ j hj h2)
      · have h' : (if m = i then true else f m) = true := h
        rw [if_neg (Ne.symm him), hfm] at h'; cases h'
  · rintro f a w hall ⟨_, _, h3⟩
    exact h3 (hall m (by omega))
end
/-- append to an owned row: the new row lies where it lay, or in a new block -/
theorem run_append_blk {P : Program} {w : World} (base : Nat) (t ty e : TypeId) (i : TypeInfo) (z : Value) (size bytes : Nat) (ht : P.underlying t = some (.slice e)) (hi : P.info? e = some i) (hz : i.zero = some z)
    (hsize : i.size = size) (hby : i.bytes = bytes) (hzs : z.cells.size = size) (hsz : 0 < size) (v : Value) (n : Nat) (xs : List Value) (hown : w.ownsRow base e size v n xs)
    (a : Addr) (m c : Nat) (news : List Value) (hl : news.length = m * size) (hnews : ∀ j u, news[j]? = some u → w.cell? (a.add j) = some u) (h1 : ∀ u ∈ news, u.oneCell' = true)
    (h63 : n + m ≤ maxLen) (hbytes : (n + m) * bytes ≤ 140737488355328) (hbase : base ≤ w.heap.size) :
    ∃ v' w', (Builtin.append_ #[t, t] ty #[v, .slice (some a) m c]).run P w = .ok v' w' ∧ w'.ownsRow base e size v' (n + m) (xs ++ news) ∧ w.grownBy w' v.ownBlock ∧ (v'.ownBlock = v.ownBlock ∨ v'.ownBlock = some w.heap.size) := by
  obtain ⟨v', w', hr, h2, h3, h4⟩ := run_append_own (P := P) w base t ty e i z size bytes ht hi hz hsize hby hzs hsz v n xs hown a m c news hl hnews h1 h63 hbytes hbase
  refine ⟨v', w', hr, h2, h3, ?_⟩
  subst hsize
  subst hby
  have hsm : n + m ≤ 9223372036854775807 := by simp only [maxLen] at h63; omega
  have hcopy := hown
  rcases hcopy.2 with ⟨rfl, rfl⟩ | ⟨g, cap, cur, rfl, hbg, hg, hnc, hcm, hcs, htake⟩
  · by_cases hm : m = 0
    · subst hm
      have := h4.2 ⟨rfl, rfl⟩
      subst this
      exact .inl rfl
    · have h5 := run_append_nil (P := P) w t ty e i z ht hi hz a m c news hl hnews (by omega) (by omega) (by have hb := hbytes; simp only [Nat.zero_add] at hb; omega)
      rw [hr] at h5
      cases h5
      exact .inr rfl
  · by_cases hroom : n + m ≤ cap
    · have h5 := run_append_room (P := P) w t ty e i ht hi g n cap cur hg a m c news hl hnews h1 hroom (by rw [hl, hcs, ← Nat.add_mul]; exact Nat.mul_le_mul_right _ hroom)
      rw [hr] at h5
      cases h5
      exact .inl rfl
    · have h5 := run_append_grow (P := P) w t ty e i z ht hi hz ⟨g, 0, none⟩ n cap xs hown.1 (hown.cells (g := g) rfl) a m c news hl hnews (by omega) (by omega) (growslice_fits (by omega) hbytes)
      rw [hr] at h5
      cases h5
      exact .inr rfl
theorem wp_append_blk {P : Program} {w : World} {o : Oper} {a : Act} {K : Act → World → Prop} {Q : Exit → Act → World → Prop} (s x : Operand) (t : TypeId)
    (ho : o.op = .call { callee := .builtin .append, args := #[s, x], argTypes := #[t, t] })
    (base : Nat) (e : TypeId) (i : TypeInfo) (z : Value) (size bytes : Nat) (ht : P.underlying t = some (.slice e)) (hi : P.info? e = some i) (hz : i.zero = some z)
    (hsize : i.size = size) (hby : i.bytes = bytes) (hzs : z.cells.size = size) (hsz : 0 < size)
    (v : Value) (n : Nat) (xs : List Value) (hs : a.eval s = v) (hown : w.ownsRow base e size v n xs)
    (ad : Addr) (m c : Nat) (news : List Value) (hx : a.eval x = .slice (some ad) m c) (hl : news.length = m * size) (hnews : ∀ j u, news[j]? = some u → w.cell? (ad.add j) = some u) (h1 : ∀ u ∈ news, u.oneCell' = true)
    (h63 : n + m ≤ maxLen) (hbytes : (n + m) * bytes ≤ 140737488355328) (hbase : base ≤ w.heap.size)
    (h : ∀ v' w', w'.ownsRow base e size v' (n + m) (xs ++ news) → w.grownBy w' v.ownBlock → (v'.ownBlock = v.ownBlock ∨ v'.ownBlock = some w.heap.size) → K (a.put o.dst v') w') : o.wp P a w K Q := by
  obtain ⟨v', w', hr, h2, h3, h4⟩ := run_append_blk (P := P) (w := w) base t o.type e i z size bytes ht hi hz hsize hby hzs hsz v n xs hown ad m c news hl hnews h1 h63 hbytes hbase
  unfold Oper.wp execOp
  simp only [ho, resolve, invoke, builtin, Sem.run_bind, Sem.run_pure, Result.andThen_ok, List.map_toArray, List.map_cons, List.map_nil, hs, hx, hr]
  exact h v' w' h2 h3 h4
theorem rg_callp {P : Program} {o : Oper} {a : Act} {w : World} {K : Act → World → Prop} {Q : Exit → Act → World → Prop} (t k : Nat) (ty : Array TypeId) (v : Value) (ch : List PanicEntry) (R : Ending → World → Prop) (ho : o.op = Op.call { callee := .value (.func k), args := #[.tmp t], argTypes := ty }) (hv : a.tmps.getD t undef = v)
    (eg : ∀ args w, (callFunc k args).run P w = .ok (.enter k args) w) (hc : Calls P k #[v] w R) (hR : ∀ e w', R e w' → e = .panicked ch ∧ Q (.panic ch) a w') : o.wp P a w K Q := by
  have e := rg_ev hv
  have e2 : a.eval (.func k) = .func (.func k) #[] #[] := rfl
  unfold Oper.wp execOp
  simp [ho, resolve, invoke, e2, e, eg, go_sem]
  refine hc.mono ?_
  intro z w' hz
  obtain ⟨rfl, hk⟩ := hR z w' hz
  exact hk
/-- a table, its list's slice said -/
def TBB (w : World) (T B : Nat) (v : Value) (Ls : List (List Ro.Pt)) : Prop := w.heap[T]? = some (.cells #[v, .bool true] 74 (0, 0)) ∧ OPat w B v Ls
theorem TBB.tb {w : World} {T B : Nat} {v : Value} {Ls : List (List Ro.Pt)} (h : TBB w T B v Ls) : TB w T Ls := ⟨B, v, h⟩
theorem TBB.below {w w' : World} {T B : Nat} {v : Value} {Ls : List (List Ro.Pt)} (h : TBB w T B v Ls) (k : Below w.heap.size w w') : TBB w' T B v Ls :=
  ⟨(k.block T (Array.getElem?_eq_some_iff.1 h.1).1).trans h.1, h.2.below k⟩
/-- what an Add keeps -/
structure AK (w : World) (T : Nat) (v : Value) (w' : World) : Prop where
  os : w'.os = w.os
  tape : w'.tape = w.tape
  output : w'.output = w.output
  size : w.heap.size ≤ w'.heap.size
  block : ∀ b, b < w.heap.size → b ≠ T → some b ≠ v.ownBlock → w'.heap[b]? = w.heap[b]?
structure adT (w2 : World) (row : Option Nat) (f : Nat → Bool) (W : World) : Prop where
  gr : w2.grownBy W row
  bel : f 9 = false → Below w2.heap.size w2 W
  n7 : f 7 = false → f 9 = false
  n8 : f 8 = false → f 9 = false
theorem adT.step {w2 : World} {row : Option Nat} {f : Nat → Bool} {W : World} (h : adT w2 row f W) (i : Nat) (hi : i ≠ 9) : adT w2 row (fun j => if j = i then true else f j) W := by
  refine ⟨h.gr, fun e => h.bel (by simpa [Ne.symm hi] using e), fun e => ?_, fun e => ?_⟩
  · have e' : (if 7 = i then true else f 7) = false := e
    split at e'
    · cases e'
    · show (if 9 = i then true else f 9) = false
      rw [if_neg (Ne.symm hi)]; exact h.n7 e'
  · have e' : (if 8 = i then true else f 8) = false := e
    split at e'
    · cases e'
    · show (if 9 = i then true else f 9) = false
      rw [if_neg (Ne.symm hi)]; exact h.n8 e'
def adF (T B n cv : Nat) (pv : Option Addr) (s : ByteArray) (L : List Ro.Pt) (Ls : List (List Ro.Pt)) (w2 : World) (f : Nat → Bool) : Nat → World → Value → Prop
  | 0, _, x | 1, _, x | 2, _, x | 3, _, x | 4, _, x => x = .pointer (some ⟨T, 0, none⟩)
  | 5, _, x => x = .slice pv n cv
  | 6, _, x => x = .string s
  | 7, W, x => f 9 = false → PtO W x L
  | 8, W, x => f 9 = false → ∃ g r, x = .slice (some ⟨g, 0, none⟩) 1 1 ∧ W.heap[g]? = some (.cells #[r] 87 (0, 0)) ∧ PtO W r L
  | 9, W, x => OPat W B x (Ls ++ [L]) ∧ (x.ownBlock = (Value.slice pv n cv).ownBlock ∨ ∀ k, x.ownBlock = some k → w2.heap.size ≤ k)
  | 10, _, x | 11, _, x | 12, _, x => x = .pointer (some ⟨T, 0, none⟩)
  | _, _, _ => False
def adN (T B n cv : Nat) (pv : Option Addr) (s : ByteArray) (L : List Ro.Pt) (Ls : List (List Ro.Pt)) (w2 : World) (f : Nat → Bool) (i : Nat) (W : World) (x : Value) : Prop := adF T B n cv pv s L Ls w2 f i W x ∧ i ≠ 7
theorem adF_up {T B n cv : Nat} {pv : Option Addr} {s : ByteArray} {L : List Ro.Pt} {Ls : List (List Ro.Pt)} {w2 : World} {f : Nat → Bool} (i : Nat) {j : Nat} {W : World} {x : Value} (h : adF T B n cv pv s L Ls w2 f j W x) : adF T B n cv pv s L Ls w2 (fun j => if j = i then true else f j) j W x := by
  match j, h with
  | 0, h | 1, h | 2, h | 3, h | 4, h | 5, h | 6, h | 9, h | 10, h | 11, h | 12, h => exact h
  | 7, h => exact fun e => h (by have e' : (if 9 = i then true else f 9) = false := e; split at e'; · cases e'
                                 · exact e')
  | 8, h => exact fun e => h (by have e' : (if 9 = i then true else f 9) = false := e; split at e'; · cases e'
                                 · exact e')
  | n + 13, h => exact h.elim
theorem adF_below {T B n cv : Nat} {pv : Option Addr} {s : ByteArray} {L : List Ro.Pt} {Ls : List (List Ro.Pt)} {w2 : World} {f : Nat → Bool} {j : Nat} {W W' : World} {x : Value} (k : Below W.heap.size W W') (h : adF T B n cv pv s L Ls w2 f j W x) : adF T B n cv pv s L Ls w2 f j W' x := by
  match j, h with
  | 0, h | 1, h | 2, h | 3, h | 4, h | 5, h | 6, h | 10, h | 11, h | 12, h => exact h
  | 7, h => exact fun e => (h e).below k
  | 8, h =>
    intro e
    obtain ⟨g, r, h1, h2, h3⟩ := h e
    exact ⟨g, r, h1, (k.block g (Array.getElem?_eq_some_iff.1 h2).1).trans h2, h3.below k⟩
  | 9, h => exact ⟨h.1.below k, h.2⟩
  | n + 13, h => exact h.elim
theorem adT.moved {w2 : World} {row : Option Nat} {f g : Nat → Bool} {W W' : World} (h : adT w2 row f W) (hb : f 9 = false → Below w2.heap.size w2 W') (h9 : g 9 = false) (h9' : f 9 = g 9 := by rfl) : adT w2 row f W' := by
  have e : f 9 = false := h9'.trans h9
  have b := hb e
  exact ⟨⟨b.os, b.tape, b.output, b.size, fun k hk _ => b.block k hk⟩, fun _ => b, h.n7, h.n8⟩
theorem rt_clearA (a : Addr) (w : World) (old : Value) (hc : w.cell? a = some old) (hz : w.frozen? a = false) :
    Calls Tryz.prog 52 #[.pointer (some a)] w fun e w' => e = .returned (.tuple #[]) ∧ w' = w.setCell a (.int .i64 0) := by
  go_enter Tryz.func52, Tryz.ntmps52
  go_wp2
  simp [bodyPost, results, Tryz.results52, go_sem]
theorem clearA_enter (cap : Array Value) (W : World) : (callFunc 52 cap).run Tryz.prog W = .ok (.enter 52 cap) W := by
  simp [callFunc, go_sem, Tryz.func52]
  rw [if_neg (by decide), if_neg (by decide)]
theorem add_door (n : Int) (tm : Array Value) (H : Nat) (x : Value) (W : World) (Q : Ending → World → Prop) (hQ : Q (.returned (.tuple #[.int .i64 0, .int .i64 n])) ((W.setCell ⟨H, 0, none⟩ (.int .i64 0)).setCell ⟨H + 1, 0, none⟩ (.int .i64 n)))
    (hT : W.heap[H]? = some (.cells #[x] 3 (0, 0))) (hE : W.heap[H + 1]? = some (.cells #[.int .i64 0] 24 (0, 0))) (h4 : tm.getD 4 undef = .pointer (some ⟨H, 0, none⟩)) (h5 : tm.getD 5 undef = .pointer (some ⟨H + 1, 0, none⟩)) :
    bodyPostD Tryz.prog Tryz.f25 Q (.panic [{ v := errno n, recovered := false }])
      { tmps := tm, defers := [{ target := Target.fn (Fn.func 35) #[], args := #[.pointer (some ⟨H + 1, 0, none⟩), .func (.func 52) #[] #[.pointer (some ⟨H, 0, none⟩)]] }] } W := by
  have e4 := rg_ev (a := ⟨tm, []⟩) h4
  have e5 := rg_ev (a := ⟨tm, []⟩) h5
  simp only at e4 e5
  have c0 : W.cell? ⟨H, 0, none⟩ = some x := by simp [World.cell?, hT]
  have c1 : W.cell? ⟨H + 1, 0, none⟩ = some (.int .i64 0) := by simp [World.cell?, hE]
  have z0 : W.frozen? ⟨H, 0, none⟩ = false := frozen_of_row _ _ _ _ _ hT
  have z1 : W.frozen? ⟨H + 1, 0, none⟩ = false := frozen_of_row _ _ _ _ _ hE
  refine leaves_cons (f := 35) (args := #[.pointer (some ⟨H + 1, 0, none⟩), .func (.func 52) #[] #[.pointer (some ⟨H, 0, none⟩)]]) (by simp) (by simp [go_sem]) ?_
  have c2 : (W.setCell ⟨H, 0, none⟩ (.int .i64 0)).cell? ⟨H + 1, 0, none⟩ = some (.int .i64 0) := by rw [World.cell?_setCell_other]; exact c1; simp
  have z2 : (W.setCell ⟨H, 0, none⟩ (.int .i64 0)).frozen? ⟨H + 1, 0, none⟩ = false := by simpa using z1
  refine (rt_caught ⟨H + 1, 0, none⟩ 52 #[.pointer (some ⟨H, 0, none⟩)] n [] W (W.setCell ⟨H, 0, none⟩ (.int .i64 0)) (clearA_enter _) (rt_clearA _ _ _ c0 z0) (.int .i64 0) c2 z2).mono ?_
  rintro e u' w'' ⟨rfl, rfl, rfl⟩
  simp [Leaves, settle, results, Tryz.results25, go_sem, c0, c1, e4, e5]
  exact hQ
/-- what Add tells -/
def AdOut (w : World) (T B : Nat) (v : Value) (Ls : List (List Ro.Pt)) (o : Option (List Ro.Pt)) (e : Ending) (w' : World) : Prop :=
  (Ls.length < 256 ∧ ∃ L v', o = some L ∧ e = .returned (.tuple #[.int .i64 Ls.length, .int .i64 0]) ∧ TBB w' T B v' (Ls ++ [L]) ∧ (v'.ownBlock = v.ownBlock ∨ ∀ k, v'.ownBlock = some k → w.heap.size ≤ k) ∧ AK w T v w') ∨
  (Ls.length < 256 ∧ o = none ∧ e = .returned (.tuple #[.int .i64 0, .int .i64 360]) ∧ Below w.heap.size w w') ∨
  (256 ≤ Ls.length ∧ e = .returned (.tuple #[.int .i64 0, .int .i64 3]) ∧ Below w.heap.size w w')
theorem rt_Add (T B : Nat) (v : Value) (Ls : List (List Ro.Pt)) (s : ByteArray) (w : World) (h : TBB w T B v Ls) (hL : Ls.length ≤ 100000) (hB : B ≤ w.heap.size) (hs : s.size ≤ 30000) (hk : KX w) :
    Calls Tryz.prog 25 #[.pointer (some ⟨T, 0, none⟩), .string s] w fun e w' => AdOut w T B v Ls (Ro.parse s.data.toList) e w' := by
  have hmf : ∀ (fn : Fn) (first cap : Array Value) (w : World), (Instr.makeFunc fn first cap).run Tryz.prog w = .ok (.func fn first cap) w := fun _ _ _ _ => rfl
  obtain ⟨i0, hi, hz0, hz1, hz2⟩ := info_parts (show (Tryz.prog.info? 87).map (fun i => (i.zero, i.size, i.bytes)) = some (some (.slice none 0 0), 1, 24) by kernel_rfl)
  obtain ⟨W3, hW3⟩ : ∃ W, (w.alloc (.cells #[.int .i64 0] 3)).alloc (.cells #[.int .i64 0] 24) = W := ⟨_, rfl⟩
  obtain ⟨H, hH⟩ : ∃ H, w.heap.size = H := ⟨_, rfl⟩
  have HSZ := Lib.hid (show W3.heap.size = H + 2 by rw [← hW3, ← hH]; simp)
  have HB := Lib.hid (show Below w.heap.size w W3 by
    rw [← hW3]
    exact ((Below.refl _ _).alloc (Nat.le_refl _) _).alloc (by simp) _)
  have HC0 := Lib.hid (show W3.heap[H]? = some (.cells #[.int .i64 0] 3 (0, 0)) by
    rw [← hW3, ← hH, Below.heap_alloc _ _ _ (by simp)]
    exact World.alloc_heap_new _ _)
  have HC1 := Lib.hid (show W3.heap[H + 1]? = some (.cells #[.int .i64 0] 24 (0, 0)) by
    rw [← hW3, ← hH]
    have := World.alloc_heap_new (w.alloc (.cells #[.int .i64 0] 3)) (.cells #[.int .i64 0] 24)
    simpa using this)
  have HW3 := Lib.hid hW3
  have HH := Lib.hid hH
  obtain ⟨pv, cv, rfl⟩ := h.2.slice
  obtain ⟨n, hn⟩ : ∃ n, Ls.length = n := ⟨_, rfl⟩
  have HNL := Lib.hid hn
  rw [hn] at h ⊢
  have HT3 := Lib.hid (h.below HB.out)
  have hTlt : T < H := by rw [← hH]; exact (Array.getElem?_eq_some_iff.1 h.1).1
  have hct3 := HT3.out.1
  have k0 : W3.cell? ⟨T, 0, none⟩ = some (.slice pv n cv) := by simp [World.cell?, hct3]
  have c0 : W3.cell? ⟨H, 0, none⟩ = some (.int .i64 0) := by have h := HC0.out; simp [World.cell?, h]
  have z0 : W3.frozen? ⟨H, 0, none⟩ = false := frozen_of_row _ _ _ _ _ HC0.out
  have HKX := Lib.hid hk
  have HTL := Lib.hid hTlt
  have HBB := Lib.hid (show B ≤ H from hH ▸ hB)
  have HNN := Lib.hid hL
  have KN := Lib.hid (rt_none T W3 (.slice pv n cv) true HT3.out.1)
  obtain ⟨W4, hW4⟩ : ∃ Z, W3.setCell ⟨H, 0, none⟩ (.int .i64 n) = Z := ⟨_, rfl⟩
  have HW4 := Lib.hid hW4
  have HB4 := Lib.hid (show Below w.heap.size w W4 by rw [← hW4]; exact HB.out.setCell (by show w.heap.size ≤ H; omega) _)
  have HD0 := Lib.hid (show W4.heap[H]? = some (.cells #[.int .i64 n] 3 (0, 0)) by
    have h := heap_setCell_same W3 H 0 _ _ (.int .i64 n) HC0.out
    rw [← hW4]; simpa using h)
  have HD1 := Lib.hid (show W4.heap[H + 1]? = some (.cells #[.int .i64 0] 24 (0, 0)) by
    rw [← hW4, Below.heap_setCell _ _ _ _ (by simp)]; exact HC1.out)
  have HSZ4 := Lib.hid (show W4.heap.size = H + 2 by rw [← hW4, ← HSZ.out]; simp)
  have HT4 := Lib.hid (h.below HB4.out)
  have d0 : W4.cell? ⟨H, 0, none⟩ = some (.int .i64 n) := by have h := HD0.out; simp [World.cell?, h]
  clear hW3 hH h hn hct3 hk hTlt hL hW4 hB
  have HTO := Lib.hid (show some T ≠ (Value.slice pv n cv).ownBlock by
    obtain ⟨vals, _, h2, _⟩ := HT4.out.2
    exact own_cells h2 (by decide) HT4.out.1)
  have HTL4 := Lib.hid (show T < W4.heap.size by rw [HSZ4.out]; have := HTL.out; omega)
  have HTC := Lib.hid HT4.out.1
  have HO := Lib.hid HT4.out.2
  have HBW := Lib.hid (show B ≤ W4.heap.size by rw [HSZ4.out]; have := HBB.out; omega)
  have HK4 := Lib.hid (HKX.out.below HB4.out)
  have HSS := Lib.hid hs
  by_cases h256 : n < 256
  · have h1 : ((n : Int) < 256) = True := by simp; omega
    have h2 : decide ((n : Int) < 256) = true := decide_eq_true (by omega)
    have HLT := Lib.hid (show Ls.length < 256 by rw [HNL.out]; omega)
    have HN4 := Lib.hid h256
    clear h256
    go_enter_defers Tryz.func25, Tryz.ntmps25
    go_wp2_with fail
    rw [HH.out, HW3.out]
    refine KN.out.mono ?_
    rintro e w5 ⟨rfl, hw5⟩
    subst w5
    go_wp2_with fail
    refine (rt_must 1 _).mono ?_
    rintro e w5 ⟨rfl, hw5⟩
    subst w5
    go_wp2_with (rw [HW4.out])
    refine (rt_must 3 _).mono ?_
    rintro e w5 ⟨rfl, hw5⟩
    subst w5
    go_wp2_with fail
    obtain ⟨w2, hw2⟩ : ∃ z, W4 = z := ⟨_, rfl⟩
    rw [hw2] at HTL4 HTC HO HBW HK4 HB4 HD0 HD1 HSZ4 d0 ⊢
    clear hw2
    cases hpr : Ro.parse s.data.toList with
    | none =>
      have HPR := Lib.hid hpr
      clear hpr
      obtain ⟨L, hL0⟩ : ∃ L : List Ro.Pt, L = [] := ⟨_, rfl⟩
      clear hL0
      refine region_last6 13 (fun i => 20 + min i 12) (adN T B n cv pv s L Ls w2) (adT w2 (Value.slice pv n cv).ownBlock) (by kernel_rfl) (by kernel_rfl) rfl (by kernel_rfl) (fun i => by show 20 + min i 12 < _; simp; omega) (fun i j hi hj h => by have h : 20 + min i 12 = 20 + min j 12 := h; omega) ?start ?dst ?step ?last
      case start => exact ⟨⟨rfl, rfl, rfl, Nat.le_refl _, fun _ _ _ => rfl⟩, fun _ => (Below.refl _ _).drew, fun _ => rfl, fun _ => rfl⟩
      case dst =>
        intro i o hi ho
        match i, hi, ho with
        | 0, _, ho => cases ho; rfl
        | 1, _, ho => cases ho; rfl
        | 2, _, ho => cases ho; rfl
        | 3, _, ho => cases ho; rfl
        | 4, _, ho => cases ho; rfl
        | 5, _, ho => cases ho; rfl
        | 6, _, ho => cases ho; rfl
        | 7, _, ho => cases ho; rfl
        | 8, _, ho => cases ho; rfl
        | 9, _, ho => cases ho; rfl
        | 10, _, ho => cases ho; rfl
        | 11, _, ho => cases ho; rfl
        | 12, _, ho => cases ho; rfl
        | n + 13, hi, _ => exact absurd hi (by omega)
      case step =>
        intro f a' W i o hib ho hfi hpre hT hrest hdf
        match i, hib, ho with
        | 0, _, ho =>
          cases ho
          have q0 : a'.tmps.getD 0 undef = .pointer (some ⟨T, 0, none⟩) := (hrest 0 (by intro i hi; show 20 + min i 12 ≠ _; omega))
          have e0 := rg_ev q0
          exact rg_same3 (.pointer (some ⟨T, 0, none⟩)) (by unfold Oper.wp execOp; go_simp; all_goals ((try simp only [e0]); (try go_simp); first | done | rfl | exact ⟨rfl, rfl⟩ | trivial)) ⟨rfl, by decide⟩ (hT.step 0 (by decide)) (fun j v' h => ⟨adF_up 0 (And.left h), And.right h⟩)
        | 1, _, ho =>
          cases ho
          have q0 : a'.tmps.getD 0 undef = .pointer (some ⟨T, 0, none⟩) := (hrest 0 (by intro i hi; show 20 + min i 12 ≠ _; omega))
          have e0 := rg_ev q0
          exact rg_same3 (.pointer (some ⟨T, 0, none⟩)) (by unfold Oper.wp execOp; go_simp; all_goals ((try simp only [e0]); (try go_simp); first | done | rfl | exact ⟨rfl, rfl⟩ | trivial)) ⟨rfl, by decide⟩ (hT.step 1 (by decide)) (fun j v' h => ⟨adF_up 1 (And.left h), And.right h⟩)
        | 2, _, ho =>
          cases ho
          have q21 : a'.tmps.getD 21 undef = .pointer (some ⟨T, 0, none⟩) := (hpre { on := 1, ground := .data } (by simp) rfl).2.left
          have e21 := rg_ev q21
          exact rg_same3 (.pointer (some ⟨T, 0, none⟩)) (by unfold Oper.wp execOp; go_simp; all_goals ((try simp only [e21]); (try go_simp); first | done | rfl | exact ⟨rfl, rfl⟩ | trivial)) ⟨rfl, by decide⟩ (hT.step 2 (by decide)) (fun j v' h => ⟨adF_up 2 (And.left h), And.right h⟩)
        | 3, _, ho =>
          cases ho
          have q22 : a'.tmps.getD 22 undef = .pointer (some ⟨T, 0, none⟩) := (hpre { on := 2, ground := .data } (by simp) rfl).2.left
          have e22 := rg_ev q22
          exact rg_same3 (.pointer (some ⟨T, 0, none⟩)) (by unfold Oper.wp execOp; go_simp; all_goals ((try simp only [e22]); (try go_simp); first | done | rfl | exact ⟨rfl, rfl⟩ | trivial)) ⟨rfl, by decide⟩ (hT.step 3 (by decide)) (fun j v' h => ⟨adF_up 3 (And.left h), And.right h⟩)
        | 4, _, ho =>
          cases ho
          have q23 : a'.tmps.getD 23 undef = .pointer (some ⟨T, 0, none⟩) := (hpre { on := 3, ground := .data } (by simp) rfl).2.left
          have e23 := rg_ev q23
          exact rg_same3 (.pointer (some ⟨T, 0, none⟩)) (by unfold Oper.wp execOp; go_simp; all_goals ((try simp only [e23]); (try go_simp); first | done | rfl | exact ⟨rfl, rfl⟩ | trivial)) ⟨rfl, by decide⟩ (hT.step 4 (by decide)) (fun j v' h => ⟨adF_up 4 (And.left h), And.right h⟩)
        | 5, _, ho =>
          cases ho
          have q24 : a'.tmps.getD 24 undef = .pointer (some ⟨T, 0, none⟩) := (hpre { on := 4, ground := .data } (by simp) rfl).2.left
          have hcT : W.cell? ⟨T, 0, none⟩ = some (.slice pv n cv) := by
            have h := (hT.gr.block T HTL4.out HTO.out).trans HTC.out
            simp [World.cell?, h]
          have e24 := rg_ev q24
          exact rg_same3 (.slice pv n cv) (by unfold Oper.wp execOp; go_simp; all_goals ((try simp only [e24]); (try go_simp); first | done | rfl | exact ⟨rfl, rfl⟩ | trivial)) ⟨rfl, by decide⟩ (hT.step 5 (by decide)) (fun j v' h => ⟨adF_up 5 (And.left h), And.right h⟩)
        | 6, _, ho =>
          cases ho
          have q1 : a'.tmps.getD 1 undef = .string s := (hrest 1 (by intro i hi; show 20 + min i 12 ≠ _; omega))
          have e1 := rg_ev q1
          exact rg_same3 (.string s) (by unfold Oper.wp execOp; go_simp; all_goals ((try simp only [e1]); (try go_simp); first | done | rfl | exact ⟨rfl, rfl⟩ | trivial)) ⟨rfl, by decide⟩ (hT.step 6 (by decide)) (fun j v' h => ⟨adF_up 6 (And.left h), And.right h⟩)
        | 7, _, ho =>
          cases ho
          have q26 : a'.tmps.getD 26 undef = .string s := (hpre { on := 6, ground := .data } (by simp) rfl).2.left
          have hbl := hT.bel (hT.n7 hfi)
          refine rg_callp 26 37 #[9] (.string s) [{ v := errno 360, recovered := false }] _ rfl q26 (enters_of Tryz.func37 (by kernel_rfl) rfl) (rt_read s W HSS.out (HK4.out.below hbl)) (fun e w' h => ?_)
          obtain ⟨⟨L', r, h1, h2, h3⟩ | ⟨h1, he⟩, hb⟩ := h
          · rw [HPR.out] at h1
            cases h1
          · have hB2 : Below w.heap.size w w' := HB4.out.trans ((hbl.trans (hb.mono hbl.size)).mono HB4.out.size)
            have hB3 := hbl.trans (hb.mono hbl.size)
            have r4 := hrest 4 (by intro i hi; show 20 + min i 12 ≠ _; omega)
            have r5 := hrest 5 (by intro i hi; show 20 + min i 12 ≠ _; omega)
            refine ⟨he, ?_⟩
            obtain ⟨tm, df⟩ := a'
            have hdf' : df = [{ target := Target.fn (Fn.func 35) #[], args := #[.pointer (some ⟨H + 1, 0, none⟩), .func (.func 52) #[] #[.pointer (some ⟨H, 0, none⟩)]] }] := hdf
            subst hdf'
            exact add_door 360 tm H (.int .i64 n) w' (fun e w' => AdOut w T B (.slice pv n cv) Ls (Ro.parse s.data.toList) e w') (.inr (.inl ⟨HLT.out, HPR.out, rfl, (hB2.setCell (Nat.le_of_eq HH.out) _).setCell (by show w.heap.size ≤ H + 1; rw [HH.out]; omega) _⟩)) ((hB3.block _ (by rw [HSZ4.out]; omega)).trans HD0.out) ((hB3.block _ (by rw [HSZ4.out]; omega)).trans HD1.out) r4 r5
        | 8, _, ho =>
          cases ho
          exact absurd rfl (hpre { on := 7, ground := .data } (by simp) rfl).2.2
        | 9, _, ho =>
          cases ho
          exact absurd rfl (hpre { on := 7, ground := .chain } (by simp) rfl).2.2
        | 10, _, ho =>
          cases ho
          have q20 : a'.tmps.getD 20 undef = .pointer (some ⟨T, 0, none⟩) := (hpre { on := 0, ground := .data } (by simp) rfl).2.left
          have e20 := rg_ev q20
          exact rg_same3 (.pointer (some ⟨T, 0, none⟩)) (by unfold Oper.wp execOp; go_simp; all_goals ((try simp only [e20]); (try go_simp); first | done | rfl | exact ⟨rfl, rfl⟩ | trivial)) ⟨rfl, by decide⟩ (hT.step 10 (by decide)) (fun j v' h => ⟨adF_up 10 (And.left h), And.right h⟩)
        | 11, _, ho =>
          cases ho
          have q30 : a'.tmps.getD 30 undef = .pointer (some ⟨T, 0, none⟩) := (hpre { on := 10, ground := .data } (by simp) rfl).2.left
          have e30 := rg_ev q30
          exact rg_same3 (.pointer (some ⟨T, 0, none⟩)) (by unfold Oper.wp execOp; go_simp; all_goals ((try simp only [e30]); (try go_simp); first | done | rfl | exact ⟨rfl, rfl⟩ | trivial)) ⟨rfl, by decide⟩ (hT.step 11 (by decide)) (fun j v' h => ⟨adF_up 11 (And.left h), And.right h⟩)
        | 12, _, ho =>
          cases ho
          have q31 : a'.tmps.getD 31 undef = .pointer (some ⟨T, 0, none⟩) := (hpre { on := 11, ground := .data } (by simp) rfl).2.left
          have e31 := rg_ev q31
          exact rg_same3 (.pointer (some ⟨T, 0, none⟩)) (by unfold Oper.wp execOp; go_simp; all_goals ((try simp only [e31]); (try go_simp); first | done | rfl | exact ⟨rfl, rfl⟩ | trivial)) ⟨rfl, by decide⟩ (hT.step 12 (by decide)) (fun j v' h => ⟨adF_up 12 (And.left h), And.right h⟩)
        | n + 13, hib, _ => exact absurd hib (by omega)
      case last =>
        intro f vs W oL ho hall hT hvs
        exact absurd rfl (hvs 7 (by decide)).2
    | some L =>
      have HPR := Lib.hid hpr
      clear hpr
      refine region_last6 13 (fun i => 20 + min i 12) (adF T B n cv pv s L Ls w2) (adT w2 (Value.slice pv n cv).ownBlock) (by kernel_rfl) (by kernel_rfl) rfl (by kernel_rfl) (fun i => by show 20 + min i 12 < _; simp; omega) (fun i j hi hj h => by have h : 20 + min i 12 = 20 + min j 12 := h; omega) ?start ?dst ?step ?last
      case start => exact ⟨⟨rfl, rfl, rfl, Nat.le_refl _, fun _ _ _ => rfl⟩, fun _ => (Below.refl _ _).drew, fun _ => rfl, fun _ => rfl⟩
      case dst =>
        intro i o hi ho
        match i, hi, ho with
        | 0, _, ho => cases ho; rfl
        | 1, _, ho => cases ho; rfl
        | 2, _, ho => cases ho; rfl
        | 3, _, ho => cases ho; rfl
        | 4, _, ho => cases ho; rfl
        | 5, _, ho => cases ho; rfl
        | 6, _, ho => cases ho; rfl
        | 7, _, ho => cases ho; rfl
        | 8, _, ho => cases ho; rfl
        | 9, _, ho => cases ho; rfl
        | 10, _, ho => cases ho; rfl
        | 11, _, ho => cases ho; rfl
        | 12, _, ho => cases ho; rfl
        | n + 13, hi, _ => exact absurd hi (by omega)
      case step =>
        intro f a' W i o hib ho hfi hpre hT hrest hdf
        match i, hib, ho with
        | 0, _, ho =>
          cases ho
          have q0 : a'.tmps.getD 0 undef = .pointer (some ⟨T, 0, none⟩) := (hrest 0 (by intro i hi; show 20 + min i 12 ≠ _; omega))
          have e0 := rg_ev q0
          exact rg_same3 (.pointer (some ⟨T, 0, none⟩)) (by unfold Oper.wp execOp; go_simp; all_goals ((try simp only [e0]); (try go_simp); first | done | rfl | exact ⟨rfl, rfl⟩ | trivial)) rfl (hT.step 0 (by decide)) (fun j v' h => adF_up 0 h)
        | 1, _, ho =>
          cases ho
          have q0 : a'.tmps.getD 0 undef = .pointer (some ⟨T, 0, none⟩) := (hrest 0 (by intro i hi; show 20 + min i 12 ≠ _; omega))
          have e0 := rg_ev q0
          exact rg_same3 (.pointer (some ⟨T, 0, none⟩)) (by unfold Oper.wp execOp; go_simp; all_goals ((try simp only [e0]); (try go_simp); first | done | rfl | exact ⟨rfl, rfl⟩ | trivial)) rfl (hT.step 1 (by decide)) (fun j v' h => adF_up 1 h)
        | 2, _, ho =>
          cases ho
          have q21 : a'.tmps.getD 21 undef = .pointer (some ⟨T, 0, none⟩) := (hpre { on := 1, ground := .data } (by simp) rfl).2
          have e21 := rg_ev q21
          exact rg_same3 (.pointer (some ⟨T, 0, none⟩)) (by unfold Oper.wp execOp; go_simp; all_goals ((try simp only [e21]); (try go_simp); first | done | rfl | exact ⟨rfl, rfl⟩ | trivial)) rfl (hT.step 2 (by decide)) (fun j v' h => adF_up 2 h)
        | 3, _, ho =>
          cases ho
          have q22 : a'.tmps.getD 22 undef = .pointer (some ⟨T, 0, none⟩) := (hpre { on := 2, ground := .data } (by simp) rfl).2
          have e22 := rg_ev q22
          exact rg_same3 (.pointer (some ⟨T, 0, none⟩)) (by unfold Oper.wp execOp; go_simp; all_goals ((try simp only [e22]); (try go_simp); first | done | rfl | exact ⟨rfl, rfl⟩ | trivial)) rfl (hT.step 3 (by decide)) (fun j v' h => adF_up 3 h)
        | 4, _, ho =>
          cases ho
          have q23 : a'.tmps.getD 23 undef = .pointer (some ⟨T, 0, none⟩) := (hpre { on := 3, ground := .data } (by simp) rfl).2
          have e23 := rg_ev q23
          exact rg_same3 (.pointer (some ⟨T, 0, none⟩)) (by unfold Oper.wp execOp; go_simp; all_goals ((try simp only [e23]); (try go_simp); first | done | rfl | exact ⟨rfl, rfl⟩ | trivial)) rfl (hT.step 4 (by decide)) (fun j v' h => adF_up 4 h)
        | 5, _, ho =>
          cases ho
          have q24 : a'.tmps.getD 24 undef = .pointer (some ⟨T, 0, none⟩) := (hpre { on := 4, ground := .data } (by simp) rfl).2
          have hcT : W.cell? ⟨T, 0, none⟩ = some (.slice pv n cv) := by
            have h := (hT.gr.block T HTL4.out HTO.out).trans HTC.out
            simp [World.cell?, h]
          have e24 := rg_ev q24
          exact rg_same3 (.slice pv n cv) (by unfold Oper.wp execOp; go_simp; all_goals ((try simp only [e24]); (try go_simp); first | done | rfl | exact ⟨rfl, rfl⟩ | trivial)) rfl (hT.step 5 (by decide)) (fun j v' h => adF_up 5 h)
        | 6, _, ho =>
          cases ho
          have q1 : a'.tmps.getD 1 undef = .string s := (hrest 1 (by intro i hi; show 20 + min i 12 ≠ _; omega))
          have e1 := rg_ev q1
          exact rg_same3 (.string s) (by unfold Oper.wp execOp; go_simp; all_goals ((try simp only [e1]); (try go_simp); first | done | rfl | exact ⟨rfl, rfl⟩ | trivial)) rfl (hT.step 6 (by decide)) (fun j v' h => adF_up 6 h)
        | 7, _, ho =>
          cases ho
          have q26 : a'.tmps.getD 26 undef = .string s := (hpre { on := 6, ground := .data } (by simp) rfl).2
          have hbl := hT.bel (hT.n7 hfi)
          refine rg_call 26 37 #[9] (.string s) _ rfl q26 (enters_of Tryz.func37 (by kernel_rfl) rfl) (rt_read s W HSS.out (HK4.out.below hbl)) (fun e w' h => ?_)
          obtain ⟨⟨L', r, h1, h2, h3⟩ | ⟨h1, _⟩, hb⟩ := h
          · rw [HPR.out] at h1
            cases h1
            exact ⟨r, h2, r, rfl, fun _ => h3, (hT.step 7 (by decide)).moved (fun h => ((hT.step 7 (by decide)).bel h).trans (hb.mono hbl.size)) (hT.n7 hfi), fun j v' _ hF => adF_up 7 (adF_below hb hF)⟩
          · rw [HPR.out] at h1
            cases h1
        | 8, _, ho =>
          cases ho
          have h27 := (hpre { on := 7, ground := .data } (by simp) rfl).2
          have hbl := hT.bel (hT.n8 hfi)
          have hP : PtO W (a'.tmps.getD 27 undef) L := h27 (hT.n8 hfi)
          obtain ⟨y, hy⟩ : ∃ z, a'.tmps.getD 27 undef = z := ⟨_, rfl⟩
          rw [hy] at hP
          obtain ⟨yp, yc, rfl⟩ := hP.pts.slice
          have e27 := rg_ev hy
          have ha := (Below.refl W.heap.size W).alloc (Nat.le_refl _) (.cells #[.slice yp L.length yc] 87)
          unfold Oper.wp execOp
          go_simp
          (try simp only [e27])
          (try go_simp)
          refine ⟨_, rfl, fun _ => ⟨W.heap.size, .slice yp L.length yc, rfl, World.alloc_heap_new _ _, hP.below ha⟩, ?_, fun j v' _ hF => ?_⟩
          · have h5 := (hT.step 8 (by decide)).moved (fun h => ((hT.step 8 (by decide)).bel h).trans (ha.mono hbl.size)) (hT.n8 hfi)
            simpa using h5
          · have h5 := adF_up 8 (adF_below ha hF)
            simpa using h5
        | 9, _, ho =>
          cases ho
          have q25 : a'.tmps.getD 25 undef = .slice pv n cv := (hpre { on := 5, ground := .data } (by simp) rfl).2
          have f27 := (hpre { on := 7, ground := .chain } (by simp) rfl).1
          have f28 := (hpre { on := 8, ground := .data } (by simp) rfl).1
          obtain ⟨g, r, q28, hg, hP⟩ := (hpre { on := 8, ground := .data } (by simp) rfl).2 hfi
          have hbl := hT.bel hfi
          obtain ⟨vals, hv1, hv2, hv3⟩ := HO.out.below hbl
          obtain ⟨rp, rc, rfl⟩ := hP.pts.slice
          rw [HNL.out] at hv2
          have q25b : a'.eval (.tmp 25) = .slice pv n cv := q25
          have q28b : a'.eval (.tmp 28) = .slice (some ⟨g, 0, none⟩) 1 1 := q28
          refine wp_append_blk _ _ 70 rfl B 87 i0 (.slice none 0 0) 1 24 Tryz.underlying70 hi hz0 hz1 hz2 rfl (by decide) _ n vals q25b hv2 ⟨g, 0, none⟩ 1 1 [.slice rp L.length rc] q28b rfl ?_ ?_ (by have := HN4.out; unfold maxLen; omega) (by have := HN4.out; omega) (Nat.le_trans HBW.out hbl.size) ?_
          · intro j u hj
            match j, hj with
            | 0, hj => simp at hj; subst hj; simp [Addr.add, World.cell?, hg]
          · intro u hu; simp at hu; subst hu; rfl
          · intro v' w' hown' hgrow hblk
            refine ⟨v', rfl, ⟨OPat.put hv1 (by rw [HNL.out]; exact hv2) hv3 hP (by rw [HNL.out]; exact hown') hgrow, hblk.imp id (fun h k hk => ?_)⟩, ⟨?_, fun h => by simp at h, fun h => ?_, fun h => ?_⟩, fun j u hj hF => ?_⟩
            · rw [h] at hk; cases hk; exact hbl.size
            · exact ⟨hgrow.os.trans hbl.os, hgrow.tape.trans hbl.tape, hgrow.output.trans hbl.output, Nat.le_trans hbl.size hgrow.size, fun k hk hne => (hgrow.block k (Nat.lt_of_lt_of_le hk hbl.size) hne).trans (hbl.block k hk)⟩
            · simp [f27] at h
            · simp [f28] at h
            · match j, hF with
              | 0, h | 1, h | 2, h | 3, h | 4, h | 5, h | 6, h | 10, h | 11, h | 12, h => exact h
              | 7, h => exact fun e => by simp at e
              | 8, h => exact fun e => by simp at e
              | 9, h => rw [hfi] at hj; cases hj
              | n + 13, h => exact h.elim
        | 10, _, ho =>
          cases ho
          have q20 : a'.tmps.getD 20 undef = .pointer (some ⟨T, 0, none⟩) := (hpre { on := 0, ground := .data } (by simp) rfl).2
          have e20 := rg_ev q20
          exact rg_same3 (.pointer (some ⟨T, 0, none⟩)) (by unfold Oper.wp execOp; go_simp; all_goals ((try simp only [e20]); (try go_simp); first | done | rfl | exact ⟨rfl, rfl⟩ | trivial)) rfl (hT.step 10 (by decide)) (fun j v' h => adF_up 10 h)
        | 11, _, ho =>
          cases ho
          have q30 : a'.tmps.getD 30 undef = .pointer (some ⟨T, 0, none⟩) := (hpre { on := 10, ground := .data } (by simp) rfl).2
          have e30 := rg_ev q30
          exact rg_same3 (.pointer (some ⟨T, 0, none⟩)) (by unfold Oper.wp execOp; go_simp; all_goals ((try simp only [e30]); (try go_simp); first | done | rfl | exact ⟨rfl, rfl⟩ | trivial)) rfl (hT.step 11 (by decide)) (fun j v' h => adF_up 11 h)
        | 12, _, ho =>
          cases ho
          have q31 : a'.tmps.getD 31 undef = .pointer (some ⟨T, 0, none⟩) := (hpre { on := 11, ground := .data } (by simp) rfl).2
          have e31 := rg_ev q31
          exact rg_same3 (.pointer (some ⟨T, 0, none⟩)) (by unfold Oper.wp execOp; go_simp; all_goals ((try simp only [e31]); (try go_simp); first | done | rfl | exact ⟨rfl, rfl⟩ | trivial)) rfl (hT.step 12 (by decide)) (fun j v' h => adF_up 12 h)
        | n + 13, hib, _ => exact absurd hib (by omega)
      case last =>
        intro f vs W oL ho hall hT hvs
        have hopL : oL.op = Op.store 70 (.tmp 32) (.tmp 29) := by cases ho; rfl
        have hdsL : oL.dst = none := by cases ho; rfl
        clear ho hall
        have v0 : vs 0 = .pointer (some ⟨T, 0, none⟩) := hvs 0 (by decide)
        have v1 : vs 1 = .pointer (some ⟨T, 0, none⟩) := hvs 1 (by decide)
        have v2 : vs 2 = .pointer (some ⟨T, 0, none⟩) := hvs 2 (by decide)
        have v3 : vs 3 = .pointer (some ⟨T, 0, none⟩) := hvs 3 (by decide)
        have v4 : vs 4 = .pointer (some ⟨T, 0, none⟩) := hvs 4 (by decide)
        have v5 : vs 5 = .slice pv n cv := hvs 5 (by decide)
        have v6 : vs 6 = .string s := hvs 6 (by decide)
        obtain ⟨y7, v7, w27⟩ : ∃ z, vs 7 = z ∧ adF T B n cv pv s L Ls w2 f 7 W z := ⟨_, rfl, hvs 7 (by decide)⟩
        obtain ⟨y8, v8, w28⟩ : ∃ z, vs 8 = z ∧ adF T B n cv pv s L Ls w2 f 8 W z := ⟨_, rfl, hvs 8 (by decide)⟩
        obtain ⟨y9, v9, w29⟩ : ∃ z, vs 9 = z ∧ adF T B n cv pv s L Ls w2 f 9 W z := ⟨_, rfl, hvs 9 (by decide)⟩
        have v10 : vs 10 = .pointer (some ⟨T, 0, none⟩) := hvs 10 (by decide)
        have v11 : vs 11 = .pointer (some ⟨T, 0, none⟩) := hvs 11 (by decide)
        have v12 : vs 12 = .pointer (some ⟨T, 0, none⟩) := hvs 12 (by decide)
        simp only [fillN, List.size_toArray, List.length_cons, List.length_nil, Nat.reduceAdd, show List.range 13 = [0, 1, 2, 3, 4, 5, 6, 7, 8, 9, 10, 11, 12] from rfl, List.foldl_cons, List.foldl_nil, show 20 + min 0 12 = 20 from rfl, show 20 + min 1 12 = 21 from rfl, show 20 + min 2 12 = 22 from rfl, show 20 + min 3 12 = 23 from rfl, show 20 + min 4 12 = 24 from rfl, show 20 + min 5 12 = 25 from rfl, show 20 + min 6 12 = 26 from rfl, show 20 + min 7 12 = 27 from rfl, show 20 + min 8 12 = 28 from rfl, show 20 + min 9 12 = 29 from rfl, show 20 + min 10 12 = 30 from rfl, show 20 + min 11 12 = 31 from rfl, show 20 + min 12 12 = 32 from rfl, v0, v1, v2, v3, v4, v5, v6, v7, v8, v9, v10, v11, v12]
        clear v0 v1 v2 v3 v4 v5 v6 v7 v8 v9 v10 v11 v12 hvs
        obtain ⟨hp9, hb9⟩ := w29
        obtain ⟨p9, c9, rfl⟩ := hp9.slice
        obtain ⟨vals0, _, hrow0, _⟩ := HO.out
        have hTW := (hT.gr.block T HTL4.out HTO.out).trans HTC.out
        have hHW := (hT.gr.block H (by rw [HSZ4.out]; omega) (own_cells hrow0 (by decide) HD0.out)).trans HD0.out
        have hEW := (hT.gr.block (H + 1) (by rw [HSZ4.out]; omega) (own_cells hrow0 (by decide) HD1.out)).trans HD1.out
        have hcT : W.cell? ⟨T, 0, none⟩ = some (.slice pv n cv) := by simp [World.cell?, hTW]
        have hzT : W.frozen? ⟨T, 0, none⟩ = false := frozen_of_row _ _ _ _ _ hTW
        have HP9 := Lib.hid hp9
        have HB9 := Lib.hid hb9
        have HTW := Lib.hid hTW
        have HHW := Lib.hid hHW
        have HEW := Lib.hid hEW
        have HGR := Lib.hid hT.gr
        obtain ⟨m, hm⟩ : ∃ m, (Ls ++ [L]).length = m := ⟨_, rfl⟩
        rw [hm]
        have HM := Lib.hid hm
        clear hp9 hb9 w27 w28 hrow0 hTW hHW hEW hT hm d0
        go_simp
        obtain ⟨W5, hW5⟩ : ∃ Z, W.setCell ⟨T, 0, none⟩ (.slice p9 m c9) = Z := ⟨_, rfl⟩
        have HW5 := Lib.hid hW5
        have hh5 : W5.heap[H]? = some (.cells #[.int .i64 n] 3 (0, 0)) := by rw [← hW5, Below.heap_setCell _ _ _ _ (by show H ≠ T; have := HTL.out; omega)]; exact HHW.out
        have he5 : W5.heap[H + 1]? = some (.cells #[.int .i64 0] 24 (0, 0)) := by rw [← hW5, Below.heap_setCell _ _ _ _ (by show H + 1 ≠ T; have := HTL.out; omega)]; exact HEW.out
        have HH5 := Lib.hid hh5
        have HE5 := Lib.hid he5
        have ch5 : W5.cell? ⟨H, 0, none⟩ = some (.int .i64 n) := by simp [World.cell?, hh5]
        have ce5 : W5.cell? ⟨H + 1, 0, none⟩ = some (.int .i64 0) := by simp [World.cell?, he5]
        have zh5 : W5.frozen? ⟨H, 0, none⟩ = false := frozen_of_row _ _ _ _ _ hh5
        have ze5 : W5.frozen? ⟨H + 1, 0, none⟩ = false := frozen_of_row _ _ _ _ _ he5
        have k0' : (W5.setCell ⟨H, 0, none⟩ (.int .i64 n)).cell? ⟨H + 1, 0, none⟩ = some (.int .i64 0) := by rw [World.cell?_setCell_other]; exact ce5; simp
        have z0' : (W5.setCell ⟨H, 0, none⟩ (.int .i64 n)).frozen? ⟨H + 1, 0, none⟩ = false := by simpa using ze5
        rw [hW5]
        clear hW5 hh5 he5 hcT hzT
        go_wp2_with fail
        refine leaves_cons (f := 35) (args := #[.pointer (some ⟨H + 1, 0, none⟩), .func (.func 52) #[] #[.pointer (some ⟨H, 0, none⟩)]]) (by simp) (by simp [go_sem]) ?_
        refine (rt_caught_idle _ _ _).mono ?_
        rintro e u' w'' ⟨rfl, rfl, rfl⟩
        have r1 : ((W5.setCell ⟨H, 0, none⟩ (.int .i64 n)).setCell ⟨H + 1, 0, none⟩ (.int .i64 0)).heap[H]? = some (.cells #[.int .i64 n] 3 (0, 0)) := by
          rw [Below.heap_setCell _ _ _ _ (by simp)]
          have h := heap_setCell_same W5 H 0 _ _ (.int .i64 n) HH5.out
          simpa using h
        have r2 : ((W5.setCell ⟨H, 0, none⟩ (.int .i64 n)).setCell ⟨H + 1, 0, none⟩ (.int .i64 0)).heap[H + 1]? = some (.cells #[.int .i64 0] 24 (0, 0)) := by
          have h0 : (W5.setCell ⟨H, 0, none⟩ (.int .i64 n)).heap[H + 1]? = some (.cells #[.int .i64 0] 24 (0, 0)) := by rw [Below.heap_setCell _ _ _ _ (by simp)]; exact HE5.out
          have h := heap_setCell_same (W5.setCell ⟨H, 0, none⟩ (.int .i64 n)) (H + 1) 0 _ _ (.int .i64 0) h0
          simpa using h
        have s1 : ((W5.setCell ⟨H, 0, none⟩ (.int .i64 n)).setCell ⟨H + 1, 0, none⟩ (.int .i64 0)).cell? ⟨H, 0, none⟩ = some (.int .i64 n) := by simp [World.cell?, r1]
        have s2 : ((W5.setCell ⟨H, 0, none⟩ (.int .i64 n)).setCell ⟨H + 1, 0, none⟩ (.int .i64 0)).cell? ⟨H + 1, 0, none⟩ = some (.int .i64 0) := by simp [World.cell?, r2]
        simp [Leaves, settle, results, Tryz.results25, go_sem, s1, s2]
        have hzW : W5.heap.size = W.heap.size := by rw [← HW5.out]; simp
        have hws : w.heap.size ≤ w2.heap.size := HB4.out.size
        have ht5 : W5.heap[T]? = some (.cells #[.slice p9 m c9, .bool true] 74 (0, 0)) := by
          have h := heap_setCell_same W T 0 _ _ (.slice p9 m c9) HTW.out
          rw [← HW5.out]; simpa using h
        have hwH := HH.out
        have hTH := HTL.out
        refine .inl ⟨HLT.out, L, .slice p9 m c9, HPR.out, by rw [HNL.out], ⟨?_, ?_⟩, ?_, ?_, ?_, ?_, ?_, ?_⟩
        · rw [Below.heap_setCell _ _ _ _ (by show T ≠ H + 1; omega), Below.heap_setCell _ _ _ _ (by show T ≠ H; omega)]
          exact ht5
        · have h9 : OPat W B (.slice p9 m c9) (Ls ++ [L]) := by rw [← HM.out]; exact HP9.out
          have h5 : OPat W5 B (.slice p9 m c9) (Ls ++ [L]) := by rw [← HW5.out]; exact h9.set1 HTW.out (by decide) (by decide) 0 _
          have h6 := h5.set1 HH5.out (by decide) (by decide) 0 (.int .i64 n)
          exact h6.set1 (k := H + 1) (by rw [Below.heap_setCell _ _ _ _ (by simp)]; exact HE5.out) (by decide) (by decide) 0 _
        · have h := HB9.out
          rw [HM.out] at h
          exact h.imp id (fun h k hk => Nat.le_trans hws (h k hk))
        · (try simp); rw [← HW5.out]; (try simp); exact HGR.out.os.trans HB4.out.os
        · (try simp); rw [← HW5.out]; (try simp); exact HGR.out.tape.trans HB4.out.tape
        · (try simp); rw [← HW5.out]; (try simp); exact HGR.out.output.trans HB4.out.output
        · simp; rw [hzW]; exact Nat.le_trans hws HGR.out.size
        · intro b hb hbT hbo
          rw [Below.heap_setCell _ _ _ _ (by show b ≠ H + 1; omega), Below.heap_setCell _ _ _ _ (by show b ≠ H; omega), ← HW5.out, Below.heap_setCell _ _ _ _ (by show b ≠ T; exact hbT), HGR.out.block b (Nat.lt_of_lt_of_le hb hws) hbo]
          exact HB4.out.block b hb
  · have h1 : ((n : Int) < 256) = False := by simp; omega
    have h2 : decide ((n : Int) < 256) = false := decide_eq_false (by omega)
    have HGT := Lib.hid (show 256 ≤ Ls.length by rw [HNL.out]; omega)
    clear h256
    go_enter_defers Tryz.func25, Tryz.ntmps25
    go_wp2_with fail
    rw [HH.out, HW3.out]
    refine KN.out.mono ?_
    rintro e w5 ⟨rfl, hw5⟩
    subst w5
    go_wp2_with fail
    refine (rt_must 1 _).mono ?_
    rintro e w5 ⟨rfl, hw5⟩
    subst w5
    go_wp2_with (rw [HW4.out])
    refine (rt_must_no 3 _).mono ?_
    rintro e w5 ⟨rfl, hw5⟩
    subst w5
    refine add_door 3 _ H (.int .i64 n) W4 (fun e w' => AdOut w T B (.slice pv n cv) Ls (Ro.parse s.data.toList) e w') (.inr (.inr ⟨HGT.out, rfl, (HB4.out.setCell (Nat.le_of_eq HH.out) _).setCell (by show w.heap.size ≤ H + 1; rw [HH.out]; omega) _⟩)) HD0.out HD1.out ?h4 ?h5
    all_goals rfl
end Go.Proofs.YtgfammlmbjmkoaaGreatDoor

/- route: New, its list's row told. -/
namespace Go.Proofs.YtgfammlmbjmkoaaGreatDoor
set_option linter.unusedVariables false
set_option linter.unusedSimpArgs false
open Go.RowKit Go.Shelf
set_option maxHeartbeats 8000000
set_option maxRecDepth 100000
theorem own_lower {w : World} {B C : Nat} {e : TypeId} {s : Nat} {v : Value} {n : Nat} {xs : List Value} (h : w.ownsRow B e s v n xs) (hC : C ≤ B) : w.ownsRow C e s v n xs := by
  refine ⟨h.1, h.2.imp id ?_⟩
  rintro ⟨g, cap, cur, h1, h2, h3⟩
  exact ⟨g, cap, cur, h1, Nat.le_trans hC h2, h3⟩
theorem OPat.lower {w : World} {B C : Nat} {v : Value} {Ls : List (List Ro.Pt)} (h : OPat w B v Ls) (hC : C ≤ B) : OPat w C v Ls := by
  obtain ⟨vals, h1, h2, h3⟩ := h
  exact ⟨vals, h1, own_lower h2 hC, h3⟩
theorem TBB.set1 {w : World} {T B : Nat} {v : Value} {Ls : List (List Ro.Pt)} (h : TBB w T B v Ls) {k : Nat} {cs : Array Value} {t : TypeId} {fr : Nat × Nat} (hk : w.heap[k]? = some (.cells cs t fr)) (h1 : t ≠ 87) (h2 : t ≠ 35) (h3 : t ≠ 74) (i : Nat) (y : Value) : TBB (w.setCell ⟨k, i, none⟩ y) T B v Ls := by
  obtain ⟨h4, h5⟩ := h
  refine ⟨(Below.heap_setCell _ _ _ _ ?_).trans h4, h5.set1 hk h1 h2 i y⟩
  intro e
  have : T = k := by simpa using e
  subst this
  rw [h4] at hk
  simp at hk
  exact h3 hk.2.1.symm
theorem OPat.own {w : World} {B : Nat} {v : Value} {Ls : List (List Ro.Pt)} (h : OPat w B v Ls) : ∀ k, v.ownBlock = some k → B ≤ k := by
  obtain ⟨vals, _, h2, _⟩ := h
  exact own_geP h2
/-- what New tells, its list's row too -/
def NwOutB (B : Nat) (L : List (List UInt8)) (e : Ending) (w : World) : Prop :=
  (∃ R T v, L.length ≤ 256 ∧ Gt.all? Ro.parse L = some R ∧ e = .returned (.tuple #[.pointer (some ⟨T, 0, none⟩), .int .i64 0]) ∧ TBB w T B v R ∧ B ≤ T) ∨
  (L.length ≤ 256 ∧ Gt.all? Ro.parse L = none ∧ e = .returned (.tuple #[.pointer none, .int .i64 360])) ∨ (256 < L.length ∧ e = .returned (.tuple #[.pointer none, .int .i64 3]))
theorem rt_NewB (v : Value) (L : List (List UInt8)) (w : World) (hv : XS w v L) (hL : L.length ≤ 100000) (hl : ∀ s ∈ L, s.length ≤ 30000) (hk : KX w) :
    Calls Tryz.prog 24 #[v] w fun e w' => NwOutB w.heap.size L e w' ∧ Below w.heap.size w w' := by
  have hmf : ∀ (fn : Fn) (first cap : Array Value) (w : World), (Instr.makeFunc fn first cap).run Tryz.prog w = .ok (.func fn first cap) w := fun _ _ _ _ => rfl
  obtain ⟨W3, hW3⟩ : ∃ W, (w.alloc (.cells #[.pointer none] 47)).alloc (.cells #[.int .i64 0] 24) = W := ⟨_, rfl⟩
  have HSZ := Lib.hid (show W3.heap.size = w.heap.size + 2 by rw [← hW3]; simp)
  have HB := Lib.hid (show Below w.heap.size w W3 by
    rw [← hW3]
    exact ((Below.refl _ _).alloc (Nat.le_refl _) _).alloc (by simp) _)
  have HC0 := Lib.hid (show W3.heap[w.heap.size]? = some (.cells #[.pointer none] 47 (0, 0)) by
    rw [← hW3, Below.heap_alloc _ _ _ (by simp)]
    exact World.alloc_heap_new _ _)
  have HC1 := Lib.hid (show W3.heap[w.heap.size + 1]? = some (.cells #[.int .i64 0] 24 (0, 0)) by
    rw [← hW3]
    have := World.alloc_heap_new (w.alloc (.cells #[.pointer none] 47)) (.cells #[.int .i64 0] 24)
    simpa using this)
  have HW3 := Lib.hid hW3
  obtain ⟨p, c, rfl⟩ := hv.slice
  obtain ⟨N, hN⟩ : ∃ N, L.length = N := ⟨_, rfl⟩
  have HN := Lib.hid hN
  have KM := Lib.hid (rt_madeT _ L W3 (hv.below HB.out) hL hl (hk.below HB.out))
  rw [hN] at KM hL ⊢
  clear hW3 hv hl hk hN
  by_cases h256 : N ≤ 256
  · have h1 : decide ((N : Int) ≤ 256) = true := decide_eq_true (by omega)
    have HLE := Lib.hid (show L.length ≤ 256 by rw [HN.out]; exact h256)
    clear h256
    go_enter_defers Tryz.func24, Tryz.ntmps24
    go_wp2_with fail
    rw [HW3.out]
    refine (rt_must 3 _).mono ?_
    rintro e w4 ⟨rfl, hw4⟩
    subst w4
    go_wp2_with fail
    refine KM.out.mono ?_
    rintro e w5 ⟨⟨R, r, hR, rfl, ho⟩ | ⟨hR, rfl⟩, hb⟩
    · have HB5 := Lib.hid (HB.out.trans (hb.mono HB.out.size))
      have HD0 := Lib.hid ((hb.block _ (by rw [HSZ.out]; omega)).trans HC0.out)
      have HD1 := Lib.hid ((hb.block _ (by rw [HSZ.out]; omega)).trans HC1.out)
      have HO := Lib.hid ho
      have HR := Lib.hid hR
      have HZ5 := Lib.hid (show w.heap.size + 2 ≤ w5.heap.size by rw [← HSZ.out]; exact hb.size)
      obtain ⟨q, d, rfl⟩ := ho.slice
      obtain ⟨W6, hW6⟩ : ∃ Z, w5.alloc (.cells #[.slice q R.length d, .bool true] 74) = Z := ⟨_, rfl⟩
      have hb6 : Below w5.heap.size w5 W6 := by rw [← hW6]; exact (Below.refl _ _).alloc (Nat.le_refl _) _
      have HT := Lib.hid (show TBB W6 w5.heap.size w.heap.size (.slice q R.length d) R from ⟨by rw [← hW6]; exact World.alloc_heap_new _ _, (HO.out.below hb6).lower HB.out.size⟩)
      have hd0 := (hb6.block _ (by have := HZ5.out; omega)).trans HD0.out
      have hd1 := (hb6.block _ (by have := HZ5.out; omega)).trans HD1.out
      have HE0 := Lib.hid hd0
      have HE1 := Lib.hid hd1
      have HB6 := Lib.hid (HB5.out.trans (hb6.mono HB5.out.size))
      have c0 : W6.cell? ⟨w.heap.size, 0, none⟩ = some (.pointer none) := by simp [World.cell?, hd0]
      have c1 : W6.cell? ⟨w.heap.size + 1, 0, none⟩ = some (.int .i64 0) := by simp [World.cell?, hd1]
      have z0 : W6.frozen? ⟨w.heap.size, 0, none⟩ = false := frozen_of_row _ _ _ _ _ hd0
      have z1 : W6.frozen? ⟨w.heap.size + 1, 0, none⟩ = false := frozen_of_row _ _ _ _ _ hd1
      have HW6 := Lib.hid hW6
      clear hb ho hR hb6 hd0 hd1 hW6 KM
      go_wp2_with (rw [HW6.out])
      refine leaves_cons (f := 35) (args := #[.pointer (some ⟨w.heap.size + 1, 0, none⟩), .func (.func 49) #[] #[.pointer (some ⟨w.heap.size, 0, none⟩)]]) (by simp) (by simp [go_sem]) ?_
      refine (rt_caught_idle _ _ _).mono ?_
      rintro e u' w'' ⟨rfl, rfl, rfl⟩
      simp [Leaves, settle, results, Tryz.results24, go_sem, c0, c1]
      exact ⟨.inl ⟨R, _, _, HLE.out, HR.out, rfl, (HT.out.set1 HE0.out (by decide) (by decide) (by decide) 0 _).set1 (by rw [Below.heap_setCell _ _ _ _ (by simp)]; exact HE1.out) (by decide) (by decide) (by decide) 0 _, HB5.out.size⟩, (HB6.out.setCell (Nat.le_refl _) _).setCell (Nat.le_succ _) _⟩
    · have k := new_door 360 w w5 (fun e w' => NwOutB w.heap.size L e w' ∧ Below w.heap.size w w') ⟨.inr (.inl ⟨HLE.out, hR, rfl⟩), (((HB.out.trans (hb.mono HB.out.size)).setCell (Nat.le_refl _) _).setCell (Nat.le_succ _) _)⟩ ((hb.block _ (by rw [HSZ.out]; omega)).trans HC0.out) ((hb.block _ (by rw [HSZ.out]; omega)).trans HC1.out)
      exact k _ _ _ _ _ _ _ _ _ _ _
  · have h1 : decide ((N : Int) ≤ 256) = false := decide_eq_false (by omega)
    have HGT := Lib.hid (show 256 < L.length by rw [HN.out]; omega)
    clear h256
    go_enter_defers Tryz.func24, Tryz.ntmps24
    go_wp2_with fail
    rw [HW3.out]
    refine (rt_must_no 3 _).mono ?_
    rintro e w4 ⟨rfl, hw4⟩
    subst w4
    have k := new_door 3 w W3 (fun e w' => NwOutB w.heap.size L e w' ∧ Below w.heap.size w w') ⟨.inr (.inr ⟨HGT.out, rfl⟩), ((HB.out.setCell (Nat.le_refl _) _).setCell (Nat.le_succ _) _)⟩ HC0.out HC1.out
    exact k _ _ _ _ _ _ _ _ _ _ _

/-- what an Add keeps, of a text of one's own kind of cells -/
theorem AK.blk {w w' : World} {T B : Nat} {v : Value} {Ls : List (List Ro.Pt)} (h : AK w T v w') (ht : TBB w T B v Ls) {k : Nat} {cs : Array Value} {t : TypeId} {fr : Nat × Nat} (hk : w.heap[k]? = some (.cells cs t fr)) (h1 : t ≠ 87) (h2 : t ≠ 74) : w'.heap[k]? = some (.cells cs t fr) := by
  obtain ⟨ht1, vals, _, hr, _⟩ := ht
  refine (h.block k (Array.getElem?_eq_some_iff.1 hk).1 ?_ (own_cells hr h1 hk)).trans hk
  rintro rfl
  rw [ht1] at hk
  simp at hk
  exact h2 hk.2.1.symm
theorem AK.row {w w' : World} {T B C : Nat} {v u : Value} {Ls : List (List Ro.Pt)} {e : TypeId} {n : Nat} {xs : List Value} (h : AK w T v w') (ht : TBB w T B v Ls) (ho : w.ownsRow C e 1 u n xs) (h1 : e ≠ 87) (h2 : e ≠ 74) : w'.ownsRow C e 1 u n xs := by
  refine ⟨ho.1, ho.2.imp id ?_⟩
  rintro ⟨g, cap, cur, h3, h4, h5, h6⟩
  exact ⟨g, cap, cur, h3, h4, h.blk ht h5 h1 h2, h6⟩
theorem AK.below {w w' : World} {T C : Nat} {v : Value} (h : AK w T v w') (hC : C ≤ w.heap.size) (hT : C ≤ T) (hv : ∀ k, v.ownBlock = some k → C ≤ k) : Below C w w' :=
  ⟨h.os, h.tape, h.output, h.size, fun k hk => h.block k (by omega) (by omega) (fun e => by have := hv k e.symm; omega)⟩
end Go.Proofs.YtgfammlmbjmkoaaGreatDoor

/- The reference's New and Find. -/
namespace Go.Proofs.YtgfammlmbjmkoaaGreatDoor
set_option linter.unusedVariables false
set_option linter.unusedSimpArgs false
open Go.RowKit Go.Shelf
set_option maxHeartbeats 4000000
set_option maxRecDepth 100000
theorem all_at {α β : Type} {f : α → Option β} : ∀ {L : List α} {R : List β}, Gt.all? f L = some R → ∀ k (hk : k < L.length), ∃ hr : k < R.length, f L[k] = some R[k]
  | [], R, h, k, hk => absurd hk (Nat.not_lt_zero _)
  | x :: L, R, h, k, hk => by
    cases hx : f x with
    | none => rw [Gt.all_none hx] at h; cases h
    | some y =>
      rw [Gt.all_some hx] at h
      cases hl : Gt.all? f L with
      | none => rw [hl] at h; cases h
      | some R' =>
        rw [hl] at h
        cases h
        cases k with
        | zero => exact ⟨Nat.zero_lt_succ _, hx⟩
        | succ k =>
          obtain ⟨h1, h2⟩ := all_at hl k (Nat.lt_of_succ_lt_succ hk)
          exact ⟨Nat.succ_lt_succ h1, h2⟩
/-- what the reference's New tells -/
def rnOut (L : List (List UInt8)) : Int := if 256 < L.length then 3 else rtErr (Gt.all? Ro.parse L)
theorem rf_New (v : Value) (L : List (List UInt8)) (w : World) (hv : XS w v L) (hL : L.length ≤ 100000) (hl : ∀ s ∈ L, s.length ≤ 30000) :
    Calls Tryz.prog 28 #[v] w fun e w' => e = .returned (.int .i64 (rnOut L)) ∧ Below w.heap.size w w' := by
  obtain ⟨p, c, rfl⟩ := hv.slice
  obtain ⟨n, hn⟩ : ∃ n, L.length = n := ⟨_, rfl⟩
  rw [hn] at hv hL ⊢
  obtain ⟨R, hR⟩ : ∃ R, rnOut L = R := ⟨_, rfl⟩
  rw [hR]
  have HV := Lib.hid hv
  have HN := Lib.hid hn
  have HR := Lib.hid hR
  have HLL := Lib.hid hl
  clear hv hn hR hl
  by_cases h256 : 256 < n
  · have hI : (256 : Int) < (n : Int) := by omega
    have HY := Lib.hid (show R = 3 by rw [← HR.out]; unfold rnOut; rw [if_pos (by rw [HN.out]; exact h256)])
    go_enter Tryz.func28, Tryz.ntmps28
    go_wp2_with fail
    go_ret
    exact ⟨by rw [HY.out]; rfl, Below.refl _ _⟩
  · have hI : ¬ (256 : Int) < (n : Int) := by omega
    have HY := Lib.hid (show R = rtErr (Gt.all? Ro.parse L) by rw [← HR.out]; unfold rnOut; rw [if_neg (by rw [HN.out]; exact h256)])
    have hnb : n ≤ 256 := by omega
    clear h256
    go_enter Tryz.func28, Tryz.ntmps28
    go_wp2_with fail
    go_loopw [3] (fun i wr => ∃ (k : Nat) (acc : List (List Ro.Pt)), k ≤ n ∧ i = .int .i64 k ∧ Gt.AAt Ro.parse L acc k ∧ Below w.heap.size w wr) (fun i _ => n - (intOf i).toNat)
    case atStart => exact ⟨0, [], Nat.zero_le _, rfl, Gt.aAt_start _ _, Below.refl _ _⟩
    case round =>
      obtain ⟨k, acc, hk, rfl, hat, hbl⟩ := hrel
      have HAT := Lib.hid hat
      have HBL := Lib.hid hbl
      clear hat hbl
      by_cases hlt : k < n
      · have HLK := Lib.hid (show k < L.length by rw [HN.out]; exact hlt)
        have hI1 : ((k : Int) < (n : Int)) := by omega
        obtain ⟨b, off, rfl, hc⟩ := HV.out.cells HLK.out
        have x0 := (HBL.out.cell (p := ⟨b, off + k, none⟩) (lt_of_cell (hc k HLK.out))).trans (hc k HLK.out)
        have HQ := Lib.hid (getD_is L [] k HLK.out)
        obtain ⟨q, hq⟩ : ∃ q, L.getD k [] = q := ⟨_, rfl⟩
        rw [hq] at x0 HQ
        obtain ⟨qb, hqb, hql⟩ := sv_is q
        rw [hqb] at x0
        have HQB := Lib.hid hql
        have HSS := Lib.hid (show qb.size ≤ 30000 by
          have h1 := HLL.out _ (List.getElem_mem HLK.out)
          rw [← HQ.out, ← hql] at h1; exact h1)
        have K := Lib.hid (rf_Parse qb wr HSS.out)
        rw [HQB.out] at K
        clear hc hq hqb hql
        cases ho : Ro.parse q with
        | none =>
          rw [ho] at K
          have HNO := Lib.hid (show R = 360 by rw [HY.out, Gt.aAt_bad HAT.out HLK.out (by rw [← HQ.out]; exact ho)]; rfl)
          clear ho
          go_wp2_with fail
          refine K.out.mono ?_
          rintro e w2 ⟨h, hb⟩
          have HB := Lib.hid (HBL.out.trans (hb.mono HBL.out.size))
          obtain rfl := h
          clear hb
          go_wp2_with fail
          go_ret
          exact ⟨by rw [HNO.out]; rfl, HB.out⟩
        | some q' =>
          rw [ho] at K
          have HNX := Lib.hid (Gt.aAt_next HAT.out HLK.out (by rw [← HQ.out]; exact ho))
          clear ho
          go_wp2_with fail
          refine K.out.mono ?_
          rintro e w2 ⟨h, hb⟩
          have HB := Lib.hid (HBL.out.trans (hb.mono HBL.out.size))
          obtain ⟨r, rfl, hp⟩ := h
          obtain ⟨rp, rc, rfl⟩ := hp.slice
          clear hb hp
          go_wp2_with fail
          try go_roundw
          case rel => exact ⟨k + 1, acc ++ [q'], hlt, by go_num, HNX.out, HB.out⟩
          case measure => simp [intOf]; omega
      · have hI1 : ¬ ((k : Int) < (n : Int)) := by omega
        have HYES := Lib.hid (show R = 0 by rw [HY.out, Gt.aAt_end HAT.out (by rw [HN.out]; omega)]; rfl)
        go_wp2_with fail
        go_ret
        exact ⟨by rw [HYES.out]; rfl, HBL.out⟩
theorem rf_Find (v u : Value) (L P : List (List UInt8)) (Ls : List (List Ro.Pt)) (w : World) (hv : XS w v L) (hu : XS w u P) (hL : L.length ≤ 100000) (hP : P.length ≤ 100000) (hl : ∀ s ∈ L, s.length ≤ 30000) (ha : Gt.all? Ro.parse L = some Ls) :
    Calls Tryz.prog 29 #[v, u] w fun e w' => e = fdOut (Ro.place (fun L => Ro.fits L P) Ls) ∧ Below w.heap.size w w' := by
  obtain ⟨p, c, rfl⟩ := hv.slice
  obtain ⟨p2, c2, rfl⟩ := hu.slice
  obtain ⟨n, hn⟩ : ∃ n, L.length = n := ⟨_, rfl⟩
  obtain ⟨m, hm⟩ : ∃ n, P.length = n := ⟨_, rfl⟩
  rw [hn] at hv hL ⊢
  rw [hm] at hu hP ⊢
  obtain ⟨R, hR⟩ : ∃ R, Ro.place (fun L => Ro.fits L P) Ls = R := ⟨_, rfl⟩
  rw [hR]
  have HV := Lib.hid hv
  have HU := Lib.hid hu
  have HN := Lib.hid hn
  have HM := Lib.hid hm
  have HR := Lib.hid hR
  have HLL := Lib.hid hl
  have HA := Lib.hid ha
  have HSN := Lib.hid (show Ls.length = n by rw [← hn]; exact Gt.all_length ha)
  clear hv hu hn hm hR hl ha
  go_enter Tryz.func29, Tryz.ntmps29
  go_wp2_with fail
  go_loopw [6] (fun i wr => ∃ k : Nat, k ≤ n ∧ i = .int .i64 k ∧ (∀ j, j < k → Ro.fits (Ls.getD j []) P = false) ∧ Below w.heap.size w wr) (fun i _ => n - (intOf i).toNat)
  case atStart => exact ⟨0, Nat.zero_le _, rfl, fun j hj => absurd hj (Nat.not_lt_zero _), Below.refl _ _⟩
  case round =>
    obtain ⟨k, hk, rfl, hat, hbl⟩ := hrel
    have HAT := Lib.hid hat
    have HBL := Lib.hid hbl
    clear hat hbl
    by_cases hlt : k < n
    · have HLK := Lib.hid (show k < L.length by rw [HN.out]; exact hlt)
      have HLS := Lib.hid (show k < Ls.length by rw [HSN.out]; exact hlt)
      have hI1 : ((k : Int) < (n : Int)) := by omega
      obtain ⟨b, off, rfl, hc⟩ := HV.out.cells HLK.out
      have x0 := (HBL.out.cell (p := ⟨b, off + k, none⟩) (lt_of_cell (hc k HLK.out))).trans (hc k HLK.out)
      have HQ := Lib.hid (getD_is L [] k HLK.out)
      obtain ⟨q, hq⟩ : ∃ q, L.getD k [] = q := ⟨_, rfl⟩
      rw [hq] at x0 HQ
      obtain ⟨qb, hqb, hql⟩ := sv_is q
      rw [hqb] at x0
      have HQB := Lib.hid hql
      have HSS := Lib.hid (show qb.size ≤ 30000 by
        have h1 := HLL.out _ (List.getElem_mem HLK.out)
        rw [← HQ.out, ← hql] at h1; exact h1)
      have HPQ := Lib.hid (show Ro.parse q = some (Ls.getD k []) by
        obtain ⟨h1, h2⟩ := all_at HA.out k HLK.out
        rw [HQ.out, h2, getD_is Ls [] k h1])
      have K := Lib.hid (rf_Fits qb (.slice p2 m c2) P wr HSS.out (HU.out.below HBL.out) (by rw [HM.out]; exact hP))
      rw [HQB.out, Ro.fitsT_some HPQ.out] at K
      clear hc hq hqb hql
      cases hf : Ro.fits (Ls.getD k []) P with
      | true =>
        rw [hf] at K
        have HYES := Lib.hid (show R = k by rw [← HR.out]; exact Ro.place_at HLS.out HAT.out hf)
        clear hf
        go_wp2_with fail
        refine K.out.mono ?_
        rintro e w2 ⟨rfl, hb⟩
        have HB := Lib.hid (HBL.out.trans (hb.mono HBL.out.size))
        clear hb
        go_wp2_with fail
        go_ret2
        exact ⟨by rw [HYES.out]; unfold fdOut; rw [decide_eq_true (by omega), show max 0 (k : Int) = k by omega]; rfl, HB.out⟩
      | false =>
        rw [hf] at K
        have HNX := Lib.hid (show ∀ j, j < k + 1 → Ro.fits (Ls.getD j []) P = false by
          intro j hj
          by_cases hjk : j = k
          · subst hjk; exact hf
          · exact HAT.out j (by omega))
        clear hf
        go_wp2_with fail
        refine K.out.mono ?_
        rintro e w2 ⟨rfl, hb⟩
        have HB := Lib.hid (HBL.out.trans (hb.mono HBL.out.size))
        clear hb
        go_wp2_with fail
        try go_roundw
        case rel => exact ⟨k + 1, hlt, by go_num, HNX.out, HB.out⟩
        case measure => simp [intOf]; omega
    · have hI1 : ¬ ((k : Int) < (n : Int)) := by omega
      have HNO := Lib.hid (show R = -1 by rw [← HR.out]; exact Ro.place_none (fun j hj => HAT.out j (by rw [HSN.out] at hj; omega)))
      go_wp2_with fail
      go_ret2
      exact ⟨by rw [HNO.out]; rfl, HBL.out⟩
end Go.Proofs.YtgfammlmbjmkoaaGreatDoor

/- route: Equal, EqualFunc at patterns; Same, Copy. -/
namespace Go.Proofs.YtgfammlmbjmkoaaGreatDoor
set_option linter.unusedVariables false
set_option linter.unusedSimpArgs false
open Go.RowKit Go.Shelf
set_option maxHeartbeats 4000000
set_option maxRecDepth 100000
theorem sl_equalP (v u : Value) (L P : List Ro.Pt) (w : World) (hv : PtS w v L) (hu : PtS w u P) (hL : L.length ≤ 100000) (hP : P.length ≤ 100000) :
    Calls Tryz.prog 61 #[v, u] w fun e w' => e = .returned (.bool (decide (L = P))) ∧ ∃ n, w' = w.drewN n := by
  obtain ⟨p1, c1, rfl⟩ := hv.slice
  obtain ⟨p2, c2, rfl⟩ := hu.slice
  obtain ⟨n, hn⟩ : ∃ n, L.length = n := ⟨_, rfl⟩
  obtain ⟨m, hm⟩ : ∃ n, P.length = n := ⟨_, rfl⟩
  obtain ⟨R, hR⟩ : ∃ R, decide (L = P) = R := ⟨_, rfl⟩
  rw [hn] at hv hL ⊢
  rw [hm] at hu hP ⊢
  rw [hR]
  have HV := Lib.hid hv
  have HU := Lib.hid hu
  have HN := Lib.hid hn
  have HM := Lib.hid hm
  have HR := Lib.hid hR
  clear hv hu hn hm hR
  by_cases hne : n = m
  · subst hne
    go_enter Tryz.func61, Tryz.ntmps61
    go_wp2_with fail
    go_loopw [13] (fun i wr => ∃ k j : Nat, k ≤ n ∧ i = .int .i64 k ∧ wr = w.drewN j ∧ L.take k = P.take k) (fun i _ => n - (intOf i).toNat)
    case atStart => exact ⟨0, 0, Nat.zero_le _, rfl, rfl, rfl⟩
    case round =>
      obtain ⟨k, j, hk, rfl, rfl, htk⟩ := hrel
      have HT := Lib.hid htk
      clear htk
      by_cases hlt : k < n
      · have HLK := Lib.hid (show k < L.length by rw [HN.out]; exact hlt)
        have HPK := Lib.hid (show k < P.length by rw [HM.out]; exact hlt)
        obtain ⟨b, off, rfl, _, _, _, hc⟩ := HV.out.cells HLK.out
        obtain ⟨g, o, rfl, _, _, _, hcu⟩ := HU.out.cells HPK.out
        have x0 := (hc k HLK.out).1
        have x1 := (hc k HLK.out).2
        have y0 := (hcu k HPK.out).1
        have y1 := (hcu k HPK.out).2
        have HK1 := Lib.hid (take_gd L (0, []) k HLK.out)
        have HK2 := Lib.hid (take_gd P (0, []) k HPK.out)
        obtain ⟨⟨kd, tl⟩, hq⟩ : ∃ q, L.getD k (0, []) = q := ⟨_, rfl⟩
        obtain ⟨⟨pd, pl⟩, hpl⟩ : ∃ q, P.getD k (0, []) = q := ⟨_, rfl⟩
        rw [hq] at x0 x1 HK1
        rw [hpl] at y0 y1 HK2
        simp only at x0 x1 y0 y1
        obtain ⟨tb, htb, htl⟩ := sv_is tl
        obtain ⟨pb, hpb, hpd⟩ := sv_is pl
        rw [htb] at x1
        rw [hpb] at y1
        have HQ := Lib.hid hq
        have HPL := Lib.hid hpl
        obtain ⟨d, hd⟩ : ∃ d, decide (((kd, tl) : Ro.Pt) = (pd, pl)) = d := ⟨_, rfl⟩
        have hne2 := part_ne kd pd tb pb
        rw [htl, hpd, hd] at hne2
        have HD := Lib.hid hd
        clear hc hcu hq hpl htb htl hpb hpd hd
        cases d with
        | false =>
          have HNO := Lib.hid (show R = false by
            rw [← HR.out]
            refine decide_eq_false (fun h => of_decide_eq_false HD.out ?_)
            rw [← HQ.out, ← HPL.out, h])
          go_wp2_with fail
          go_quiet (fail)
          go_wp2_with fail
          go_ret
          exact ⟨by rw [HNO.out]; rfl, j + nq, by rw [World.drewN_drewN]⟩
        | true =>
          have HE := Lib.hid (of_decide_eq_true HD.out)
          go_wp2_with fail
          go_quiet (fail)
          go_wp2_with fail
          go_roundw
          case rel => exact ⟨k + 1, j + nq, hlt, by go_num, by first | rfl | rw [World.drewN_drewN], by rw [HK1.out, HK2.out, HT.out, HE.out]⟩
          case measure => simp [intOf]; omega
      · have HYES := Lib.hid (show R = true by
          rw [← HR.out]
          refine decide_eq_true ?_
          have := HT.out
          rwa [List.take_of_length_le (by rw [HN.out]; omega), List.take_of_length_le (by rw [HM.out]; omega)] at this)
        go_wp2_with fail
        go_ret
        exact ⟨by rw [HYES.out]; rfl, _, rfl⟩
  · have HNO := Lib.hid (show R = false by
      rw [← HR.out]
      exact decide_eq_false (fun h => hne (by rw [← HN.out, ← HM.out, h])))
    have h1 : ((n : Int) != (m : Int)) = true := bne_iff_ne.2 (by omega)
    have h2 : ((n : Int) == (m : Int)) = false := beq_eq_false_iff_ne.2 (by omega)
    go_enter Tryz.func61, Tryz.ntmps61
    go_wp2_with fail
    go_ret
    exact ⟨by rw [HNO.out]; rfl, 0, rfl⟩
theorem same1_enter (args : Array Value) (W : World) : (callFunc 60 args).run Tryz.prog W = .ok (.enter 60 args) W := by
  simp [callFunc, go_sem, Tryz.func60]
  rw [if_neg (by decide), if_neg (by decide)]
theorem rt_same1 (v u : Value) (L P : List Ro.Pt) (w : World) (hv : PtS w v L) (hu : PtS w u P) (hL : L.length ≤ 100000) (hP : P.length ≤ 100000) :
    Calls Tryz.prog 60 #[v, u] w fun e w' => e = .returned (.bool (decide (L = P))) ∧ ∃ n, w' = w.drewN n := by
  have K := Lib.hid (sl_equalP v u L P w hv hu hL hP)
  obtain ⟨p1, c1, rfl⟩ := hv.slice
  obtain ⟨p2, c2, rfl⟩ := hu.slice
  obtain ⟨n, hn⟩ : ∃ n, L.length = n := ⟨_, rfl⟩
  obtain ⟨m, hm⟩ : ∃ n, P.length = n := ⟨_, rfl⟩
  obtain ⟨R, hR⟩ : ∃ R, decide (L = P) = R := ⟨_, rfl⟩
  rw [hn, hm, hR] at K
  rw [hn, hm, hR]
  clear hn hm hR hv hu hL hP
  go_enter Tryz.func60, Tryz.ntmps60
  go_wp2_with fail
  refine K.out.mono ?_
  rintro e w2 ⟨rfl, j, rfl⟩
  go_wp2_with fail
  go_ret
  exact ⟨rfl, j, rfl⟩
theorem Small.at_ {Ls : List (List Ro.Pt)} (h : Small Ls) {k : Nat} (hk : k < Ls.length) : (Ls.getD k []).length ≤ 2000 := by
  rw [getD_is Ls [] k hk]
  exact (h.2 _ (List.getElem_mem hk)).1
theorem rt_equalF (v u : Value) (Ls Rs : List (List Ro.Pt)) (w : World) (hv : PSl w v Ls) (hu : PSl w u Rs) (hsv : Small Ls) (hsu : Small Rs) :
    Calls Tryz.prog 59 #[v, u, .func (.func 60) #[] #[]] w fun e w' => e = .returned (.bool (decide (Ls = Rs))) ∧ Below w.heap.size w w' := by
  have hce := same1_enter
  obtain ⟨p1, c1, rfl⟩ := hv.slice
  obtain ⟨p2, c2, rfl⟩ := hu.slice
  obtain ⟨n, hn⟩ : ∃ n, Ls.length = n := ⟨_, rfl⟩
  obtain ⟨m, hm⟩ : ∃ n, Rs.length = n := ⟨_, rfl⟩
  obtain ⟨R, hR⟩ : ∃ R, decide (Ls = Rs) = R := ⟨_, rfl⟩
  rw [hn] at hv ⊢
  rw [hm] at hu ⊢
  rw [hR]
  have HV := Lib.hid hv
  have HU := Lib.hid hu
  have HN := Lib.hid hn
  have HM := Lib.hid hm
  have HR := Lib.hid hR
  have HSV := Lib.hid hsv
  have HSU := Lib.hid hsu
  have hnb : n ≤ 1000 := by rw [← hn]; exact hsv.1
  clear hv hu hR hsv hsu
  by_cases hne : n = m
  · subst hne
    clear hn hm
    go_enter Tryz.func59, Tryz.ntmps59
    go_wp2_with fail
    go_loopw [17] (fun i wr => ∃ k : Nat, k ≤ n ∧ i = .int .i64 k ∧ Below w.heap.size w wr ∧ Ls.take k = Rs.take k) (fun i _ => n - (intOf i).toNat)
    case atStart => exact ⟨0, Nat.zero_le _, rfl, Below.refl _ _, rfl⟩
    case round =>
      obtain ⟨k, hk, rfl, hbl, htk⟩ := hrel
      have HT := Lib.hid htk
      have HBL := Lib.hid hbl
      clear htk
      by_cases hlt : k < n
      · have HLK := Lib.hid (show k < Ls.length by rw [HN.out]; exact hlt)
        have HPK := Lib.hid (show k < Rs.length by rw [HM.out]; exact hlt)
        obtain ⟨b, off, rfl, hb, hc⟩ := HV.out.cells HLK.out
        obtain ⟨g, o, rfl, hg, hcu⟩ := HU.out.cells HPK.out
        obtain ⟨x, hx, hxp⟩ := hc k HLK.out
        obtain ⟨y, hy, hyp⟩ := hcu k HPK.out
        have x0 := (hbl.cell (p := ⟨b, off + k, none⟩) hb).trans hx
        have y0 := (hbl.cell (p := ⟨g, o + k, none⟩) hg).trans hy
        have HK1 := Lib.hid (take_gd Ls [] k HLK.out)
        have HK2 := Lib.hid (take_gd Rs [] k HPK.out)
        have K := Lib.hid (rt_same1 x y _ _ wr (hxp.below HBL.out) (hyp.below HBL.out) (by have := HSV.out.at_ HLK.out; omega) (by have := HSU.out.at_ HPK.out; omega))
        obtain ⟨xp, xc, rfl⟩ := hxp.slice
        obtain ⟨yp, yc, rfl⟩ := hyp.slice
        obtain ⟨l1, hl1⟩ : ∃ z, Ls.getD k [] = z := ⟨_, rfl⟩
        obtain ⟨l2, hl2⟩ : ∃ z, Rs.getD k [] = z := ⟨_, rfl⟩
        have HL1 := Lib.hid hl1
        have HL2 := Lib.hid hl2
        rw [hl1] at x0 K HK1
        rw [hl2] at y0 K HK2
        obtain ⟨d, hd⟩ : ∃ d, decide (l1 = l2) = d := ⟨_, rfl⟩
        have HD := Lib.hid hd
        rw [hd] at K
        obtain ⟨n1, hn1⟩ : ∃ z, l1.length = z := ⟨_, rfl⟩
        obtain ⟨n2, hn2⟩ : ∃ z, l2.length = z := ⟨_, rfl⟩
        rw [hn1] at x0 K
        rw [hn2] at y0 K
        clear hbl hc hcu hb hg hx hy hxp hyp hl1 hl2 hd hn1 hn2
        cases d with
        | false =>
          have HNO := Lib.hid (show R = false by
            rw [← HR.out]
            refine decide_eq_false (fun h => of_decide_eq_false HD.out ?_)
            rw [← HL1.out, ← HL2.out, h])
          go_wp2_with fail
          refine K.out.mono ?_
          rintro e w2 ⟨rfl, j, rfl⟩
          have HB2 := Lib.hid (below_drewN HBL.out j)
          go_wp2_with fail
          go_ret
          exact ⟨by rw [HNO.out]; rfl, HB2.out⟩
        | true =>
          have HE := Lib.hid (of_decide_eq_true HD.out)
          go_wp2_with fail
          refine K.out.mono ?_
          rintro e w2 ⟨rfl, j, rfl⟩
          have HB2 := Lib.hid (below_drewN HBL.out j)
          go_wp2_with fail
          try go_roundw
          case rel => exact ⟨k + 1, hlt, by go_num, HB2.out, by rw [HK1.out, HK2.out, HT.out, HE.out]⟩
          case measure => simp [intOf]; omega
      · have HYES := Lib.hid (show R = true by
          rw [← HR.out]
          refine decide_eq_true ?_
          have := HT.out
          rwa [List.take_of_length_le (by rw [HN.out]; omega), List.take_of_length_le (by rw [HM.out]; omega)] at this)
        go_wp2_with fail
        go_ret
        exact ⟨by rw [HYES.out]; rfl, HBL.out⟩
  · have HNO := Lib.hid (show R = false by
      rw [← HR.out]
      exact decide_eq_false (fun h => hne (by rw [← HN.out, ← HM.out, h])))
    have h1 : ((n : Int) != (m : Int)) = true := bne_iff_ne.2 (by omega)
    have h2 : ((n : Int) == (m : Int)) = false := beq_eq_false_iff_ne.2 (by omega)
    clear hn hm
    go_enter Tryz.func59, Tryz.ntmps59
    go_wp2_with fail
    go_ret
    exact ⟨by rw [HNO.out]; rfl, Below.refl _ _⟩
theorem rt_Copy (T : Nat) (Ls : List (List Ro.Pt)) (w : World) (h : TB w T Ls) (hl : Ls.length ≤ 100000) :
    Calls Tryz.prog 33 #[.pointer (some ⟨T, 0, none⟩)] w fun e w' => ∃ C v, e = .returned (.pointer (some ⟨C, 0, none⟩)) ∧ TBB w' C w.heap.size v Ls ∧ w.heap.size ≤ C ∧ Below w.heap.size w w' := by
  obtain ⟨B, v, h1, h2⟩ := h
  have KN := Lib.hid (rt_none T w v true h1)
  have KC := Lib.hid (sl_cloneT v B Ls w h2 hl)
  obtain ⟨p, c, rfl⟩ := h2.slice
  have k0 : w.cell? ⟨T, 0, none⟩ = some (.slice p Ls.length c) := by simp [World.cell?, h1]
  obtain ⟨n, hn⟩ : ∃ n, Ls.length = n := ⟨_, rfl⟩
  rw [hn] at KC k0
  clear h1 h2 hl
  go_enter Tryz.func33, Tryz.ntmps33
  go_wp2_with fail
  refine KN.out.mono ?_
  rintro e wx ⟨rfl, hwx⟩
  subst wx
  go_wp2_with fail
  refine KC.out.mono ?_
  rintro e w2 ⟨r, rfl, ho, hb⟩
  have HO := Lib.hid ho
  have HB := Lib.hid hb
  obtain ⟨q, d, rfl⟩ := ho.slice
  obtain ⟨W3, hW3⟩ : ∃ Z, w2.alloc (.cells #[.slice q Ls.length d, .bool true] 74) = Z := ⟨_, rfl⟩
  have hb3 : Below w2.heap.size w2 W3 := by rw [← hW3]; exact (Below.refl _ _).alloc (Nat.le_refl _) _
  have HT := Lib.hid (show TBB W3 w2.heap.size w.heap.size (.slice q Ls.length d) Ls from ⟨by rw [← hW3]; exact World.alloc_heap_new _ _, HO.out.below hb3⟩)
  have HB3 := Lib.hid (hb.trans (hb3.mono hb.size))
  have HW3 := Lib.hid hW3
  have HSZ := Lib.hid hb.size
  clear ho hb hb3 hW3 KN KC
  go_wp2_with fail
  go_ret
  have h := HW3.out
  rw [hn] at h
  rw [h]
  exact ⟨_, _, rfl, HT.out, HSZ.out, HB3.out⟩
theorem rt_Copy_nil (w : World) :
    Calls Tryz.prog 33 #[.pointer none] w fun e w' => e = .returned (.pointer none) ∧ w' = w := by
  have KN := Lib.hid (rt_none_nil w)
  go_enter Tryz.func33, Tryz.ntmps33
  go_wp2_with fail
  refine KN.out.mono ?_
  rintro e wx ⟨rfl, hwx⟩
  subst wx
  go_wp2_with fail
  go_ret
  exact ⟨rfl, rfl⟩
end Go.Proofs.YtgfammlmbjmkoaaGreatDoor

/- route: Same. -/
namespace Go.Proofs.YtgfammlmbjmkoaaGreatDoor
set_option linter.unusedVariables false
set_option linter.unusedSimpArgs false
open Go.RowKit Go.Shelf
set_option maxHeartbeats 4000000
set_option maxRecDepth 100000
theorem rt_Same (T C : Nat) (Ls Rs : List (List Ro.Pt)) (w : World) (h : TB w T Ls) (hc : TB w C Rs) (hsl : Small Ls) (hsr : Small Rs) :
    Calls Tryz.prog 34 #[.pointer (some ⟨T, 0, none⟩), .pointer (some ⟨C, 0, none⟩)] w fun e w' => e = .returned (.bool (decide (Ls = Rs))) ∧ Below w.heap.size w w' := by
  obtain ⟨B, v, h1, h2⟩ := h
  obtain ⟨D, u, h3, h4⟩ := hc
  have KN := Lib.hid (rt_none T w v true h1)
  have KM := Lib.hid (rt_none C w u true h3)
  have KE := Lib.hid (fun W (hb : Below w.heap.size w W) => rt_equalF v u Ls Rs W (h2.below hb).psl (h4.below hb).psl hsl hsr)
  obtain ⟨p, c, rfl⟩ := h2.slice
  obtain ⟨q, d, rfl⟩ := h4.slice
  have k0 : w.cell? ⟨T, 0, none⟩ = some (.slice p Ls.length c) := by simp [World.cell?, h1]
  have k1 : w.cell? ⟨C, 0, none⟩ = some (.slice q Rs.length d) := by simp [World.cell?, h3]
  obtain ⟨n, hn⟩ : ∃ n, Ls.length = n := ⟨_, rfl⟩
  obtain ⟨m, hm⟩ : ∃ n, Rs.length = n := ⟨_, rfl⟩
  obtain ⟨R, hR⟩ : ∃ R, decide (Ls = Rs) = R := ⟨_, rfl⟩
  rw [hn] at k0 KE
  rw [hm] at k1 KE
  rw [hR] at KE ⊢
  clear h1 h2 h3 h4 hsl hsr hn hm hR
  go_enter Tryz.func34, Tryz.ntmps34
  go_wp2_with fail
  refine KN.out.mono ?_
  rintro e wx ⟨rfl, hwx⟩
  subst wx
  go_wp2_with fail
  refine KM.out.mono ?_
  rintro e wx ⟨rfl, hwx⟩
  subst wx
  go_wp2_with fail
  go_region_with (go_at_call 59; refine (KE.out _ ?_).mono ?_; exact (Below.refl _ _).drew; rintro e w2 ⟨rfl, hb⟩)
  all_goals
    have HB2 := Lib.hid ((Below.refl w.heap.size w).drew.trans hb)
    clear hb
    go_wp2_with fail
    go_ret
    exact ⟨rfl, HB2.out⟩
theorem rt_Same_nil (w : World) :
    Calls Tryz.prog 34 #[.pointer none, .pointer none] w fun e w' => e = .returned (.bool true) ∧ w' = w := by
  have KN := Lib.hid (rt_none_nil w)
  go_enter Tryz.func34, Tryz.ntmps34
  go_wp2_with fail
  refine KN.out.mono ?_
  rintro e wx ⟨rfl, hwx⟩
  subst wx
  go_wp2_with fail
  refine KN.out.mono ?_
  rintro e wx ⟨rfl, hwx⟩
  subst wx
  go_wp2_with fail
  refine KN.out.mono ?_
  rintro e wx ⟨rfl, hwx⟩
  subst wx
  go_wp2_with fail
  go_ret
  exact ⟨rfl, rfl⟩
end Go.Proofs.YtgfammlmbjmkoaaGreatDoor

/- The reference's Shadows. -/
namespace Go.Proofs.YtgfammlmbjmkoaaGreatDoor
set_option linter.unusedVariables false
set_option linter.unusedSimpArgs false
open Go.RowKit Go.Shelf
set_option maxHeartbeats 4000000
set_option maxRecDepth 100000
def prsV (l : List (Nat × Int)) : List Value := l.flatMap fun q => [.int .i64 q.1, .int .i64 q.2]
theorem prsV_snoc (l : List (Nat × Int)) (q : Nat × Int) : prsV (l ++ [q]) = prsV l ++ [.int .i64 q.1, .int .i64 q.2] := by unfold prsV; simp
namespace Ro
theorem take_getD {α : Type} (L : List α) (d : α) {i j : Nat} (h : j < i) : (L.take i).getD j d = L.getD j d := by
  simp [List.getD_eq_getElem?_getD, List.getElem?_take_of_lt h]
theorem shp_yes {Ls : List (List Pt)} {i q : Nat} (hi : i ≤ Ls.length) (hq : q < i) (h : ∀ j, j < q → covers (Ls.getD j []) (Ls.getD i []) = false) (hc : covers (Ls.getD q []) (Ls.getD i []) = true) : shp Ls i = q :=
  place_at (by rw [List.length_take]; omega) (fun j hj => by rw [take_getD Ls [] (by omega)]; exact h j hj) (by rw [take_getD Ls [] hq]; exact hc)
theorem shp_no {Ls : List (List Pt)} {i : Nat} (h : ∀ j, j < i → covers (Ls.getD j []) (Ls.getD i []) = false) : shp Ls i = -1 :=
  place_none (fun j hj => by rw [List.length_take] at hj; rw [take_getD Ls [] (by omega)]; exact h j (by omega))
end Ro
theorem own_slP {w : World} {B : Nat} {e : TypeId} {s : Nat} {v : Value} {n : Nat} {xs : List Value} (h : w.ownsRow B e s v n xs) : ∃ p c, v = .slice p n c := by
  rcases h.2 with ⟨rfl, h0⟩ | ⟨g, cap, cur, rfl, _⟩
  · exact ⟨none, 0, by rw [h0]⟩
  · exact ⟨_, _, rfl⟩
theorem rf_Shadows (v : Value) (L : List (List UInt8)) (Ls : List (List Ro.Pt)) (w : World) (hv : XS w v L) (hL : L.length ≤ 1000) (hl : ∀ s ∈ L, s.length ≤ 30000) (ha : Gt.all? Ro.parse L = some Ls) :
    Calls Tryz.prog 32 #[v] w fun e w' => ∃ r, e = .returned r ∧ w'.ownsRow w.heap.size 65 2 r (Ro.shs Ls Ls.length).length (prsV (Ro.shs Ls Ls.length)) ∧ Below w.heap.size w w' := by
  obtain ⟨i0, hi, hz0, hz1, hz2⟩ := info_parts (show (Tryz.prog.info? 65).map (fun i => (i.zero, i.size, i.bytes)) = some (some (.agg #[.int .i64 0, .int .i64 0]), 2, 16) by kernel_rfl)
  obtain ⟨p, c, rfl⟩ := hv.slice
  obtain ⟨n, hn⟩ : ∃ n, L.length = n := ⟨_, rfl⟩
  obtain ⟨B, hB⟩ : ∃ B, w.heap.size = B := ⟨_, rfl⟩
  rw [hn] at hv hL ⊢
  have HV := Lib.hid hv
  have HN := Lib.hid hn
  have HLL := Lib.hid hl
  have HA := Lib.hid ha
  have HBB := Lib.hid hB
  have HSN := Lib.hid (show Ls.length = n by rw [← hn]; exact Gt.all_length ha)
  have HSH := Lib.hid (Ro.shs_len Ls)
  rw [hB]
  clear hv hn hl ha hB
  go_enter Tryz.func32, Tryz.ntmps32
  go_wp2_with fail
  go_loopw [3, 4] (fun v3 i wr => ∃ k : Nat, k ≤ n ∧ i = .int .i64 k ∧ wr.ownsRow B 65 2 v3 (Ro.shs Ls k).length (prsV (Ro.shs Ls k)) ∧ Below B w wr) (fun _ i _ => n - (intOf i).toNat)
  case atStart => exact ⟨0, Nat.zero_le _, rfl, World.ownsRow_nil _ _ _ _, Below.refl _ _⟩
  case round =>
    obtain ⟨k, hk, rfl, hown, hbl⟩ := hrel
    have HO := Lib.hid hown
    have HBL := Lib.hid hbl
    have HKS := Lib.hid (HSH.out k)
    obtain ⟨acc, hacc⟩ : ∃ z, Ro.shs Ls k = z := ⟨_, rfl⟩
    have HACC := Lib.hid hacc
    rw [hacc] at HO hown HKS
    obtain ⟨p3, c3, rfl⟩ := own_slP hown
    obtain ⟨na, hna⟩ : ∃ z, acc.length = z := ⟨_, rfl⟩
    have HNA := Lib.hid hna
    rw [hna] at HO HKS ⊢
    clear hown hbl hacc hna
    by_cases hlt : k < n
    · have HLK := Lib.hid (show k < L.length by rw [HN.out]; exact hlt)
      have hI1 : ((k : Int) < (n : Int)) := by omega
      obtain ⟨wo, rfl⟩ : ∃ z, z = wr := ⟨_, rfl⟩
      obtain ⟨b, off, rfl, hc⟩ := HV.out.cells HLK.out
      have HC := Lib.hid hc
      have HBW := Lib.hid (lt_of_cell (hc k HLK.out))
      clear hc
      go_wp2_with fail
      go_loopw [3, 5] (fun v q wr => ∃ j : Nat, j ≤ k ∧ v = .slice p3 na c3 ∧ q = .int .i64 j ∧ (∀ x, x < j → Ro.covers (Ls.getD x []) (Ls.getD k []) = false) ∧ Below wo.heap.size wo wr) (fun _ q _ => k - (intOf q).toNat)
      case atStart => exact ⟨0, Nat.zero_le _, rfl, rfl, fun x hx => absurd hx (Nat.not_lt_zero _), Below.refl _ _⟩
      case round =>
        obtain ⟨j, hj, rfl, rfl, hat, hbi⟩ := hrel
        have HAT := Lib.hid hat
        have HBI := Lib.hid hbi
        have HBT := Lib.hid (HBL.out.trans (hbi.mono (by have h := HBL.out.size; rw [HBB.out] at h; exact h)))
        clear hat hbi
        by_cases hjk : j < k
        · have hI2 : ((j : Int) < (k : Int)) := by omega
          have HJK := Lib.hid hjk
          have HJL := Lib.hid (show j < L.length by have := HLK.out; omega)
          have x0 := (HBT.out.cell (p := ⟨b, off + j, none⟩) (by rw [← HBB.out]; exact HBW.out)).trans (HC.out j HJL.out)
          have x1 := (HBT.out.cell (p := ⟨b, off + k, none⟩) (by rw [← HBB.out]; exact HBW.out)).trans (HC.out k HLK.out)
          obtain ⟨q, hq⟩ : ∃ q, L.getD j [] = q := ⟨_, rfl⟩
          obtain ⟨r, hr⟩ : ∃ q, L.getD k [] = q := ⟨_, rfl⟩
          rw [hq] at x0
          rw [hr] at x1
          obtain ⟨qb, hqb, hql⟩ := sv_is q
          obtain ⟨rb, hrb, hrl⟩ := sv_is r
          rw [hqb] at x0
          rw [hrb] at x1
          have K := Lib.hid (fun W => rf_Covers qb rb W (by
            have h1 := HLL.out _ (List.getElem_mem HJL.out)
            rw [← getD_is L [] j HJL.out, hq, ← hql] at h1; exact h1) (by
            have h1 := HLL.out _ (List.getElem_mem HLK.out)
            rw [← getD_is L [] k HLK.out, hr, ← hrl] at h1; exact h1))
          have p0 : Ro.parse qb.data.toList = some (Ls.getD j []) := by
            obtain ⟨h1, h2⟩ := all_at HA.out j HJL.out
            rw [hql, ← hq, getD_is L [] j HJL.out, h2, getD_is Ls [] j h1]
          have p1 : Ro.parse rb.data.toList = some (Ls.getD k []) := by
            obtain ⟨h1, h2⟩ := all_at HA.out k HLK.out
            rw [hrl, ← hr, getD_is L [] k HLK.out, h2, getD_is Ls [] k h1]
          rw [Ro.coversT_some p0 p1] at K
          obtain ⟨d, hd⟩ : ∃ d, Ro.covers (Ls.getD j []) (Ls.getD k []) = d := ⟨_, rfl⟩
          rw [hd] at K
          have HD := Lib.hid hd
          clear hq hr hqb hql hrb hrl p0 p1 hd hjk
          cases d with
          | false =>
            have HNX := Lib.hid (show ∀ x, x < j + 1 → Ro.covers (Ls.getD x []) (Ls.getD k []) = false by
              intro x hx
              by_cases hxj : x = j
              · subst hxj; exact HD.out
              · exact HAT.out x (by omega))
            go_wp2_with fail
            go_region_with (go_at_call 23; refine (K.out _).mono ?_; rintro e w2 ⟨rfl, hb⟩)
            all_goals
              have HB2 := Lib.hid (HBI.out.trans (((Below.refl wr.heap.size wr).drew.trans hb).mono HBI.out.size))
              clear hb
              go_wp2_with fail
              try go_roundw
              try (case rel => exact ⟨j + 1, HJK.out, rfl, by have := HJK.out; go_num, HNX.out, HB2.out⟩)
              try (case measure => have := HJK.out; simp [intOf]; omega)
          | true =>
            have HSY := Lib.hid (Ro.shp_yes (Ls := Ls) (i := k) (by rw [HSN.out]; omega) HJK.out HAT.out HD.out)
            have HYES := Lib.hid (Ro.shs_yes (Ls := Ls) (k := k) (by rw [HSY.out]; omega))
            go_wp2_with fail
            go_region_with (go_at_call 23; refine (K.out _).mono ?_; rintro e w2 ⟨rfl, hb⟩)
            all_goals
              have HB2 := Lib.hid (HBT.out.trans (((Below.refl wr.heap.size wr).drew.trans hb).mono (by have h := HBT.out.size; rw [HBB.out] at h; exact h)))
              have HO2 := Lib.hid (HO.out.belowed (HBI.out.trans (((Below.refl wr.heap.size wr).drew.trans hb).mono HBI.out.size)))
              clear hb
              go_wp2_with (at_builtin; refine wpList_append_own _ rfl _ _ 63 rfl B 65 i0 (.agg #[.int .i64 0, .int .i64 0]) 2 16 Tryz.underlying63 hi hz0 hz1 hz2 rfl (by decide) _ _ _ rfl (HO2.out.alloc _) ⟨w2.heap.size, 0, none⟩ 1 1 [.int .i64 k, .int .i64 j] rfl rfl ?d1 ?d2 ?d3 ?d4 ?d5 ?_)
              try (case d1 =>
                intro x u hx
                match x, hx with
                | 0, hx => simp at hx; subst hx; simp [Addr.add]
                | 1, hx => simp at hx; subst hx; simp [Addr.add])
              try (case d2 => intro u hu; simp at hu; rcases hu with rfl | rfl <;> rfl)
              try (case d3 => have := HKS.out; unfold maxLen; omega)
              try (case d4 => have := HKS.out; omega)
              try (case d5 => have h := HB2.out.size; rw [HBB.out] at h; simp; omega)
              intro v' w3 hown' hgrow _
              have HB3 := Lib.hid (show Below B w w3 from Below.grown (HB2.out.alloc (by have h := HB2.out.size; rw [HBB.out] at h; exact h) _) hgrow (by have h := HB2.out.size; rw [HBB.out] at h; simp; omega) (own_geP HO2.out))
              have HO3 := Lib.hid (show w3.ownsRow B 65 2 v' (Ro.shs Ls (k + 1)).length (prsV (Ro.shs Ls (k + 1))) by
                rw [HYES.out, HACC.out, HSY.out, prsV_snoc, List.length_append, HNA.out]
                exact hown')
              clear hgrow hown'
              go_wp2_with fail
              exact ⟨⟨k + 1, hlt, by go_num, HO3.out, HB3.out⟩, by simp [intOf]; omega⟩
        · obtain rfl : j = k := by omega
          have HNO := Lib.hid (Ro.shs_no (Ls := Ls) (k := j) (by rw [Ro.shp_no HAT.out]; decide))
          go_wp2_with fail
          exact ⟨⟨j + 1, hlt, by go_num, by rw [HNO.out, HACC.out, HNA.out]; exact HO.out.belowed HBI.out, HBT.out⟩, by simp [intOf]; omega⟩
    · obtain rfl : k = n := by omega
      go_wp2_with fail
      go_ret
      exact ⟨_, rfl, by rw [HSN.out, HACC.out, HNA.out]; exact HO.out, HBL.out⟩
end Go.Proofs.YtgfammlmbjmkoaaGreatDoor

/- route: what is told of none. -/
namespace Go.Proofs.YtgfammlmbjmkoaaGreatDoor
set_option linter.unusedVariables false
set_option linter.unusedSimpArgs false
open Go.RowKit Go.Shelf
set_option maxHeartbeats 4000000
set_option maxRecDepth 100000
/-- no table: nil, or one that New has not made -/
def NoT (w : World) (p : Option Addr) : Prop := p = none ∨ ∃ T v, p = some ⟨T, 0, none⟩ ∧ w.heap[T]? = some (.cells #[v, .bool false] 74 (0, 0))
theorem NoT.below {w w' : World} {p : Option Addr} (h : NoT w p) (k : Below w.heap.size w w') : NoT w' p := by
  rcases h with h | ⟨T, v, h1, h2⟩
  · exact .inl h
  · exact .inr ⟨T, v, h1, (k.block T (Array.getElem?_eq_some_iff.1 h2).1).trans h2⟩
theorem NoT.none {w : World} {p : Option Addr} (h : NoT w p) : Calls Tryz.prog 53 #[.pointer p] w fun e w' => e = .returned (.bool true) ∧ w' = w := by
  rcases h with rfl | ⟨T, v, rfl, h2⟩
  · exact rt_none_nil w
  · exact rt_none T w v false h2
theorem nt_At (p : Option Addr) (k : Int) (w : World) (h : NoT w p) :
    Calls Tryz.prog 30 #[.pointer p, .int .i64 k] w fun e w' => e = .returned (.tuple #[.string ⟨#[]⟩, .bool false]) ∧ w' = w := by
  have KN := Lib.hid h.none
  clear h
  go_enter Tryz.func30, Tryz.ntmps30
  go_wp2_with fail
  refine KN.out.mono ?_
  rintro e wx ⟨rfl, hwx⟩
  subst wx
  go_wp2_with fail
  go_ret2
  exact ⟨rfl, rfl⟩
theorem nt_Len (p : Option Addr) (w : World) (h : NoT w p) :
    Calls Tryz.prog 31 #[.pointer p] w fun e w' => e = .returned (.int .i64 0) ∧ w' = w := by
  have KN := Lib.hid h.none
  clear h
  go_enter Tryz.func31, Tryz.ntmps31
  go_wp2_with fail
  refine KN.out.mono ?_
  rintro e wx ⟨rfl, hwx⟩
  subst wx
  go_wp2_with fail
  go_ret
  exact ⟨rfl, rfl⟩
theorem nt_Copy (p : Option Addr) (w : World) (h : NoT w p) :
    Calls Tryz.prog 33 #[.pointer p] w fun e w' => e = .returned (.pointer .none) ∧ w' = w := by
  have KN := Lib.hid h.none
  clear h
  go_enter Tryz.func33, Tryz.ntmps33
  go_wp2_with fail
  refine KN.out.mono ?_
  rintro e wx ⟨rfl, hwx⟩
  subst wx
  go_wp2_with fail
  go_ret
  exact ⟨rfl, rfl⟩
theorem nt_Same (p q : Option Addr) (w : World) (h : NoT w p) (hq : NoT w q) :
    Calls Tryz.prog 34 #[.pointer p, .pointer q] w fun e w' => e = .returned (.bool true) ∧ w' = w := by
  have KN := Lib.hid h.none
  have KM := Lib.hid hq.none
  clear h hq
  go_enter Tryz.func34, Tryz.ntmps34
  go_wp2_with fail
  refine KN.out.mono ?_
  rintro e wx ⟨rfl, hwx⟩
  subst wx
  go_wp2_with fail
  refine KN.out.mono ?_
  rintro e wx ⟨rfl, hwx⟩
  subst wx
  go_wp2_with fail
  refine KM.out.mono ?_
  rintro e wx ⟨rfl, hwx⟩
  subst wx
  go_wp2_with fail
  go_ret
  exact ⟨rfl, rfl⟩
theorem nt_Same_half (p : Option Addr) (T : Nat) (Ls : List (List Ro.Pt)) (w : World) (h : NoT w p) (ht : TB w T Ls) :
    Calls Tryz.prog 34 #[.pointer p, .pointer (some ⟨T, 0, none⟩)] w fun e w' => e = .returned (.bool false) ∧ w' = w := by
  obtain ⟨B, v, h1, _⟩ := ht
  have KN := Lib.hid h.none
  have KM := Lib.hid (rt_none T w v true h1)
  clear h h1
  go_enter Tryz.func34, Tryz.ntmps34
  go_wp2_with fail
  refine KN.out.mono ?_
  rintro e wx ⟨rfl, hwx⟩
  subst wx
  go_wp2_with fail
  refine KN.out.mono ?_
  rintro e wx ⟨rfl, hwx⟩
  subst wx
  go_wp2_with fail
  refine KM.out.mono ?_
  rintro e wx ⟨rfl, hwx⟩
  subst wx
  go_wp2_with fail
  go_ret
  exact ⟨rfl, rfl⟩
theorem nt_Find (p : Option Addr) (a : Option Addr) (n c : Nat) (w : World) (h : NoT w p) :
    Calls Tryz.prog 26 #[.pointer p, .slice a n c] w fun e w' => e = .returned (.tuple #[.int .i64 0, .bool false]) ∧ Below w.heap.size w w' := by
  obtain ⟨W1, hW1⟩ : ∃ Z, w.alloc (.cells #[.slice a n c] 41) = Z := ⟨_, rfl⟩
  have hb1 : Below w.heap.size w W1 := by rw [← hW1]; exact (Below.refl _ _).alloc (Nat.le_refl _) _
  have HB1 := Lib.hid hb1
  have HW1 := Lib.hid hW1
  have KN := Lib.hid (h.below hb1).none
  clear h hb1 hW1
  go_enter Tryz.func26, Tryz.ntmps26
  go_wp2_with fail
  rw [HW1.out]
  refine KN.out.mono ?_
  rintro e wx ⟨rfl, hwx⟩
  subst wx
  go_wp2_with fail
  go_ret2
  exact ⟨rfl, HB1.out⟩
theorem nt_Add (p : Option Addr) (s : ByteArray) (w : World) (h : NoT w p) :
    Calls Tryz.prog 25 #[.pointer p, .string s] w fun e w' => e = .returned (.tuple #[.int .i64 0, .int .i64 1]) ∧ Below w.heap.size w w' := by
  have hmf : ∀ (fn : Fn) (first cap : Array Value) (w : World), (Instr.makeFunc fn first cap).run Tryz.prog w = .ok (.func fn first cap) w := fun _ _ _ _ => rfl
  obtain ⟨W3, hW3⟩ : ∃ W, (w.alloc (.cells #[.int .i64 0] 3)).alloc (.cells #[.int .i64 0] 24) = W := ⟨_, rfl⟩
  obtain ⟨H, hH⟩ : ∃ H, w.heap.size = H := ⟨_, rfl⟩
  have HB := Lib.hid (show Below w.heap.size w W3 by
    rw [← hW3]
    exact ((Below.refl _ _).alloc (Nat.le_refl _) _).alloc (by simp) _)
  have HC0 := Lib.hid (show W3.heap[H]? = some (.cells #[.int .i64 0] 3 (0, 0)) by
    rw [← hW3, ← hH, Below.heap_alloc _ _ _ (by simp)]
    exact World.alloc_heap_new _ _)
  have HC1 := Lib.hid (show W3.heap[H + 1]? = some (.cells #[.int .i64 0] 24 (0, 0)) by
    rw [← hW3, ← hH]
    have := World.alloc_heap_new (w.alloc (.cells #[.int .i64 0] 3)) (.cells #[.int .i64 0] 24)
    simpa using this)
  have HW3 := Lib.hid hW3
  have HH := Lib.hid hH
  have KN := Lib.hid (h.below HB.out).none
  clear hW3 hH h
  go_enter_defers Tryz.func25, Tryz.ntmps25
  go_wp2_with fail
  rw [HH.out, HW3.out]
  refine KN.out.mono ?_
  rintro e w5 ⟨rfl, hw5⟩
  subst w5
  go_wp2_with fail
  refine (rt_must_no 1 _).mono ?_
  rintro e w5 ⟨rfl, hw5⟩
  subst w5
  refine add_door 1 _ H (.int .i64 0) W3 (fun e w' => e = .returned (.tuple #[.int .i64 0, .int .i64 1]) ∧ Below w.heap.size w w') ⟨rfl, (HB.out.setCell (Nat.le_of_eq HH.out) _).setCell (by show w.heap.size ≤ H + 1; rw [HH.out]; omega) _⟩ HC0.out HC1.out ?h4 ?h5
  all_goals rfl
theorem nt_Shadowed (p : Option Addr) (w : World) (h : NoT w p) :
    Calls Tryz.prog 27 #[.pointer p] w fun e w' => ∃ C, e = .returned (.func (.func 57) #[] #[.pointer (some ⟨C, 0, none⟩)]) ∧ SH w' C [] ∧ w.heap.size ≤ C ∧ Below w.heap.size w w' := by
  have hmf : ∀ (fn : Fn) (first cap : Array Value) (w : World), (Instr.makeFunc fn first cap).run Tryz.prog w = .ok (.func fn first cap) w := fun _ _ _ _ => rfl
  obtain ⟨L, hL⟩ : ∃ z, w.heap.size = z := ⟨_, rfl⟩
  obtain ⟨W1, hW1⟩ : ∃ Z, (w.alloc (.cells #[.slice none 0 0] 72)).alloc (.cells #[.pointer (some ⟨w.heap.size, 0, none⟩)] 94) = Z := ⟨_, rfl⟩
  have hb1 : Below w.heap.size w W1 := by rw [← hW1]; exact ((Below.refl _ _).alloc (Nat.le_refl _) _).alloc (by simp) _
  have HL1 := Lib.hid (show W1.heap[L]? = some (.cells #[.slice none 0 0] 72 (0, 0)) by rw [← hW1, ← hL, Below.heap_alloc _ _ _ (by simp)]; exact World.alloc_heap_new _ _)
  have HC1 := Lib.hid (show W1.heap[L + 1]? = some (.cells #[.pointer (some ⟨L, 0, none⟩)] 94 (0, 0)) by
    rw [← hW1, ← hL]
    have := World.alloc_heap_new (w.alloc (.cells #[.slice none 0 0] 72)) (.cells #[.pointer (some ⟨w.heap.size, 0, none⟩)] 94)
    simpa using this)
  have HS := Lib.hid (show SH W1 (L + 1) [] from ⟨L, 0, .slice none 0 0, HC1.out, HL1.out, [], rfl, World.ownsRow_nil _ _ _ _, fun j hj => by simp at hj⟩)
  have KN := Lib.hid (h.below hb1).none
  have HW1 := Lib.hid (show (w.alloc (.cells #[.slice none 0 0] 72)).alloc (.cells #[.pointer (some ⟨L, 0, none⟩)] 94) = W1 by rw [← hL]; exact hW1)
  have HL := Lib.hid hL
  have HB1 := Lib.hid hb1
  rw [hL] at HB1 ⊢
  clear h hb1 hW1 hL
  go_enter Tryz.func27, Tryz.ntmps27
  go_wp2_with fail
  rw [HL.out, HW1.out]
  refine KN.out.mono ?_
  rintro e wx ⟨rfl, hwx⟩
  subst wx
  go_wp2_with fail
  go_ret
  exact ⟨_, rfl, HS.out, Nat.le_succ _, HB1.out⟩
end Go.Proofs.YtgfammlmbjmkoaaGreatDoor

/- Appends of texts to a row of one's own, whatever slice they come in. -/
namespace Go.Proofs.YtgfammlmbjmkoaaGreatDoor
set_option linter.unusedVariables false
set_option linter.unusedSimpArgs false
open Go.RowKit Go.Shelf
set_option maxHeartbeats 4000000
set_option maxRecDepth 100000
theorem map_sv_at {M : List (List UInt8)} {j : Nat} {u : Value} (h : (M.map sv)[j]? = some u) : j < M.length ∧ u = sv (M.getD j []) := by
  have hj : j < M.length := by have := (List.getElem?_eq_some_iff.1 h).1; simpa using this
  refine ⟨hj, ?_⟩
  rw [List.getElem?_map, List.getElem?_eq_getElem hj] at h
  rw [getD_is M [] j hj]
  exact (Option.some.inj h).symm
theorem run_append_none_c {P : Program} {w : World} (base : Nat) (t ty e : TypeId) (i : TypeInfo) (size : Nat) (ht : P.underlying t = some (.slice e)) (hi : P.info? e = some i)
    (v : Value) (n : Nat) (xs : List Value) (c : Nat) (hown : w.ownsRow base e size v n xs) :
    (Builtin.append_ #[t, t] ty #[v, .slice none 0 c]).run P w = .ok v w := by
  rcases hown.2 with ⟨rfl, rfl⟩ | ⟨g, cap, cur, rfl, _, _, hnc, _⟩
  · simp [Builtin.append_, run_underlying ht, sizeOf, typeInfo, hi, Builtin.lenOf, Builtin.firstCells]
  · simp [Builtin.append_, run_underlying ht, sizeOf, typeInfo, hi, Builtin.lenOf, Builtin.firstCells, hnc, storeCells]
theorem wpList_strs {w : World} {ops : Array Oper} {rest : List Oper} {o : Oper} {a : Act} {Q : Exit → Act → World → Prop} (hgd : o.guard = none) (s x : Operand)
    (ho : o.op = .call { callee := .builtin .append, args := #[s, x], argTypes := #[41, 41] })
    (B n : Nat) (v u : Value) (L M : List (List UInt8)) (hs : a.eval s = v) (hx : a.eval x = u) (hown : w.ownsRow B 9 1 v n (L.map sv)) (hM : XS w u M) (hsm : n + M.length ≤ 100000) (hB : B ≤ w.heap.size)
    (h : ∀ p c w', w'.ownsRow B 9 1 (.slice p (n + M.length) c) (n + M.length) ((L ++ M).map sv) → w.grownBy w' v.ownBlock → wpList Tryz.prog ops Q rest (a.put o.dst (.slice p (n + M.length) c)) w') : wpList Tryz.prog ops Q (o :: rest) a w := by
  obtain ⟨i0, hi, hz0, hz1, hz2⟩ := info_parts (show (Tryz.prog.info? 9).map (fun i => (i.zero, i.size, i.bytes)) = some (some (.string ByteArray.empty), 1, 16) by kernel_rfl)
  have some_ : ∀ (ad : Addr) (c : Nat), u = .slice (some ad) M.length c → (∀ j y, (M.map sv)[j]? = some y → w.cell? (ad.add j) = some y) → wpList Tryz.prog ops Q (o :: rest) a w := by
    rintro ad c rfl hc
    refine wpList_append_own w hgd s x 41 ho B 9 i0 (.string ByteArray.empty) 1 16 Tryz.underlying41 hi hz0 hz1 hz2 rfl (by decide) v n (L.map sv) hs hown ad M.length c (M.map sv) hx (by rw [List.length_map, Nat.mul_one]) hc ?_ (by unfold maxLen; omega) (by omega) hB ?_
    · intro y hy
      obtain ⟨t, _, rfl⟩ := List.mem_map.1 hy
      rfl
    · intro v' w' h1 h2 _
      rw [← List.map_append] at h1
      obtain ⟨p, c', rfl⟩ := own_slP h1
      exact h p c' w' h1 h2
  rcases hM with ⟨p, c, rfl, rfl⟩ | ⟨b, off, cap, rfl, hc⟩
  · cases p with
    | some ad => exact some_ ad c rfl (fun j y hj => by simp at hj)
    | none =>
      have hrun := run_append_none_c (P := Tryz.prog) (w := w) B 41 o.type 9 i0 1 Tryz.underlying41 hi v n (L.map sv) c hown
      obtain ⟨q, d, rfl⟩ := own_slP hown
      refine wpList_plain hgd fun K hK' => ?_
      unfold Oper.wp
      simp [execOp, ho, resolve, invoke, builtin, hs, hx, hrun, Result.andThen]
      exact hK' _ _ (h q d w (by rw [List.append_nil]; exact hown) ⟨rfl, rfl, rfl, Nat.le_refl _, fun _ _ _ => rfl⟩)
  · exact some_ ⟨b, off, none⟩ cap rfl (fun j y hj => by
      obtain ⟨h1, rfl⟩ := map_sv_at hj
      rw [Lib.add_plain]
      exact hc j h1)
end Go.Proofs.YtgfammlmbjmkoaaGreatDoor

/- Slices of texts that come in, their capacity told. -/
namespace Go.Proofs.YtgfammlmbjmkoaaGreatDoor
set_option linter.unusedVariables false
set_option linter.unusedSimpArgs false
open Go.RowKit Go.Shelf
set_option maxHeartbeats 2000000
set_option maxRecDepth 100000
section
variable {H : Type} {enc : TypeId × Value → H} {w : World} {base : Nat} {spare : Nat → Bool} {held : Bool}
open Go.ChangeShapes Go.WideShapes
theorem strs_inC {r : Reach} {b0 : Nat} {v : Value} {d : DataW H} {p : List MemPlace} (hv : Value.okWide Tryz.prog w r b0 41 v) (h : DataW.Trod enc Tryz.prog w base spare held 41 v d p) :
    ∃ P, XS w v P ∧ (P.length ≤ maxLen ∧ ∀ q n c, v = .slice q n c → n ≤ c ∧ c ≤ maxLen) := by
  obtain ⟨a0, len0, cap0, rfl⟩ := okWide_slice Tryz.underlying41 hv
  have hspot : ∀ x, a0 = some x → x.spot = none := by
    rintro x rfl
    simp only [Value.okWide, Tryz.underlying41, Cell.okWide, Cell.ok] at hv
    exact hv.2.2.2.1
  obtain ⟨fuel, hf⟩ := h
  rcases open_strings Tryz.underlying41 Tryz.underlying9 (by kernel_rfl) hf with ⟨hcs, _⟩ | ⟨a, len, cap, ss, hcs, _, hl, hm, hz, _, hc, hs⟩
  · simp [Value.cells] at hcs
    obtain ⟨rfl, rfl, rfl⟩ := hcs
    exact ⟨[], .inl ⟨none, 0, rfl, rfl⟩, by simp, fun q n c h => by cases h; exact ⟨Nat.le_refl _, Nat.zero_le _⟩⟩
  · simp [Value.cells] at hcs
    obtain ⟨rfl, rfl, rfl⟩ := hcs
    obtain ⟨b, off, spot⟩ := a
    have hsp : spot = none := hspot _ rfl
    subst hsp
    have hlen : len0 ≤ ss.length := by rw [hz]; split <;> omega
    refine ⟨(ss.take len0).map (·.data.toList), .inr ⟨b, off, cap0, by rw [List.length_map, List.length_take, Nat.min_eq_left hlen], fun j hj => ?_⟩, by rw [List.length_map, List.length_take]; omega, fun q n c h => by cases h; omega⟩
    rw [List.length_map, List.length_take, Nat.min_eq_left hlen] at hj
    have h1 := hc j (by omega)
    rw [Lib.add_plain] at h1
    rw [h1]
    have h2 : ss[j]? = some (ss.getD j ByteArray.empty) := by
      rw [List.getD_eq_getElem?_getD, List.getElem?_eq_getElem (by omega)]; rfl
    have h3 : ((ss.take len0).map (·.data.toList)).getD j [] = (ss.getD j ByteArray.empty).data.toList := by
      rw [List.getD_eq_getElem?_getD, List.getElem?_map, List.getElem?_take_of_lt hj, h2]; rfl
    rw [h3]
    rfl
end
/-- one of the texts, as a slice of its own -/
theorem XS.one {w : World} {b off n c : Nat} {L : List (List UInt8)} (h : XS w (.slice (some ⟨b, off, none⟩) n c) L) {k d : Nat} (hk : k < L.length) : XS w (.slice (some ⟨b, off + k, none⟩) 1 d) [L.getD k []] := by
  obtain ⟨g, o, he, hc⟩ := h.cells hk
  cases he
  refine .inr ⟨b, off + k, d, rfl, fun j hj => ?_⟩
  have hj0 : j = 0 := by simpa using hj
  subst hj0
  exact hc k hk
theorem rnOut_one (x : List UInt8) : rnOut [x] = rtErr (Ro.parse x) := by
  unfold rnOut
  rw [if_neg (by simp)]
  cases h : Ro.parse x with
  | none => rw [Gt.all_none h]; rfl
  | some y => rw [Gt.all_some h, Gt.all_nil]; rfl
/-- the texts that are patterns -/
def pats (L : List (List UInt8)) : List (List UInt8) := L.filter fun x => (Ro.parse x).isSome
theorem pats_more {L : List (List UInt8)} {k : Nat} (hk : k < L.length) : pats (L.take (k + 1)) = pats (L.take k) ++ (if (Ro.parse (L.getD k [])).isSome then [L.getD k []] else []) := by
  rw [List.take_add_one, List.getElem?_eq_getElem hk, getD_is L [] k hk]
  unfold pats
  rw [List.filter_append]
  congr 1
  show List.filter _ [L[k]] = _
  rw [List.filter_cons]
  rfl
theorem pats_len (L : List (List UInt8)) : (pats L).length ≤ L.length := List.length_filter_le _ _
end Go.Proofs.YtgfammlmbjmkoaaGreatDoor

/- What an Add tells, in one way. -/
namespace Go.Proofs.YtgfammlmbjmkoaaGreatDoor
set_option linter.unusedVariables false
set_option linter.unusedSimpArgs false
open Go.RowKit Go.Shelf
set_option maxHeartbeats 2000000
set_option maxRecDepth 100000
theorem AK.of {w w' : World} (T : Nat) (v : Value) (h : Below w.heap.size w w') : AK w T v w' := ⟨h.os, h.tape, h.output, h.size, fun b hb _ _ => h.block b hb⟩
/-- what an Add adds -/
def adL (o : Option (List Ro.Pt)) : List (List Ro.Pt) := match o with
  | some L => [L]
  | none => []
theorem AdOut.any {w w' : World} {T B : Nat} {v : Value} {Ls : List (List Ro.Pt)} {o : Option (List Ro.Pt)} {e : Ending} (h : AdOut w T B v Ls o e w') (hl : Ls.length < 256) (ht : TBB w T B v Ls) :
    ∃ (at_ : Int) (v' : Value), e = .returned (.tuple #[.int .i64 at_, .int .i64 (rtErr o)]) ∧ TBB w' T B v' (Ls ++ adL o) ∧ (v'.ownBlock = v.ownBlock ∨ ∀ k, v'.ownBlock = some k → w.heap.size ≤ k) ∧ AK w T v w' := by
  rcases h with ⟨_, L, v', rfl, h2, h3, h4, h5⟩ | ⟨_, rfl, h2, h3⟩ | ⟨h1, _⟩
  · exact ⟨_, v', h2, h3, h4, h5⟩
  · exact ⟨_, v, h2, by show TBB w' T B v (Ls ++ []); rw [List.append_nil]; exact ht.below h3, .inl rfl, AK.of T v h3⟩
  · omega
/-- another table behind an Add -/
theorem AK.tbb {w w' : World} {T B C D : Nat} {v u : Value} {Ls Rs : List (List Ro.Pt)} (h : AK w T v w') (ht : TBB w T B v Ls) (hc : TBB w C D u Rs) (hCT : C ≠ T) (hu : ∀ k, u.ownBlock = some k → v.ownBlock ≠ some k) : TBB w' C D u Rs := by
  obtain ⟨h1, vals, h2, h3, h4⟩ := hc
  have hC := (Array.getElem?_eq_some_iff.1 h1).1
  obtain ⟨ht1, tvals, _, tr, _⟩ := ht
  refine ⟨(h.block C hC hCT (own_cells tr (by decide) h1)).trans h1, vals, h2, ⟨h3.1, h3.2.imp id ?_⟩, fun j hj => ?_⟩
  · rintro ⟨g, cap, cur, k1, k2, k3, k4⟩
    refine ⟨g, cap, cur, k1, k2, (h.block g (Array.getElem?_eq_some_iff.1 k3).1 ?_ (fun e => hu g (by rw [k1]; rfl) e.symm)).trans k3, k4⟩
    rintro rfl
    rw [ht1] at k3
    simp at k3
  · have hp := h4 j hj
    refine ⟨hp.1, hp.2.imp id ?_⟩
    rintro ⟨g, cap, cur, k1, k2, k3, k4⟩
    exact ⟨g, cap, cur, k1, k2, h.blk ⟨ht1, tvals, by assumption, tr, by assumption⟩ k3 (by decide) (by decide), k4⟩
end Go.Proofs.YtgfammlmbjmkoaaGreatDoor

/- Routes: what patterns that were read are, small; equal patterns are of equal texts; a table beside a row that grows. No conditions but those that each law states. -/
namespace Go.Proofs.YtgfammlmbjmkoaaGreatDoor
set_option linter.unusedVariables false
set_option linter.unusedSimpArgs false
open Go.RowKit Go.Shelf
set_option maxHeartbeats 2000000
def adS (t : List UInt8) (o : Option (List Ro.Pt)) : List (List UInt8) := match o with
  | some _ => [t]
  | none => []
theorem XS.of' {w : World} {B n : Nat} {v : Value} {L : List (List UInt8)} (h : w.ownsRow B 9 1 v n (L.map sv)) (hn : n = L.length) : XS w v L := by
  subst hn
  obtain ⟨hl, h⟩ := h
  rcases h with ⟨rfl, h0⟩ | ⟨g, cap, cur, rfl, _, hg, hc, hm, hs, ht⟩
  · exact .inl ⟨none, 0, rfl, List.length_eq_zero_iff.1 h0⟩
  · refine .inr ⟨g, 0, cap, rfl, fun j hj => ?_⟩
    have h1 : (cur.toList.take (L.length * 1))[j]? = (L.map sv)[j]? := by rw [ht]
    rw [List.getElem?_take_of_lt (by omega)] at h1
    rw [Nat.zero_add]
    simp only [World.cell?, hg, Option.isSome_none, Bool.false_eq_true, if_false]
    rw [← Array.getElem?_toList, h1, List.getElem?_map, List.getElem?_eq_getElem hj, getD_is L [] j hj]
    rfl
theorem TBB.grownS {w w' : World} {T B C n : Nat} {v u : Value} {Ls : List (List Ro.Pt)} {xs : List Value} (h : TBB w T B v Ls) (ho : w.ownsRow C 9 1 u n xs) (hg : w.grownBy w' u.ownBlock) : TBB w' T B v Ls := by
  obtain ⟨h1, vals, h2, h3, h4⟩ := h
  have keep : ∀ {b : Nat} {cs : Array Value} {t : TypeId} {fr : Nat × Nat}, t ≠ 9 → w.heap[b]? = some (.cells cs t fr) → w'.heap[b]? = some (.cells cs t fr) := fun ht hb => (hg.block _ (Array.getElem?_eq_some_iff.1 hb).1 (own_cells ho ht hb)).trans hb
  have row : ∀ {D : Nat} {e : TypeId} {s : Nat} {x : Value} {m : Nat} {ys : List Value}, e ≠ 9 → w.ownsRow D e s x m ys → w'.ownsRow D e s x m ys := fun he hr => ⟨hr.1, hr.2.imp id (fun ⟨g, cap, cur, k1, k2, k3, k4⟩ => ⟨g, cap, cur, k1, k2, keep he k3, k4⟩)⟩
  exact ⟨keep (by decide) h1, vals, h2, row (by decide) h3, fun j hj => row (by decide) (h4 j hj)⟩
theorem small_of {L : List (List UInt8)} {Ls : List (List Ro.Pt)} (h : Gt.all? Ro.parse L = some Ls) (hL : L.length ≤ 1000) (hl : ∀ s ∈ L, s.length ≤ 30000) : Small Ls := by
  refine ⟨by rw [Gt.all_length h]; exact hL, fun l hl' => ?_⟩
  obtain ⟨x, hx, hp⟩ := Gt.all_each h l hl'
  have h1 := (Ro.parse_many hp).2
  refine ⟨by omega, fun p hp' => ?_⟩
  rcases Ro.parse_kinds hp p hp' with rfl | rfl | ⟨_, h2⟩
  · simp
  · simp
  · exact Nat.le_trans h2 (hl x hx)
theorem parse_inj {x y : List UInt8} {l : List Ro.Pt} (hx : Ro.parse x = some l) (hy : Ro.parse y = some l) : x = y := by
  have h1 := Ro.text_parse hx
  rw [Ro.text_parse hy] at h1
  exact (Option.some.inj h1).symm
theorem adS_parse {hs : List (List UInt8)} {Ls : List (List Ro.Pt)} (h : Gt.all? Ro.parse hs = some Ls) (t : List UInt8) : Gt.all? Ro.parse (hs ++ adS t (Ro.parse t)) = some (Ls ++ adL (Ro.parse t)) := by
  cases ht : Ro.parse t with
  | none => simpa [adS, adL] using h
  | some l => exact Ro.all_append h (by simp only [adS, adL]; rw [Gt.all_some ht]; rfl)
theorem adS_len (t : List UInt8) (o : Option (List Ro.Pt)) : (adS t o).length = if o.isSome then 1 else 0 := by cases o <;> rfl
theorem adL_len (o : Option (List Ro.Pt)) : (adL o).length = if o.isSome then 1 else 0 := by cases o <;> rfl
theorem adS_mem {t : List UInt8} {o : Option (List Ro.Pt)} {z : List UInt8} (h : z ∈ adS t o) : z = t := by
  cases o with
  | none => simp [adS] at h
  | some l => simpa [adS] using h
theorem pats_mem {L : List (List UInt8)} {z : List UInt8} (h : z ∈ pats L) : z ∈ L := (List.mem_filter.1 h).1
/-- are two tables the same, each with one text more? -/
theorem same_add (Ls : List (List Ro.Pt)) (x y : ByteArray) (n : Nat) :
    ((n + (if (Ro.parse x.data.toList).isSome then 1 else 0) == n + (if (Ro.parse y.data.toList).isSome then 1 else 0)) && ((n + (if (Ro.parse x.data.toList).isSome then 1 else 0) == n) || decide (x = y))) = decide (Ls ++ adL (Ro.parse x.data.toList) = Ls ++ adL (Ro.parse y.data.toList)) := by
  cases hx : Ro.parse x.data.toList with
  | none =>
    cases hy : Ro.parse y.data.toList with
    | none => simp [adL]
    | some ly => simp [adL]
  | some lx =>
    cases hy : Ro.parse y.data.toList with
    | none => simp [adL]
    | some ly =>
      by_cases e : x = y
      · subst e
        rw [hx] at hy
        cases hy
        simp
      · have : ¬ lx = ly := fun h => by
          subst h
          have h1 := parse_inj hx hy
          exact e (by
            cases x; cases y
            congr 1
            exact Array.toList_inj.1 h1)
        simp [adL, e, this]
/-- an append of texts to an own row, with what the row's block is then -/
theorem wpList_strsA {w : World} {ops : Array Oper} {rest : List Oper} {o : Oper} {a : Act} {Q : Exit → Act → World → Prop} (hgd : o.guard = none) (s x : Operand)
    (ho : o.op = .call { callee := .builtin .append, args := #[s, x], argTypes := #[41, 41] })
    (B n : Nat) (v u : Value) (L M : List (List UInt8)) (hs : a.eval s = v) (hx : a.eval x = u) (hown : w.ownsRow B 9 1 v n (L.map sv)) (hM : XS w u M) (hsm : n + M.length ≤ 100000) (hB : B ≤ w.heap.size)
    (h : ∀ p c w', w'.ownsRow B 9 1 (.slice p (n + M.length) c) (n + M.length) ((L ++ M).map sv) → w.grownBy w' v.ownBlock → ((Value.slice p (n + M.length) c).ownBlock = v.ownBlock ∨ (Value.slice p (n + M.length) c).ownBlock = some w.heap.size) → wpList Tryz.prog ops Q rest (a.put o.dst (.slice p (n + M.length) c)) w') : wpList Tryz.prog ops Q (o :: rest) a w := by
  obtain ⟨i0, hi, hz0, hz1, hz2⟩ := info_parts (show (Tryz.prog.info? 9).map (fun i => (i.zero, i.size, i.bytes)) = some (some (.string ByteArray.empty), 1, 16) by kernel_rfl)
  have some_ : ∀ (ad : Addr) (c : Nat), u = .slice (some ad) M.length c → (∀ j y, (M.map sv)[j]? = some y → w.cell? (ad.add j) = some y) → wpList Tryz.prog ops Q (o :: rest) a w := by
    rintro ad c rfl hc
    refine wpList_append_own_at w hgd s x 41 ho B 9 i0 (.string ByteArray.empty) 1 16 Tryz.underlying41 hi hz0 hz1 hz2 rfl (by decide) v n (L.map sv) hs hown ad M.length c (M.map sv) hx (by rw [List.length_map, Nat.mul_one]) hc ?_ (by unfold maxLen; omega) (by omega) hB ?_
    · intro y hy
      obtain ⟨t, _, rfl⟩ := List.mem_map.1 hy
      rfl
    · intro v' w' h1 h2 _ h4
      rw [← List.map_append] at h1
      obtain ⟨p, c', rfl⟩ := own_slP h1
      exact h p c' w' h1 h2 h4
  rcases hM with ⟨p, c, rfl, rfl⟩ | ⟨b, off, cap, rfl, hc⟩
  · cases p with
    | some ad => exact some_ ad c rfl (fun j y hj => by simp at hj)
    | none =>
      have hrun := run_append_none_c (P := Tryz.prog) (w := w) B 41 o.type 9 i0 1 Tryz.underlying41 hi v n (L.map sv) c hown
      obtain ⟨q, d, rfl⟩ := own_slP hown
      refine wpList_plain hgd fun K hK' => ?_
      unfold Oper.wp
      simp [execOp, ho, resolve, invoke, builtin, hs, hx, hrun, Result.andThen]
      exact hK' _ _ (h q d w (by rw [List.append_nil]; exact hown) ⟨rfl, rfl, rfl, Nat.le_refl _, fun _ _ _ => rfl⟩ (.inl rfl))
  · exact some_ ⟨b, off, none⟩ cap rfl (fun j y hj => by
      obtain ⟨h1, rfl⟩ := map_sv_at hj
      rw [Lib.add_plain]
      exact hc j h1)
/-- a row's block is one of before, or of behind -/
def Apart (b c : Nat) (v : Value) : Prop := ∀ k, v.ownBlock = some k → k < b ∨ c ≤ k
theorem own_other {w w' : World} {B C : Nat} {v u : Value} {n m : Nat} {xs ys : List Value} (h : w.ownsRow B 9 1 v n xs) (hg : w.grownBy w' u.ownBlock) (hn : ∀ k, v.ownBlock = some k → u.ownBlock ≠ some k) : w'.ownsRow B 9 1 v n xs :=
  ⟨h.1, h.2.imp id (fun ⟨g, cap, cur, k1, k2, k3, k4⟩ => ⟨g, cap, cur, k1, k2, (hg.block g (Array.getElem?_eq_some_iff.1 k3).1 (fun e => hn g (by rw [k1]; rfl) e.symm)).trans k3, k4⟩)⟩
theorem int_beq (a b : Nat) : ((a : Int) == (b : Int)) = (a == b) := by
  by_cases h : a = b
  · subst h
    rw [beq_self_eq_true, beq_self_eq_true]
  · have : ¬ (a : Int) = (b : Int) := by omega
    rw [beq_eq_false_iff_ne.2 this, beq_eq_false_iff_ne.2 h]
end Go.Proofs.YtgfammlmbjmkoaaGreatDoor

/- route: Shadowed, with the age of what its iterator keeps; what an Add leaves of it. No conditions but those that each law states. -/
namespace Go.Proofs.YtgfammlmbjmkoaaGreatDoor
set_option linter.unusedVariables false
set_option linter.unusedSimpArgs false
open Go.RowKit Go.Shelf
attribute [local go_sem] Oper.semAt_some
set_option maxHeartbeats 8000000
set_option maxRecDepth 100000
def shG (T L n c : Nat) (p : Option Addr) (B : Nat) (Ls : List (List Ro.Pt)) : Nat → World → Value → Prop
  | 0, _, v => v = .pointer (some ⟨L, 0, none⟩)
  | 1, _, v => v = .pointer (some ⟨T, 0, none⟩)
  | 2, _, v => v = .pointer (some ⟨T, 0, none⟩)
  | 3, _, v => v = .pointer (some ⟨T, 0, none⟩)
  | 4, _, v => v = .pointer (some ⟨T, 0, none⟩)
  | 5, _, v => v = .slice p n c
  | 6, w, v => ∃ B', L ≤ B' ∧ OPat w B' v Ls
  | 7, _, v => v = .pointer (some ⟨L, 0, none⟩)
  | 8, _, v => v = .pointer (some ⟨L, 0, none⟩)
  | _, _, _ => False
theorem shG_below {T L n c : Nat} {p : Option Addr} {B : Nat} {Ls : List (List Ro.Pt)} (j : Nat) (w w' : World) (v : Value) (h : shG T L n c p B Ls j w v) (hb : Below w.heap.size w w') : shG T L n c p B Ls j w' v := by
  match j, h with
  | 0, h | 1, h | 2, h | 3, h | 4, h | 5, h | 7, h | 8, h => exact h
  | 6, ⟨B', hB, h⟩ => exact ⟨B', hB, OPat.below h hb⟩
  | n + 9, h => exact h.elim
def shU (w0 : World) (_ : Nat → Bool) (w : World) : Prop := Below w0.heap.size w0 w
theorem rt_ShadowedB (T : Nat) (Ls : List (List Ro.Pt)) (w : World) (h : TB w T Ls) (hl : Ls.length ≤ 100000) :
    Calls Tryz.prog 27 #[.pointer (some ⟨T, 0, none⟩)] w fun e w' => ∃ C L Bs v, e = .returned (.func (.func 57) #[] #[.pointer (some ⟨C, 0, none⟩)]) ∧ SHv w' C L Bs v Ls ∧ w.heap.size ≤ C ∧ w.heap.size ≤ L ∧ w.heap.size ≤ Bs ∧ Below w.heap.size w w' := by
  have hmf : ∀ (fn : Fn) (first cap : Array Value) (w : World), (Instr.makeFunc fn first cap).run Tryz.prog w = .ok (.func fn first cap) w := fun _ _ _ _ => rfl
  obtain ⟨L, hL⟩ : ∃ z, w.heap.size = z := ⟨_, rfl⟩
  obtain ⟨W1, hW1⟩ : ∃ Z, (w.alloc (.cells #[.slice none 0 0] 72)).alloc (.cells #[.pointer (some ⟨w.heap.size, 0, none⟩)] 94) = Z := ⟨_, rfl⟩
  have hb1 : Below w.heap.size w W1 := by rw [← hW1]; exact ((Below.refl _ _).alloc (Nat.le_refl _) _).alloc (by simp) _
  have HB1 := Lib.hid hb1
  have HZ1 := Lib.hid (show W1.heap.size = L + 2 by rw [← hW1, ← hL]; simp)
  have HL1 := Lib.hid (show W1.heap[L]? = some (.cells #[.slice none 0 0] 72 (0, 0)) by rw [← hW1, ← hL, Below.heap_alloc _ _ _ (by simp)]; exact World.alloc_heap_new _ _)
  have HC1 := Lib.hid (show W1.heap[L + 1]? = some (.cells #[.pointer (some ⟨L, 0, none⟩)] 94 (0, 0)) by
    rw [← hW1, ← hL]
    have := World.alloc_heap_new (w.alloc (.cells #[.slice none 0 0] 72)) (.cells #[.pointer (some ⟨w.heap.size, 0, none⟩)] 94)
    simpa using this)
  obtain ⟨B, v, h1, h2⟩ := h.below hb1
  obtain ⟨p, c, rfl⟩ := h2.slice
  have KN := Lib.hid (rt_none T W1 _ true h1)
  have HT1 := Lib.hid h1
  have HO1 := Lib.hid h2
  have HTL := Lib.hid (show T < W1.heap.size from (Array.getElem?_eq_some_iff.1 h1).1)
  obtain ⟨n, hn⟩ : ∃ n, Ls.length = n := ⟨_, rfl⟩
  rw [hn] at HT1 HO1
  have hl2 : n ≤ 100000 := by rw [← hn]; exact hl
  have HN := Lib.hid hn
  clear hl
  have HW1 := Lib.hid (show (w.alloc (.cells #[.slice none 0 0] 72)).alloc (.cells #[.pointer (some ⟨L, 0, none⟩)] 94) = W1 by rw [← hL]; exact hW1)
  have HL := Lib.hid hL
  rw [hL] at HB1 ⊢
  clear h h1 h2 hb1 hW1 hn hL
  go_enter Tryz.func27, Tryz.ntmps27
  go_wp2_with fail
  rw [HL.out, HW1.out]
  refine KN.out.mono ?_
  rintro e w2 ⟨rfl, hw2⟩
  subst w2
  go_wp2_with fail
  refine region_last2 9 (fun i => 9 + min i 8) (shG T L n c p B Ls) (shU W1) (by kernel_rfl) (by kernel_rfl) rfl (by kernel_rfl) (fun i => by show 9 + min i 8 < _; simp; omega) (fun i j hi hj h => by have h : 9 + min i 8 = 9 + min j 8 := h; omega) ?start ?dst ?step ?last
  case dst =>
    intro i o hi ho
    match i, hi, ho with
    | 0, _, ho => cases ho; rfl
    | 1, _, ho => cases ho; rfl
    | 2, _, ho => cases ho; rfl
    | 3, _, ho => cases ho; rfl
    | 4, _, ho => cases ho; rfl
    | 5, _, ho => cases ho; rfl
    | 6, _, ho => cases ho; rfl
    | 7, _, ho => cases ho; rfl
    | 8, _, ho => cases ho; rfl
    | n + 9, hi, _ => exact absurd hi (by omega)
  case step =>
    intro f a' W i o hib ho hfi hpre hT hrest
    match i, hib, ho with
    | 0, _, ho =>
      cases ho
      have q3 : a'.tmps.getD 3 undef = .pointer (some ⟨L + 1, 0, none⟩) := (hrest 3 (by intro i hi; show 9 + min i 8 ≠ _; omega))
      have hC := (hT.block (L + 1) (by rw [HZ1.out]; omega)).trans HC1.out
      have x0 : W.cell? ⟨L + 1, 0, none⟩ = some (.pointer (some ⟨L, 0, none⟩)) := by simp [World.cell?, hC]
      have e3 := rg_ev q3
      exact rg_same2 (.pointer (some ⟨L, 0, none⟩)) (by unfold Oper.wp execOp; go_simp; all_goals ((try simp only [e3]); (try go_simp); (try rw [if_pos (by omega)]); (try rw [if_neg (by omega)]); first | done | rfl | exact ⟨rfl, rfl⟩ | trivial)) rfl (hT)
    | 1, _, ho =>
      cases ho
      have q0 : a'.tmps.getD 0 undef = .pointer (some ⟨T, 0, none⟩) := (hrest 0 (by intro i hi; show 9 + min i 8 ≠ _; omega))
      have e0 := rg_ev q0
      exact rg_same2 (.pointer (some ⟨T, 0, none⟩)) (by unfold Oper.wp execOp; go_simp; all_goals ((try simp only [e0]); (try go_simp); (try rw [if_pos (by omega)]); (try rw [if_neg (by omega)]); first | done | rfl | exact ⟨rfl, rfl⟩ | trivial)) rfl (hT)
    | 2, _, ho =>
      cases ho
      have f10 := (hpre { on := 1, ground := .data } (by simp) rfl).1
      have q10 : a'.tmps.getD 10 undef = .pointer (some ⟨T, 0, none⟩) := (hpre { on := 1, ground := .data } (by simp) rfl).2
      have e10 := rg_ev q10
      exact rg_same2 (.pointer (some ⟨T, 0, none⟩)) (by unfold Oper.wp execOp; go_simp; all_goals ((try simp only [e10]); (try go_simp); (try rw [if_pos (by omega)]); (try rw [if_neg (by omega)]); first | done | rfl | exact ⟨rfl, rfl⟩ | trivial)) rfl (hT)
    | 3, _, ho =>
      cases ho
      have f11 := (hpre { on := 2, ground := .data } (by simp) rfl).1
      have q11 : a'.tmps.getD 11 undef = .pointer (some ⟨T, 0, none⟩) := (hpre { on := 2, ground := .data } (by simp) rfl).2
      have e11 := rg_ev q11
      exact rg_same2 (.pointer (some ⟨T, 0, none⟩)) (by unfold Oper.wp execOp; go_simp; all_goals ((try simp only [e11]); (try go_simp); (try rw [if_pos (by omega)]); (try rw [if_neg (by omega)]); first | done | rfl | exact ⟨rfl, rfl⟩ | trivial)) rfl (hT)
    | 4, _, ho =>
      cases ho
      have f12 := (hpre { on := 3, ground := .data } (by simp) rfl).1
      have q12 : a'.tmps.getD 12 undef = .pointer (some ⟨T, 0, none⟩) := (hpre { on := 3, ground := .data } (by simp) rfl).2
      have e12 := rg_ev q12
      exact rg_same2 (.pointer (some ⟨T, 0, none⟩)) (by unfold Oper.wp execOp; go_simp; all_goals ((try simp only [e12]); (try go_simp); (try rw [if_pos (by omega)]); (try rw [if_neg (by omega)]); first | done | rfl | exact ⟨rfl, rfl⟩ | trivial)) rfl (hT)
    | 5, _, ho =>
      cases ho
      have f13 := (hpre { on := 4, ground := .data } (by simp) rfl).1
      have q13 : a'.tmps.getD 13 undef = .pointer (some ⟨T, 0, none⟩) := (hpre { on := 4, ground := .data } (by simp) rfl).2
      have hTT := (hT.block T HTL.out).trans HT1.out
      have x0 : W.cell? ⟨T, 0, none⟩ = some (.slice p n c) := by simp [World.cell?, hTT]
      have e13 := rg_ev q13
      exact rg_same2 (.slice p n c) (by unfold Oper.wp execOp; go_simp; all_goals ((try simp only [e13]); (try go_simp); (try rw [if_pos (by omega)]); (try rw [if_neg (by omega)]); first | done | rfl | exact ⟨rfl, rfl⟩ | trivial)) rfl (hT)
    | 6, _, ho =>
      cases ho
      have f14 := (hpre { on := 5, ground := .data } (by simp) rfl).1
      have q14 : a'.tmps.getD 14 undef = .slice p n c := (hpre { on := 5, ground := .data } (by simp) rfl).2
      exact rg_call 14 56 _ _ _ rfl q14 (enters_of Tryz.func56 (by kernel_rfl) rfl) (sl_cloneT (.slice p n c) B Ls W (HO1.out.below hT) (by rw [HN.out]; omega)) (fun e w' h => by
        obtain ⟨r, h1, h2, h3⟩ := h
        exact ⟨r, h1, _, rfl, ⟨_, by have h8 := hT.size; have h9 := HZ1.out; omega, h2⟩, hT.trans (h3.mono hT.size), fun j v' _ hF => shG_below j W w' v' hF h3⟩)
    | 7, _, ho =>
      cases ho
      have f9 := (hpre { on := 0, ground := .data } (by simp) rfl).1
      have q9 : a'.tmps.getD 9 undef = .pointer (some ⟨L, 0, none⟩) := (hpre { on := 0, ground := .data } (by simp) rfl).2
      have e9 := rg_ev q9
      exact rg_same2 (.pointer (some ⟨L, 0, none⟩)) (by unfold Oper.wp execOp; go_simp; all_goals ((try simp only [e9]); (try go_simp); (try rw [if_pos (by omega)]); (try rw [if_neg (by omega)]); first | done | rfl | exact ⟨rfl, rfl⟩ | trivial)) rfl (hT)
    | 8, _, ho =>
      cases ho
      have f16 := (hpre { on := 7, ground := .data } (by simp) rfl).1
      have q16 : a'.tmps.getD 16 undef = .pointer (some ⟨L, 0, none⟩) := (hpre { on := 7, ground := .data } (by simp) rfl).2
      have e16 := rg_ev q16
      exact rg_same2 (.pointer (some ⟨L, 0, none⟩)) (by unfold Oper.wp execOp; go_simp; all_goals ((try simp only [e16]); (try go_simp); (try rw [if_pos (by omega)]); (try rw [if_neg (by omega)]); first | done | rfl | exact ⟨rfl, rfl⟩ | trivial)) rfl (hT)
    | n + 9, hib, _ => exact absurd hib (by omega)
  case last =>
    intro f vs W oL ho hall hT hvs
    have hopL : oL.op = Op.store 70 (.tmp 17) (.tmp 15) := by cases ho; rfl
    have hdsL : oL.dst = none := by cases ho; rfl
    clear ho hall
    have v0 : vs 0 = .pointer (some ⟨L, 0, none⟩) := hvs 0 (by decide)
    have v1 : vs 1 = .pointer (some ⟨T, 0, none⟩) := hvs 1 (by decide)
    have v2 : vs 2 = .pointer (some ⟨T, 0, none⟩) := hvs 2 (by decide)
    have v3 : vs 3 = .pointer (some ⟨T, 0, none⟩) := hvs 3 (by decide)
    have v4 : vs 4 = .pointer (some ⟨T, 0, none⟩) := hvs 4 (by decide)
    have v5 : vs 5 = .slice p n c := hvs 5 (by decide)
    obtain ⟨y6, v6, w6⟩ : ∃ z, vs 6 = z ∧ shG T L n c p B Ls 6 W z := ⟨_, rfl, hvs 6 (by decide)⟩
    have v7 : vs 7 = .pointer (some ⟨L, 0, none⟩) := hvs 7 (by decide)
    have v8 : vs 8 = .pointer (some ⟨L, 0, none⟩) := hvs 8 (by decide)
    simp only [fillN, List.size_toArray, List.length_cons, List.length_nil, Nat.reduceAdd, show List.range 9 = [0, 1, 2, 3, 4, 5, 6, 7, 8] from rfl, List.foldl_cons, List.foldl_nil, show 9 + min 0 8 = 9 from rfl, show 9 + min 1 8 = 10 from rfl, show 9 + min 2 8 = 11 from rfl, show 9 + min 3 8 = 12 from rfl, show 9 + min 4 8 = 13 from rfl, show 9 + min 5 8 = 14 from rfl, show 9 + min 6 8 = 15 from rfl, show 9 + min 7 8 = 16 from rfl, show 9 + min 8 8 = 17 from rfl, v0, v1, v2, v3, v4, v5, v6, v7, v8]
    clear v0 v1 v2 v3 v4 v5 v6 v7 v8 hvs
    obtain ⟨Bc, hBc, ho⟩ := w6
    have HBc := Lib.hid hBc
    clear hBc
    obtain ⟨pc, cc, rfl⟩ := ho.slice
    have hl := (hT.block L (by rw [HZ1.out]; omega)).trans HL1.out
    have hC := (hT.block (L + 1) (by rw [HZ1.out]; omega)).trans HC1.out
    have c0 : W.cell? ⟨L, 0, none⟩ = some (.slice none 0 0) := by simp [World.cell?, hl]
    have z0 : W.frozen? ⟨L, 0, none⟩ = false := frozen_of_row _ _ _ _ _ hl
    have HBW := Lib.hid (HB1.out.trans (hT.mono (by have := HZ1.out; omega)))
    have HS := Lib.hid (show SHv (W.setCell ⟨L, 0, none⟩ (.slice pc Ls.length cc)) (L + 1) L Bc (.slice pc Ls.length cc) Ls from ⟨by rw [Below.heap_setCell _ _ _ _ (by simp)]; exact hC, heap_setCell_same _ _ 0 _ _ _ hl, ho.set1 hl (by decide) (by decide) 0 _⟩)
    clear hl hC hT ho
    unfold Oper.wp execOp
    simp only [hopL, hdsL]
    go_simp
    go_wp2_with fail
    go_ret
    exact ⟨_, _, _, _, rfl, HS.out, Nat.le_succ _, Nat.le_refl _, HBc.out, HBW.out.setCell (Nat.le_refl _) _⟩
  case start => exact (Below.drew (Below.refl _ _))
/-- another row of patterns behind an Add -/
theorem AK.opat {w w' : World} {T B D : Nat} {v u : Value} {Ls Rs : List (List Ro.Pt)} (h : AK w T v w') (ht : TBB w T B v Ls) (hc : OPat w D u Rs) (hu : ∀ k, u.ownBlock = some k → v.ownBlock ≠ some k) : OPat w' D u Rs := by
  obtain ⟨vals, h2, h3, h4⟩ := hc
  obtain ⟨ht1, tvals, _, tr, _⟩ := ht
  refine ⟨vals, h2, ⟨h3.1, h3.2.imp id ?_⟩, fun j hj => ?_⟩
  · rintro ⟨g, cap, cur, k1, k2, k3, k4⟩
    refine ⟨g, cap, cur, k1, k2, (h.block g (Array.getElem?_eq_some_iff.1 k3).1 ?_ (fun e => hu g (by rw [k1]; rfl) e.symm)).trans k3, k4⟩
    rintro rfl
    rw [ht1] at k3
    simp at k3
  · have hp := h4 j hj
    refine ⟨hp.1, hp.2.imp id ?_⟩
    rintro ⟨g, cap, cur, k1, k2, k3, k4⟩
    exact ⟨g, cap, cur, k1, k2, h.blk ⟨ht1, tvals, by assumption, tr, by assumption⟩ k3 (by decide) (by decide), k4⟩
theorem AK.shv {w w' : World} {T B C L D : Nat} {v u : Value} {Ls Rs : List (List Ro.Pt)} (h : AK w T v w') (ht : TBB w T B v Ls) (hs : SHv w C L D u Rs) (hu : ∀ k, u.ownBlock = some k → v.ownBlock ≠ some k) : SHv w' C L D u Rs :=
  ⟨h.blk ht hs.1 (by decide) (by decide), h.blk ht hs.2.1 (by decide) (by decide), h.opat ht hs.2.2 hu⟩
theorem AK.rowS {w w' : World} {T B C : Nat} {v u : Value} {Ls : List (List Ro.Pt)} {e : TypeId} {z n : Nat} {xs : List Value} (h : AK w T v w') (ht : TBB w T B v Ls) (ho : w.ownsRow C e z u n xs) (h1 : e ≠ 87) (h2 : e ≠ 74) : w'.ownsRow C e z u n xs := by
  refine ⟨ho.1, ho.2.imp id ?_⟩
  rintro ⟨g, cap, cur, h3, h4, h5, h6⟩
  exact ⟨g, cap, cur, h3, h4, h.blk ht h5 h1 h2, h6⟩
/-- a slice of pairs of numbers -/
def RW (w : World) (v : Value) (L : List (Nat × Int)) : Prop :=
  (∃ p c, v = .slice p 0 c ∧ L = []) ∨ ∃ b off cap, v = .slice (some ⟨b, off, none⟩) L.length cap ∧ L.length ≤ cap ∧ cap ≤ maxLen ∧ ∀ j, j < L.length → w.cell? ⟨b, off + j * 2, none⟩ = some (.int .i64 (L.getD j (0, 0)).1) ∧ w.cell? ⟨b, off + j * 2 + 1, none⟩ = some (.int .i64 (L.getD j (0, 0)).2)
theorem RW.below {w w' : World} {v : Value} {L : List (Nat × Int)} (h : RW w v L) (k : Below w.heap.size w w') : RW w' v L := by
  rcases h with h | ⟨b, off, cap, h1, h2, h4, h3⟩
  · exact .inl h
  · exact .inr ⟨b, off, cap, h1, h2, h4, fun j hj => ⟨cell_below k (h3 j hj).1, cell_below k (h3 j hj).2⟩⟩
theorem prs_get : ∀ (L : List (Nat × Int)) (j : Nat), j < L.length → (prsV L)[j * 2]? = some (.int .i64 (L.getD j (0, 0)).1) ∧ (prsV L)[j * 2 + 1]? = some (.int .i64 (L.getD j (0, 0)).2)
  | p :: L, 0, _ => ⟨rfl, rfl⟩
  | p :: L, j + 1, h => by
    have := prs_get L j (by simpa using h)
    have e : prsV (p :: L) = .int .i64 p.1 :: .int .i64 p.2 :: prsV L := rfl
    rw [e, show (j + 1) * 2 = j * 2 + 1 + 1 by omega]
    simpa using this
theorem RW.of {w : World} {B : Nat} {v : Value} {L : List (Nat × Int)} (h : w.ownsRow B 65 2 v L.length (prsV L)) : RW w v L := by
  obtain ⟨hl, h⟩ := h
  rcases h with ⟨rfl, h0⟩ | ⟨g, cap, cur, rfl, _, hg, hc, hm, hs, ht⟩
  · exact .inl ⟨none, 0, rfl, List.length_eq_zero_iff.1 h0⟩
  · refine .inr ⟨g, 0, cap, rfl, hc, hm, fun j hj => ?_⟩
    have hp := prs_get L j hj
    rw [Nat.zero_add, ← ht, List.getElem?_take_of_lt (by omega), List.getElem?_take_of_lt (by omega)] at *
    refine ⟨?_, ?_⟩
    · rw [← hp.1]; simp [World.cell?, hg]
    · rw [← hp.2]; simp [World.cell?, hg]
theorem RW.slice {w : World} {v : Value} {L : List (Nat × Int)} (h : RW w v L) : ∃ p c, v = .slice p L.length c := by
  rcases h with ⟨p, c, rfl, rfl⟩ | ⟨b, off, cap, rfl, _⟩
  · exact ⟨_, _, rfl⟩
  · exact ⟨_, _, rfl⟩
theorem RW.cells {w : World} {p : Option Addr} {n c : Nat} {L : List (Nat × Int)} (h : RW w (.slice p n c) L) {k : Nat} (hk : k < L.length) : ∃ b off, p = some ⟨b, off, none⟩ ∧ L.length ≤ c ∧ c ≤ maxLen ∧ b < w.heap.size ∧ ∀ j, j < L.length → w.cell? ⟨b, off + j * 2, none⟩ = some (.int .i64 (L.getD j (0, 0)).1) ∧ w.cell? ⟨b, off + j * 2 + 1, none⟩ = some (.int .i64 (L.getD j (0, 0)).2) := by
  rcases h with ⟨p, c, _, rfl⟩ | ⟨b, off, cap, h1, h2, h4, h3⟩
  · simp at hk
  · cases h1
    exact ⟨b, off, rfl, h2, h4, lt_of_cell (h3 k hk).1, h3⟩
theorem two_ne (a b : Int) : ∀ W : World, (binOp .neq 65 (.agg #[.int .i64 a, .int .i64 b]) (.agg #[.int .i64 a, .int .i64 b])).run Tryz.prog W = .ok (.bool false) W := by
  intro W
  have u := Tryz.underlying65
  have u3 := Tryz.underlying3
  have hz : ∀ W, (sizeOf 3).run Tryz.prog W = .ok 1 W := fun W => by kernel_rfl
  rw [run_neq_struct]
  have h : (Op.equalIn 10000 65 (.agg #[.int .i64 a, .int .i64 b]) (.agg #[.int .i64 a, .int .i64 b])).run Tryz.prog W = .ok true W := by
    rw [show (10000 : Nat) = 9999 + 1 from rfl]
    have p0 : ∀ W, (part 3 #[Value.int .i64 a, .int .i64 b] (0 * 1)).run Tryz.prog W = .ok (.int .i64 a) W := fun W => by kernel_rfl
    have p1 : ∀ W, (part 3 #[Value.int .i64 a, .int .i64 b] (1 * 1)).run Tryz.prog W = .ok (.int .i64 b) W := fun W => by kernel_rfl
    unfold Op.equalIn
    simp [run_underlying u, hz, p0, p1, List.range', run_equalIn_int, u3]
  rw [h]
  rfl
end Go.Proofs.YtgfammlmbjmkoaaGreatDoor

/- A region that draws its order, with guarded operations, within a round of a range over a function: by what its slots hold. No condition but those that each law states. -/
namespace Go.Proofs.YtgfammlmbjmkoaaGreatDoor
set_option linter.unusedVariables false
set_option linter.unusedSimpArgs false
open Go.RowKit
set_option maxHeartbeats 2000000
section
variable {P : Program} {ops : Array Oper} {Q : Exit → Act → World → Prop} {l n : Nat} {md : Region.Mode}
theorem wpAnyR_invG (hd : noDefer ops = true) (hb : backG md ops = true) (Inv : (Nat → Bool) → Act → World → Prop)
    (hstep : ∀ (f : Nat → Bool) (a : Act) (w : World) (i : Nat) (o : Oper), ops[i]? = some o → f i = false → (∀ e ∈ o.after, Region.binds md e = true → f e.on = true) → Inv f a w →
      if Region.wanted o (yielded ops a.tmps) then o.wp P a w (Inv (fun j => if j = i then true else f j)) Q else Inv (fun j => if j = i then true else f j) (a.put o.dst undef) w)
    (hdone : ∀ (f : Nat → Bool) (a : Act) (w : World), (∀ i, i < ops.size → f i = true) → Inv f a w → Q .normal a w) :
    ∀ (fuel : Nat) (listed : Array Bool) (a : Act) (w : World), listed.size = ops.size → listed.toList.count false ≤ fuel → Inv (fun i => listed.getD i false) a w → wpAnyIn (Fence.wide.inRound l) n P md ops Q fuel listed a w := by
  intro fuel
  induction fuel with
  | zero =>
    intro listed a w hs hc hI
    have hr : Region.ready md ops listed = [] := by
      cases hr : Region.ready md ops listed with
      | nil => rfl
      | cons i r =>
        obtain ⟨o, ho, hl, hi, _⟩ := ready_mem (md := md) hs (i := i) (by rw [hr]; exact List.mem_cons_self)
        have h1 : false ∈ listed.toList := by
          simp only [Array.getD, hi, dite_true] at hl
          have h2 : listed[i] ∈ listed.toList := Array.mem_toList_iff.2 (Array.getElem_mem hi)
          have h3 : listed[i] = false := hl
          rwa [h3] at h2
        have := List.count_pos_iff.2 h1
        omega
    exact ⟨hr, hdone _ a w (ready_allG hb hs hr) hI⟩
  | succ fuel ih =>
    intro listed a w hs hc hI
    refine ⟨fun hr => hdone _ a w (ready_allG hb hs hr) hI, fun i hi => ?_⟩
    obtain ⟨o, ho, hl, hil, hpre⟩ := ready_mem hs hi
    have h1 := hstep _ a w i o ho hl hpre hI
    have hnext : ∀ a' w', Inv (fun j => if j = i then true else listed.getD j false) a' w' → wpAnyIn (Fence.wide.inRound l) n P md ops Q fuel (listed.setIfInBounds i true) a' w' := by
      intro a' w' hI'
      refine ih _ a' w' (by simp [hs]) ?_ ?_
      · have h3 : listed.toList[i]'(by simpa using hil) = false := by
          simp only [Array.getD, hil, dite_true] at hl
          simpa using hl
        rw [Array.toList_setIfInBounds, List.count_set (h := by simpa using hil), h3]
        have h4 : 0 < listed.toList.count false := List.count_pos_iff.2 (by rw [← h3]; exact List.getElem_mem _)
        rw [if_pos (by rfl), if_neg (by decide)]
        omega
      · refine cast (congrArg (fun g => Inv g a' w') (funext fun j => ?_)) hI'
        by_cases hj : j = i
        · subst hj
          simp [Array.getD, hil]
        · rw [if_neg hj]
          simp only [Array.getD, Array.size_setIfInBounds]
          by_cases hjl : j < listed.size
          · simp [hjl, Array.getElem_setIfInBounds, Ne.symm hj]
          · simp [hjl]
    unfold wpOpIn
    simp only [ho]
    split
    · rename_i hw
      rw [if_pos hw] at h1
      exact opR (noDefer_at hd ho) (Oper.wp_mono (fun a' w' hI' => hnext a' w' hI') h1)
    · rename_i hw
      rw [if_neg hw] at h1
      exact ⟨fun _ _ => trivial, hnext _ _ h1⟩
theorem region_invR {id : Nat} {a : Act} {w : World} (hd : noDefer ops = true) (hm : P.follows .mixedOrders = true) (hb : backG .any ops = true) (Inv : (Nat → Bool) → Act → World → Prop) (h0 : Inv (fun _ => false) a w.drew)
    (hstep : ∀ (f : Nat → Bool) (a : Act) (w : World) (i : Nat) (o : Oper), ops[i]? = some o → f i = false → (∀ e ∈ o.after, Region.binds .any e = true → f e.on = true) → Inv f a w →
      if Region.wanted o (yielded ops a.tmps) then o.wp P a w (Inv (fun j => if j = i then true else f j)) Q else Inv (fun j => if j = i then true else f j) (a.put o.dst undef) w)
    (hdone : ∀ (f : Nat → Bool) (a : Act) (w : World), (∀ i, i < ops.size → f i = true) → Inv f a w → Q .normal a w) : (Code.region id ops true).wpIn (Fence.wide.inRound l) n P Q a w := by
  refine wpIn_region_any hm (wpAnyR_invG hd hb Inv hstep hdone _ _ a _ (by simp) ?_ ?_)
  · refine Nat.le_trans List.count_le_length ?_
    simp
  · refine cast (congrArg (fun g => Inv g a w.drew) (funext fun j => ?_)) h0
    by_cases hj : j < ops.size <;> simp [Array.getD, hj]
theorem region_slotsR {id : Nat} {a0 : Act} {w0 : World} (slot : Nat → Nat) (F : Nat → World → Value → Prop) (sel : Nat → Bool) (hd : noDefer ops = true) (hm : P.follows .mixedOrders = true) (hb : backG .any ops = true)
    (hs : ∀ i, slot i < a0.tmps.size) (hinj : ∀ i j, i < ops.size → j < ops.size → slot i = slot j → i = j) (hF : ∀ i w w' v, F i w v → Below w.heap.size w w' → F i w' v)
    (hdst : ∀ i o, ops[i]? = some o → o.dst = some (slot i))
    (hgu : ∀ i o g b, ops[i]? = some o → o.guard = some (g, b) → ∀ w v, F g w v → v = .bool (if sel i then b else !b) ∨ (sel i = false ∧ v = undef))
    (hng : ∀ i o, ops[i]? = some o → o.guard = none → sel i = true)
    (hskip : ∀ i w, i < ops.size → sel i = false → F i w undef)
    (hstep : ∀ (f : Nat → Bool) (a : Act) (w : World) (i : Nat) (o : Oper), ops[i]? = some o → sel i = true → (∀ e ∈ o.after, Region.binds .any e = true → F e.on w (a.tmps.getD (slot e.on) undef)) → Below w0.heap.size w0 w →
      (∀ j, (∀ i, i < ops.size → slot i ≠ j) → a.tmps.getD j undef = a0.tmps.getD j undef) → o.wp P a w (fun a' w' => ∃ v, a' = a.put o.dst v ∧ F i w' v ∧ Below w.heap.size w w') Q)
    (hdone : ∀ (vs : Nat → Value) (w : World), Below w0.heap.size w0 w → (∀ i, i < ops.size → F i w (vs i)) → Q .normal { a0 with tmps := fillN slot vs ops.size a0.tmps } w) : (Code.region id ops true).wpIn (Fence.wide.inRound l) n P Q a0 w0 := by
  refine region_invR hd hm hb (Stand a0 w0 ops.size slot F) ⟨rfl, rfl, fun _ _ => rfl, ⟨rfl, rfl, rfl, Nat.le_refl _, fun _ _ => rfl⟩, fun _ _ h => by cases h⟩ ?_ ?_
  · intro f a w i o ho hf hpre hI
    have hi := (Array.getElem?_eq_some_iff.1 ho).1
    have hsl : slot i < a.tmps.size := by rw [hI.size]; exact hs i
    have hput : ∀ w' v, F i w' v → Below w.heap.size w w' → Stand a0 w0 ops.size slot F (fun j => if j = i then true else f j) (a.put o.dst v) w' := by
      intro w' v hv hbw
      rw [hdst i o ho]
      refine ⟨hI.defers, by rw [← hI.size]; exact Array.size_setIfInBounds .., fun j hj => ?_, hI.bel.trans (hbw.mono hI.bel.size), fun j hj hfj => ?_⟩
      · show (a.tmps.setIfInBounds (slot i) v).getD j undef = _
        rw [getD_set _ _ _ _ hsl, if_neg (Ne.symm (hj i hi))]
        exact hI.rest j hj
      · show F j w' ((a.tmps.setIfInBounds (slot i) v).getD (slot j) undef)
        rw [getD_set _ _ _ _ hsl]
        by_cases hji : j = i
        · subst hji; rw [if_pos rfl]; exact hv
        · rw [if_neg (fun e => hji (hinj j i hj hi e))]
          have h2 : f j = true := by simpa [hji] using hfj
          exact hF j w w' _ (hI.have_ j hj h2) hbw
    have hwant : Region.wanted o (yielded ops a.tmps) = sel i := by
      unfold Region.wanted
      cases hg : o.guard with
      | none => exact (hng i o ho hg).symm
      | some gb =>
        obtain ⟨g, b⟩ := gb
        obtain ⟨e, he, heg, hbd⟩ := (back_ofG hb ho).1 g b hg
        have hgi : g < i := by rw [← heg]; exact (back_ofG hb ho).2 e he hbd
        have hfg : f g = true := by rw [← heg]; exact hpre e he hbd
        have hv := hgu i o g b ho hg w _ (hI.have_ g (by omega) hfg)
        have hsg : slot g < a.tmps.size := by rw [hI.size]; exact hs g
        have hy : yielded ops a.tmps g = (match a.tmps.getD (slot g) undef with | .bool x => some x | _ => none) := by
          unfold yielded
          rw [Array.getElem?_eq_getElem (show g < ops.size by omega), Option.bind_some, hdst g _ (Array.getElem?_eq_getElem (by omega)), Option.bind_some, Array.getElem?_eq_getElem hsg]
          rw [Array.getD_eq_getD_getElem?, Array.getElem?_eq_getElem hsg, Option.getD_some]
          cases a.tmps[slot g] <;> rfl
        show (yielded ops a.tmps g == some b) = sel i
        rw [hy]
        rcases hv with hv | ⟨hsi, hv⟩
        · rw [hv]
          cases sel i <;> cases b <;> rfl
        · rw [hv, hsi]; rfl
    rw [hwant]
    cases hsel : sel i with
    | true =>
      rw [if_pos rfl]
      refine Oper.wp_mono ?_ (hstep f a w i o ho hsel (fun e he hbd => hI.have_ e.on (by have := (back_ofG hb ho).2 e he hbd; omega) (hpre e he hbd)) hI.bel hI.rest)
      rintro a' w' ⟨v, rfl, hv, hbw⟩
      exact hput w' v hv hbw
    | false =>
      rw [if_neg (by decide)]
      exact hput w undef (hskip i w hi hsel) (Below.refl _ _)
  · intro f a w hall hI
    have e : a = { a0 with tmps := fillN slot (fun i => a.tmps.getD (slot i) undef) ops.size a0.tmps } := by
      have h1 : a.tmps = fillN slot (fun i => a.tmps.getD (slot i) undef) ops.size a0.tmps := by
        refine ext_getD (by rw [fillN_size, hI.size]) (fun j => ?_)
        by_cases hj : ∃ i, i < ops.size ∧ slot i = j
        · obtain ⟨i, hi, rfl⟩ := hj
          rw [fillN_at slot _ _ hs _ hinj i hi]
        · rw [fillN_get slot _ _ hs _ j (fun i hi e => hj ⟨i, hi, e⟩), hI.rest j (fun i hi e => hj ⟨i, hi, e⟩)]
      obtain ⟨t, d⟩ := a
      have h2 := hI.defers
      simp only at h1 h2
      rw [← h1, h2]
    rw [e]
    exact hdone _ w hI.bel (fun i hi => hI.have_ i hi (hall i hi))
end
end Go.Proofs.YtgfammlmbjmkoaaGreatDoor

/- Routes: the first place, and the shadowed ones, plainly. No conditions but those that each law states. -/
namespace Go.Proofs.YtgfammlmbjmkoaaGreatDoor
set_option linter.unusedVariables false
set_option linter.unusedSimpArgs false
namespace Ro
theorem place_g {g : List Pt → Bool} {Ls : List (List Pt)} (h : 0 ≤ place g Ls) : g (Ls.getD (place g Ls).toNat []) = true := by
  unfold place at h ⊢
  cases hf : Ls.findIdx? g with
  | none => rw [hf] at h; simp at h
  | some k =>
    obtain ⟨h1, h2, _⟩ := List.findIdx?_eq_some_iff_getElem.1 hf
    simp only [Int.toNat_natCast]
    rw [List.getD_eq_getElem?_getD, List.getElem?_eq_getElem h1]
    exact h2
theorem place_le {g : List Pt → Bool} {Ls : List (List Pt)} {i : Nat} (hi : i < Ls.length) (h : g (Ls.getD i []) = true) : 0 ≤ place g Ls ∧ place g Ls ≤ i := by
  rw [List.getD_eq_getElem?_getD, List.getElem?_eq_getElem hi] at h
  unfold place
  cases hf : Ls.findIdx? g with
  | none =>
    have h1 := List.findIdx?_eq_none_iff.1 hf Ls[i] (List.getElem_mem hi)
    rw [show g Ls[i] = true from h] at h1
    cases h1
  | some k =>
    obtain ⟨h1, h2, h3⟩ := List.findIdx?_eq_some_iff_getElem.1 hf
    refine ⟨by simp, ?_⟩
    by_cases hk : k ≤ i
    · simp; omega
    · have := h3 i (by omega)
      rw [show g Ls[i] = true from h] at this
      exact absurd rfl this
theorem shs_mem {Ls : List (List Pt)} : ∀ {n j : Nat}, j < (shs Ls n).length → ∃ i, i < n ∧ 0 ≤ shp Ls i ∧ (shs Ls n).getD j (0, 0) = (i, shp Ls i)
  | 0, j, h => absurd h (Nat.not_lt_zero _)
  | n + 1, j, h => by
    by_cases hp : 0 ≤ shp Ls n
    · rw [shs_yes hp] at h ⊢
      rw [List.length_append] at h
      by_cases hj : j < (shs Ls n).length
      · obtain ⟨i, h1, h2, h3⟩ := shs_mem hj
        refine ⟨i, by omega, h2, ?_⟩
        rw [List.getD_eq_getElem?_getD, List.getElem?_append_left hj, ← List.getD_eq_getElem?_getD]
        exact h3
      · have e : j = (shs Ls n).length := by simp at h; omega
        refine ⟨n, Nat.lt_succ_self _, hp, ?_⟩
        rw [List.getD_eq_getElem?_getD, e, List.getElem?_append_right (Nat.le_refl _)]
        simp
    · rw [shs_no hp] at h ⊢
      obtain ⟨i, h1, h2, h3⟩ := shs_mem h
      exact ⟨i, by omega, h2, h3⟩
/-- what is told of a shadowed one -/
theorem shs_told {Ls : List (List Pt)} {j : Nat} (h : j < (shs Ls Ls.length).length) : ∃ i k : Nat, (shs Ls Ls.length).getD j (0, 0) = (i, (k : Int)) ∧ i < Ls.length ∧ k < i ∧ covers (Ls.getD k []) (Ls.getD i []) = true := by
  obtain ⟨i, h1, h2, h3⟩ := shs_mem h
  have h4 := place_g h2
  have h5 := place_lt h2
  rw [List.length_take] at h5
  refine ⟨i, (shp Ls i).toNat, by rw [h3, Int.toNat_of_nonneg h2], h1, ?_, ?_⟩
  · unfold shp at h2 ⊢; omega
  · unfold shp at h2 h4 ⊢
    rw [List.getD_eq_getElem?_getD, List.getElem?_take_of_lt (by omega), ← List.getD_eq_getElem?_getD] at h4
    exact h4
end Ro
end Go.Proofs.YtgfammlmbjmkoaaGreatDoor
