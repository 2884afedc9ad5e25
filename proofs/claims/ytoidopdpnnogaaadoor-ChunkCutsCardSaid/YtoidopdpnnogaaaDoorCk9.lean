/- The program's chunks: Cut. -/
import Derived.Test.YtoidopdpnnogaaaDoorCk8
namespace Go.Proofs.YtoidopdpnnogaaaDoor
set_option linter.unusedVariables false
set_option linter.unusedSimpArgs false
open Go.RowKit Go.Shelf
attribute [local go_sem] Oper.semAt_some
set_option maxHeartbeats 2000000
theorem chunk1_any (m : Nat) (ao : Option Addr) (len cap n N B C : Nat) (own : Nat → Prop) (Kp : World → World → Prop) (hB : ¬ own B) (hC : ¬ own C)
    (hKp : ∀ X Y, Kp X Y → Y.heap[B]? = X.heap[B]? ∧ Y.heap[C]? = X.heap[C]?) (hn : 1 ≤ n) (hn2 : n ≤ 1000000) (hl : len ≤ 1000000) (hlc : len ≤ cap) (hN : PieN len n N) (W : World) (l : List UInt8) (hao : BRow W (.slice ao len cap) l)
    (hWB : Boxed W B 22 (.slice ao len cap)) (hWC : Boxed W C 3 (.int .i64 n)) :
    IterAt Fence.wide m Tryd.prog 88 #[.pointer (some ⟨B, 0, none⟩), .pointer (some ⟨C, 0, none⟩)] (fun k => #[.slice (ao.map fun a => ⟨a.block, a.off + k * n, none⟩) (min n (len - k * n)) (min n (len - k * n))]) N own Kp W := by
  obtain ⟨ao', c', h1, hc, h⟩ := hao
  cases h1
  rcases h with ⟨rfl, rfl, rfl⟩ | ⟨g, o, rfl, h⟩
  · have hN0 : N = 0 := by
      have h2 : ¬ 0 < N := fun h => absurd ((hN 0).2 h) (by simp)
      omega
    subst hN0
    intro l J Jx hJ hJx hY h0
    refine callsIn_of_wp Tryd.func88 rfl trivial ?_ rfl
    simp only [Tryd.ntmps88, List.size_toArray, List.length_cons, List.length_nil, Nat.reduceAdd, Nat.reduceSub, Array.replicate_succ, Array.replicate_zero, List.push_toArray, List.append_toArray, List.nil_append, List.cons_append]
    gi_wp2
    gi_loopw [4] (fun i wr => i = .int .i64 0 ∧ J 0 wr ∧ Boxed wr B 22 (.slice none 0 0)) (fun i _ => 0)
    case atStart => exact ⟨rfl, h0, hWB⟩
    case round =>
      obtain ⟨rfl, hj, hb⟩ := hrel
      have hcB := hb.cell
      gi_wp2
      go_end0
      exact ⟨⟨_, rfl⟩, .inl hj⟩
  · exact chunk1_it m g o l.length cap n N B C own Kp hB hC hKp hn hn2 hl hlc hN W hWB hWC
/-- where the loop of Cut stands: k pieces are out -/
def CutI (w : World) (E : Nat) (src : Value) (M : Nat) (L : List (List UInt8)) (k : Nat) (X : World) : Prop :=
  ∃ v xs, Boxed X E 24 v ∧ X.ownsRow (E + 3) 22 1 v k xs ∧ (∀ j, j < k → X.ownsRow 0 5 1 (xs.getD j (.slice none 0 0)) (L.getD j []).length ((L.getD j []).map by8)) ∧ Below E w X ∧ Boxed X (E + 1) 22 src ∧ Boxed X (E + 2) 3 (.int .i64 (M : Int))
theorem CutI.turn {w : World} {E M k B : Nat} {src : Value} {L : List (List UInt8)} {X Y : World} (h : CutI w E src M L k X) (ht : Turn B (fun _ => False) X Y) (hB : E ≤ B) (hw : E = w.heap.size) : CutI w E src M L k Y := by
  obtain ⟨v, xs, h1, h2, h3, h4, h5, h6⟩ := h
  have hX : E ≤ X.heap.size := by have := h4.size; omega
  exact ⟨v, xs, ht.boxed h1 id, turn_own ht h2 (fun _ => id), fun j hj => turn_own ht (h3 j hj) (fun _ => id), h4.trans (ht.below hB hX (fun _ h => h.elim)), ht.boxed h5 id, ht.boxed h6 id⟩
theorem grown_of_below {X Y : World} (h : Below X.heap.size X Y) : X.grownBy Y none := ⟨h.os, h.tape, h.output, h.size, fun k hk _ => h.block k hk⟩
theorem own_below {X Y : World} {b : Nat} {e : TypeId} {size n : Nat} {v : Value} {xs : List Value} (h : X.ownsRow b e size v n xs) (hb : Below X.heap.size X Y) : Y.ownsRow b e size v n xs :=
  h.kept (grown_of_below hb) (by cases v.ownBlock <;> simp)
theorem own_one {X : World} {b : Nat} {e : TypeId} {size n : Nat} {v : Value} {xs : List Value} (h : X.ownsRow b e size v n xs) : ∀ u ∈ [v], u.oneCell' = true := by
  intro u hu
  obtain rfl := List.mem_singleton.1 hu
  rcases h.2 with ⟨rfl, _⟩ | ⟨g, cap, cur, rfl, _⟩ <;> rfl
/-- a round of Cut's loop, of the plain worlds -/
theorem cut_round {w X w1 w3 : World} {E M N k e : Nat} {src v r v' : Value} {xs : List Value} {l : List UInt8} (hw : E = w.heap.size) (hbE : Boxed X E 24 v) (hown : X.ownsRow (E + 3) 22 1 v k xs)
    (hel : ∀ j, j < k → X.ownsRow 0 5 1 (xs.getD j (.slice none 0 0)) ((pies M N l).getD j []).length (((pies M N l).getD j []).map by8)) (hbel : Below E w X) (hB : Boxed X (E + 1) 22 src) (hC : Boxed X (E + 2) 3 (.int .i64 (M : Int)))
    (hk : k < N) (hb : Below X.heap.size X w1) (hr : w1.ownsRow X.heap.size 5 1 r e (((l.drop (k * M)).take M).map by8))
    (hown3 : w3.ownsRow (E + 3) 22 1 v' (k + 1) (xs ++ [r])) (hg3 : (w1.alloc (.cells #[r] 22)).grownBy w3 v.ownBlock) :
    w3.cell? ⟨E, 0, none⟩ = some v ∧ w3.frozen? ⟨E, 0, none⟩ = false ∧ KeepsFrom (E + 3) X (w3.setCell ⟨E, 0, none⟩ v') ∧
      ((w3.setCell ⟨E, 0, none⟩ v').heap[E + 1]? = X.heap[E + 1]? ∧ (w3.setCell ⟨E, 0, none⟩ v').heap[E + 2]? = X.heap[E + 2]?) ∧ CutI w E src M (pies M N l) (k + 1) (w3.setCell ⟨E, 0, none⟩ v') := by
  have hb2 : Below X.heap.size X (w1.alloc (.cells #[r] 22)) := hb.alloc hb.size _
  have hge : ∀ g, v.ownBlock = some g → E + 3 ≤ g := own8_ge hown
  have hge' : ∀ g, v'.ownBlock = some g → E + 3 ≤ g := own8_ge hown3
  have hlow : ∀ i, i < X.heap.size → some i ≠ v.ownBlock → w3.heap[i]? = X.heap[i]? := fun i hi hne => (hg3.block i (Nat.lt_of_lt_of_le hi hb2.size) hne).trans (hb2.block i hi)
  have hE : E < X.heap.size := lt_of_cell hbE.cell
  have hE1 : E + 1 < X.heap.size := lt_of_cell hB.cell
  have hE2 : E + 2 < X.heap.size := lt_of_cell hC.cell
  have hne : ∀ i, i < E + 3 → some i ≠ v.ownBlock := fun i hi h => by have := hge i h.symm; omega
  have bE3 : Boxed w3 E 24 v := (hlow E hE (hne E (by omega))).trans hbE
  have hset : ∀ i, i ≠ E → (w3.setCell ⟨E, 0, none⟩ v').heap[i]? = w3.heap[i]? := fun i hi => Below.heap_setCell _ _ _ i hi
  have hs3 : X.heap.size ≤ w3.heap.size := Nat.le_trans hb2.size hg3.size
  have hss : (w3.setCell ⟨E, 0, none⟩ v').heap.size = w3.heap.size := by simp
  have hlen : xs.length = k := by have := hown.1; omega
  have gE : w3.grownBy (w3.setCell ⟨E, 0, none⟩ v') (some E) := ⟨rfl, rfl, rfl, by rw [hss]; exact Nat.le_refl _, fun i hi hne => hset i (fun e => hne (by rw [e]))⟩
  have offE : ∀ {y : Value} {n : Nat} {ys : List Value} {b : Nat} {t : TypeId}, w3.ownsRow b t 1 y n ys → (∀ g, y.ownBlock = some g → g ≠ E) → (w3.setCell ⟨E, 0, none⟩ v').ownsRow b t 1 y n ys := fun h hg => h.kept gE (by
    rename_i y _ _ _ _
    cases hy : y.ownBlock with
    | none => exact .inl rfl
    | some g => exact .inr (fun e => hg g hy (by simpa using e)))
  refine ⟨bE3.cell, bE3.frozen, ⟨by rw [hss]; exact hs3, fun i o hi ho hc => ?_⟩, ⟨(hset _ (by omega)).trans (hlow _ hE1 (hne _ (by omega))), (hset _ (by omega)).trans (hlow _ hE2 (hne _ (by omega)))⟩, v', xs ++ [r], bE3.set _, ?_, ?_, ?_, ?_, ?_⟩
  · have hi2 := (Array.getElem?_eq_some_iff.1 ho).1
    have hnv : some i ≠ v.ownBlock := by
      intro h
      rcases hown.2 with ⟨rfl, _⟩ | ⟨g, cap, cur, rfl, _, hg, _⟩
      · simp [Value.ownBlock] at h
      · simp only [Value.ownBlock, Option.some.injEq] at h
        subst h
        rw [hg] at ho
        cases ho
        cases hc
    rw [hset i (by omega), hlow i hi2 hnv, ho]
  · exact offE hown3 (fun g hg => by have := hge' g hg; omega)
  · intro j hj
    have hap : ∀ {y : Value} {n : Nat} {ys : List Value} {b : Nat}, (w1.alloc (.cells #[r] 22)).ownsRow b 5 1 y n ys → (w3.setCell ⟨E, 0, none⟩ v').ownsRow b 5 1 y n ys := fun h => by
      have h1 := own_apart (by decide) (own_below hown hb2) h
      have h3 := h.kept hg3 h1
      refine offE h3 (fun g hg he => ?_)
      subst he
      rename_i y _ _ _
      have h4 := own_apart (W := w3) (b := 0) (e := 24) (e' := 5) (size := 1) (n := 1) (v := .slice (some ⟨g, 0, none⟩) 1 1) (xs := [v]) (by decide) ⟨rfl, .inr ⟨g, 1, #[v], rfl, Nat.zero_le _, bE3, Nat.le_refl _, by decide, rfl, rfl⟩⟩ h3
      rcases h4 with h4 | h4
      · rw [hg] at h4; cases h4
      · exact h4 hg
    by_cases hjk : j < k
    · rw [List.getD_eq_getElem?_getD, List.getElem?_append_left (by omega), ← List.getD_eq_getElem?_getD]
      exact hap (own_below (hel j hjk) hb2)
    · obtain rfl : j = k := by omega
      have hrl : (((l.drop (j * M)).take M).map by8).length = e := by have := hr.1; omega
      rw [List.getD_eq_getElem?_getD, List.getElem?_append_right (by omega), hlen, Nat.sub_self, pies_get _ _ _ _ hk]
      have h5 : w1.ownsRow 0 5 1 r ((l.drop (j * M)).take M).length (((l.drop (j * M)).take M).map by8) := by
        rw [List.length_map] at hrl
        rw [hrl]
        exact own_less hr (Nat.zero_le _)
      exact hap (h5.alloc _)
  · refine ⟨hg3.os.trans (hb2.os.trans hbel.os), hg3.tape.trans (hb2.tape.trans hbel.tape), hg3.output.trans (hb2.output.trans hbel.output), by rw [hss]; exact Nat.le_trans hbel.size hs3, fun i hi => ?_⟩
    exact (hset i (by omega)).trans ((hlow i (by omega) (hne i (by omega))).trans (hbel.block i hi))
  · exact (hset _ (by omega)).trans ((hlow _ hE1 (hne _ (by omega))).trans hB)
  · exact (hset _ (by omega)).trans ((hlow _ hE2 (hne _ (by omega))).trans hC)
/-- Cut's end, of the plain worlds -/
theorem cut_end {w X : World} {E N D : Nat} {v : Value} {xs : List Value} {L : List (List UInt8)} {o' : Obj} (hbE : Boxed X E 24 v) (hown : X.ownsRow (E + 3) 22 1 v N xs) (hL : L.length = N)
    (hel : ∀ j, j < N → X.ownsRow 0 5 1 (xs.getD j (.slice none 0 0)) (L.getD j []).length ((L.getD j []).map by8)) (hbel : Below E w X) (hD : E + 3 ≤ D) (hK : X.heap[D]? = some (.deferred (some []))) :
    ((X.setCell ⟨E, 0, none⟩ v).putObj D o').cell? ⟨E, 0, none⟩ = some v ∧ BRows ((X.setCell ⟨E, 0, none⟩ v).putObj D o') v L ∧ Below E w ((X.setCell ⟨E, 0, none⟩ v).putObj D o') := by
  have hset : ∀ i, i ≠ E → (X.setCell ⟨E, 0, none⟩ v).heap[i]? = X.heap[i]? := fun i hi => Below.heap_setCell _ _ _ i hi
  have hss : (X.setCell ⟨E, 0, none⟩ v).heap.size = X.heap.size := by simp
  have gE : X.grownBy (X.setCell ⟨E, 0, none⟩ v) (some E) := ⟨rfl, rfl, rfl, by rw [hss]; exact Nat.le_refl _, fun i hi hne => hset i (fun e => hne (by rw [e]))⟩
  have hT : Turn D (fun _ => False) (X.setCell ⟨E, 0, none⟩ v) ((X.setCell ⟨E, 0, none⟩ v).putObj D o') := .putObj o' (Nat.le_refl _) ((hset D (by omega)).trans hK) rfl
  have hge : ∀ g, v.ownBlock = some g → E + 3 ≤ g := own8_ge hown
  have h1 : ((X.setCell ⟨E, 0, none⟩ v).putObj D o').ownsRow (E + 3) 22 1 v N xs := turn_own hT (hown.kept gE (by
    cases hy : v.ownBlock with
    | none => exact .inl rfl
    | some g => exact .inr (fun e => by have := hge g hy; simp at e; omega))) (fun _ => id)
  refine ⟨(hT.boxed (hbE.set v) id).cell, brows_own h1 hL (fun k hk => ?_), ?_⟩
  · have h2 := hel k hk
    refine BRow.of_own (turn_own hT (h2.kept gE ?_) (fun _ => id))
    have h4 := own_apart (W := X) (b := 0) (e := 24) (e' := 5) (size := 1) (n := 1) (v := .slice (some ⟨E, 0, none⟩) 1 1) (xs := [v]) (by decide) ⟨rfl, .inr ⟨E, 1, #[v], rfl, Nat.zero_le _, hbE, Nat.le_refl _, by decide, rfl, rfl⟩⟩ h2
    exact h4
  · have hX : E ≤ X.heap.size := Nat.le_of_lt (lt_of_cell hbE.cell)
    have hb2 : Below E X (X.setCell ⟨E, 0, none⟩ v) := ⟨rfl, rfl, rfl, by rw [hss]; exact Nat.le_refl _, fun i hi => hset i (by omega)⟩
    exact (hbel.trans hb2).trans (hT.below (by omega) (by rw [hss]; exact hX) (fun _ h => h.elim))
set_option maxRecDepth 100000 in
theorem ck_cut_wrong (v : Value) (most : Int) (w : World) (hm : most < 1) :
    Calls Tryd.prog 13 #[v, .int .i64 most] w fun e w' => e = .returned (.tuple #[.slice none 0 0, .int .i64 2]) ∧ Below w.heap.size w w' := by
  go_enter Tryd.func13, Tryd.ntmps13
  go_wp2_with fail
  refine wp_scope_fwd 0 rfl ?_
  go_wp2
  apply wp_goto
  simp only [Exit.then]
  refine onGoto_goto ?_
  go_wp2
  rw [Exit.noGoto_ret]
  have hcw := (Boxed.new w 24 (.slice none 0 0)).cell
  refine bodyPost_ret (v := .tuple #[.slice none 0 0, .int .i64 2]) (by simp [results, Tryd.results13, go_sem, hcw]) rfl ⟨rfl, ?_⟩
  exact (Below.refl _ w).alloc (Nat.le_refl _) _
set_option maxRecDepth 100000 in
theorem ck_cut (ao : Option Addr) (n cap M N : Nat) (l : List UInt8) (most : Int) (w : World) (h : BRow w (.slice ao n cap) l) (hl : n ≤ 1000) (hm : ¬ most < 1) (hM : min most ((n : Int) + 1) = (M : Int)) (hN : PieN n M N) :
    Calls Tryd.prog 13 #[.slice ao n cap, .int .i64 most] w fun e w' => ∃ r, e = .returned (.tuple #[r, .int .i64 0]) ∧ BRows w' r (pies M N l) ∧ Below w.heap.size w w' := by
  have hcap : n ≤ cap := by obtain ⟨_, _, e, h1, _⟩ := h; cases e; exact h1
  refine (callsIn_wide (n := 9)).1 (callsIn_of_wp_marks Tryd.func13 rfl trivial ?_ rfl)
  simp only [Tryd.ntmps13, List.size_toArray, List.length_cons, List.length_nil, Nat.reduceAdd, Nat.reduceSub, Array.replicate_succ, Array.replicate_zero, List.push_toArray, List.append_toArray, List.nil_append, List.cons_append]
  gi_wp2_with fail
  refine wpW_scope ?_
  gi_wp2_with fail
  have hM2 : 1 ≤ M := by omega
  have hM3 : M ≤ 1001 := by omega
  refine ⟨trivial, (callsIn_wide.2 (sl_chunk ao n cap (M : Int) _ (by omega) (by omega))).mono ?_⟩
  rintro e w' ⟨rfl, rfl⟩
  obtain ⟨E, hE⟩ : ∃ E, w.heap.size = E := ⟨_, rfl⟩
  obtain ⟨W0, hW0⟩ : ∃ W0, ((w.alloc (.cells #[.slice none 0 0] 24)).alloc (.cells #[.slice ao n cap] 22)).alloc (.cells #[.int .i64 (M : Int)] 3) = W0 := ⟨_, rfl⟩
  have hs0 : W0.heap.size = E + 3 := by rw [← hW0, ← hE]; simp
  have bE : Boxed W0 E 24 (.slice none 0 0) := by
    rw [← hW0, ← hE]; exact ((Boxed.new w _ _).alloc _).alloc _
  have bB : Boxed W0 (E + 1) 22 (.slice ao n cap) := by
    rw [← hW0, ← hE]; have := (Boxed.new (w.alloc (.cells #[.slice none 0 0] 24)) 22 (.slice ao n cap)).alloc (.cells #[.int .i64 (M : Int)] 3); rwa [World.size_alloc] at this
  have bC : Boxed W0 (E + 2) 3 (.int .i64 (M : Int)) := by
    rw [← hW0, ← hE]; have := Boxed.new ((w.alloc (.cells #[.slice none 0 0] 24)).alloc (.cells #[.slice ao n cap] 22)) 3 (.int .i64 (M : Int)); rwa [World.size_alloc, World.size_alloc] at this
  have hbel : Below E w W0 := by
    rw [← hW0, ← hE]; exact (((Below.refl _ w).alloc (Nat.le_refl _) _).alloc (by simp) _).alloc (by simp; omega) _
  rw [World.size_alloc, hE, hW0]
  clear hW0
  gi_wp2_with fail
  have hB : ∀ W, Below E w W → BRow W (.slice ao n cap) l := fun W hb => h.below (by rw [hE]; exact hb)
  have hlen : l.length = n := by obtain ⟨_, _, e, _⟩ := h; cases e; rfl
  obtain ⟨i0, hi, hz0, hz1, hz2⟩ := info_parts info8s
  refine rf_break (N := N) (own := fun _ => False) (Kp := fun X Y => Y.heap[E + 1]? = X.heap[E + 1]? ∧ Y.heap[E + 2]? = X.heap[E + 2]?) (encs := fun k => #[.slice (ao.map fun a => ⟨a.block, a.off + k * M, none⟩) (min M (n - k * M)) (min M (n - k * M))])
    rfl (by omega) (gf := 88) (lb := #[.pointer (some ⟨E + 1, 0, none⟩), .pointer (some ⟨E + 2, 0, none⟩)]) rfl trivial (enters_of Tryd.func88 (by kernel_rfl) rfl)
    (fun _ => rfl) (fun b hb => hb.elim)
    (fun X hX hs => chunk1_any _ ao n cap M N (E + 1) (E + 2) _ _ id id (fun _ _ h => h) hM2 (by omega) (by omega) hcap hN X l (hB X (hbel.trans (hX.mono (by omega)))) ((hX.block _ (by omega)).trans bB) ((hX.block _ (by omega)).trans bC))
    (fun h k => ⟨k.1.trans h.1, k.2.trans h.2⟩) (fun X o o' h2 h3 => ⟨World.putObj_heap_other (by omega), World.putObj_heap_other (by omega)⟩)
    (CutI w E (.slice ao n cap) M (pies M N l)) (CutI w E (.slice ao n cap) M (pies M N l) N)
    (fun k X Y hs ht => hs.turn ht (by omega) hE.symm) (fun X Y hs ht => hs.turn ht (by omega) hE.symm)
    ⟨_, [], bE, World.ownsRow_nil _ _ _ _, fun j hj => absurd hj (by omega), hbel, bB, bC⟩
    (fun k b _ => b = { tmps := #[.slice ao n cap, .int .i64 most, undef, undef, .pointer (some ⟨E, 0, none⟩), .int .i64 0, .slice (ao.map fun a => ⟨a.block, a.off + k * M, none⟩) (min M (n - k * M)) (min M (n - k * M)), .int .i64 most, .bool (decide (most < 1)), .slice ao n cap, .int .i64 most, .slice ao n cap, .int .i64 n, .int .i64 (n + 1), .int .i64 M, .func (.func 88) #[] #[.pointer (some ⟨E + 1, 0, none⟩), .pointer (some ⟨E + 2, 0, none⟩)], .slice (ao.map fun a => ⟨a.block, a.off + k * M, none⟩) (min M (n - k * M)) (min M (n - k * M)), undef, undef, undef, undef, undef, undef], defers := [] })
    (fun _ _ _ _ hs _ => hs) ?assign ?body (fun _ h => h) ?fin
  case assign =>
    intro l' k X K hk hi hK
    gi_wp2
    exact hK _ _ (KeepsFrom.refl _ _) ⟨rfl, rfl⟩ hi rfl
  case body =>
    rintro l' k b X hl' ⟨r, hr⟩ hk ⟨v, xs, bE', hown, hel, hbX, bB', bC'⟩ rfl
    obtain ⟨ao', c', e1, _, hh⟩ := hB X hbX
    cases e1
    have hkn := (hN k).2 hk
    rcases hh with ⟨rfl, hl0, _⟩ | ⟨g, o, rfl, _⟩
    · subst hl0
      exact absurd hkn (by simp)
    have hMn := hM3
    obtain ⟨e, he⟩ : ∃ e, min M (l.length - k * M) = e := ⟨_, rfl⟩
    have HE0 : Hid (0 < e) := Lib.hid (by omega)
    have hck := ck_clone2 g (o + k * M) e e ((l.drop (k * M)).take M) X.drew (brow_piece (hB X.drew ⟨hbX.os, hbX.tape, hbX.output, hbX.size, hbX.block⟩) (k * M) e (by omega) M he.symm) (by omega)
    have HCL := Lib.hid hck
    have hcE : X.cell? ⟨E, 0, none⟩ = some v := bE'.cell
    have hE3 : E + 3 ≤ X.heap.size := lt_of_cell bC'.cell
    have hkN : k < 2000 := by
      have h1 : k ≤ k * M := Nat.le_mul_of_pos_right k (by omega)
      omega
    have HS0 := Lib.hid hs0
    have HBEL : Hid (∀ w1, Below X.heap.size X w1 → w1.cell? ⟨E, 0, none⟩ = some v) := Lib.hid (fun w1 hb => cell_below hb hcE)
    have HALL : Hid (∀ (w1 : World) (r : Value), w1.cell? ⟨E, 0, none⟩ = some v → (w1.alloc (.cells #[r] 22)).cell? ⟨E, 0, none⟩ = some v) := Lib.hid (fun w1 r h => cell_below ((Below.refl _ w1).alloc (Nat.le_refl _) _) h)
    have HOWN : Hid (∀ (w1 : World) (r : Value), Below X.heap.size X w1 → (w1.alloc (.cells #[r] 22)).ownsRow (E + 3) 22 1 v k xs) := Lib.hid (fun w1 r hb => own_below hown (hb.alloc hb.size _))
    have HSZ : Hid (∀ (w1 : World) (r : Value), Below X.heap.size X w1 → E + 3 ≤ (w1.alloc (.cells #[r] 22)).heap.size) := Lib.hid (fun w1 r hb => by have := hb.size; simp; omega)
    have HFIN := Lib.hid (fun (w1 w3 : World) (r v' : Value) (hb : Below X.heap.size X w1) (hr : w1.ownsRow X.heap.size 5 1 r e (((l.drop (k * M)).take M).map by8)) (h3 : w3.ownsRow (E + 3) 22 1 v' (k + 1) (xs ++ [r])) (g3 : (w1.alloc (.cells #[r] 22)).grownBy w3 v.ownBlock) =>
      cut_round (N := N) hE.symm bE' hown hel hbX bB' bC' hk hb hr h3 g3)
    simp only [Option.map, he]
    clear hck hB hel hbX bB' bC' hown bE' hs0 bE bB bC hbel hN h hkn hr he
    gi_wp2_with fail
    refine wpIn_region_any (by kernel_rfl) ?_
    change wpAnyIn _ _ _ _ _ _ _ _ _ (World.drew _)
    refine wpAnyIn_ready (rs := [0, 1]) (by kernel_rfl) (by simp) ?_
    refine ready_round rfl rfl (fun c h => by cases h) (fun K hK => ?_) (ready_round rfl rfl (fun c h => by cases h) (fun K hK => ?_) AllReadyIn.nil)
    · skip
      go_simp
      refine hK _ _ ?_
      clear hK K
      refine wpAnyIn_ready (rs := [1]) (by kernel_rfl) (by simp) ?_
      refine ready_round rfl rfl (fun c h => by cases h) (fun K hK => ?_) AllReadyIn.nil
      go_simp
      refine hK _ _ ?_
      clear hK K
      refine wpAnyIn_ready (rs := [2]) (by kernel_rfl) (by simp) ?_
      refine ready_round rfl rfl (fun c h => by cases h) (fun K hK => ?_) AllReadyIn.nil
      go_simp
      go_at_call 54
      refine HCL.out.mono ?_
      rintro z w1 ⟨r, rfl, hr, hb⟩
      obtain ⟨g1, cap1, rfl⟩ := own_form hr HE0.out
      have HB : Hid (Below X.heap.size X w1) := Lib.hid ⟨hb.os, hb.tape, hb.output, hb.size, hb.block⟩
      have hcE1 := (HBEL.out w1 HB.out)
      have HR := Lib.hid hr
      clear hr hb
      go_simp
      refine hK _ _ ?_
      clear hK K
      refine wpAnyIn_ready (rs := [3]) (by kernel_rfl) (by simp) ?_
      refine ready_round rfl rfl (fun c h => by cases h) (fun K hK => ?_) AllReadyIn.nil
      go_simp
      have hcE2 := HALL.out w1 (.slice (some ⟨g1, 0, none⟩) e cap1) hcE1
      refine hK _ _ ?_
      clear hK K
      refine wpAnyIn_ready (rs := [4]) (by kernel_rfl) (by simp) ?_
      refine ready_round rfl rfl (fun c h => by cases h) (fun K hK => ?_) AllReadyIn.nil
      have HOW2 := Lib.hid (HOWN.out w1 (.slice (some ⟨g1, 0, none⟩) e cap1) HB.out)
      refine wp_append_own _ (.tmp 17) (.tmp 20) 24 rfl (E + 3) 22 i0 (.slice none 0 0) 1 24 Tryd.underlying24 hi hz0 hz1 hz2 rfl (by decide) v k xs (by simp [Act.eval, Act.put]) HOW2.out ⟨w1.heap.size, 0, none⟩ 1 1 [.slice (some ⟨g1, 0, none⟩) e cap1] (by simp [Act.eval, Act.put]) rfl (fun j u hj => cell_one_any _ _ j u hj) (own_one HR.out) (by unfold maxLen; omega) (by omega) (HSZ.out w1 (.slice (some ⟨g1, 0, none⟩) e cap1) HB.out) ?_
      intro v' w3 hown3 hgr3 _
      have HPOST := Lib.hid (HFIN.out w1 w3 (.slice (some ⟨g1, 0, none⟩) e cap1) v' HB.out HR.out hown3 hgr3)
      obtain ⟨g3, cap3, rfl⟩ := own_form hown3 (by omega)
      refine hK _ _ ?_
      clear hK K hcE1 hcE2
      have hcE3 := HPOST.out.1
      have hfE3 := HPOST.out.2.1
      clear hown3 hgr3
      refine wpAnyIn_ready (rs := [5]) (by kernel_rfl) (by simp) ?_
      refine ready_round rfl rfl (fun c h => by cases h) (fun K hK => ?_) AllReadyIn.nil
      go_simp
      refine hK _ _ ?_
      clear hK K
      refine wpAnyIn_done (by kernel_rfl) ?_ _
      exact ⟨by rw [HS0.out]; exact HPOST.out.2.2.1, HPOST.out.2.2.2⟩
    · skip
      go_simp
      refine hK _ _ ?_
      clear hK K
      refine wpAnyIn_ready (rs := [0, 2]) (by kernel_rfl) (by simp) ?_
      refine ready_round rfl rfl (fun c h => by cases h) (fun K hK => ?_) (ready_round rfl rfl (fun c h => by cases h) (fun K hK => ?_) AllReadyIn.nil)
      · skip
        go_simp
        refine hK _ _ ?_
        clear hK K
        refine wpAnyIn_ready (rs := [2]) (by kernel_rfl) (by simp) ?_
        refine ready_round rfl rfl (fun c h => by cases h) (fun K hK => ?_) AllReadyIn.nil
        go_simp
        go_at_call 54
        refine HCL.out.mono ?_
        rintro z w1 ⟨r, rfl, hr, hb⟩
        obtain ⟨g1, cap1, rfl⟩ := own_form hr HE0.out
        have HB : Hid (Below X.heap.size X w1) := Lib.hid ⟨hb.os, hb.tape, hb.output, hb.size, hb.block⟩
        have hcE1 := (HBEL.out w1 HB.out)
        have HR := Lib.hid hr
        clear hr hb
        go_simp
        refine hK _ _ ?_
        clear hK K
        refine wpAnyIn_ready (rs := [3]) (by kernel_rfl) (by simp) ?_
        refine ready_round rfl rfl (fun c h => by cases h) (fun K hK => ?_) AllReadyIn.nil
        go_simp
        have hcE2 := HALL.out w1 (.slice (some ⟨g1, 0, none⟩) e cap1) hcE1
        refine hK _ _ ?_
        clear hK K
        refine wpAnyIn_ready (rs := [4]) (by kernel_rfl) (by simp) ?_
        refine ready_round rfl rfl (fun c h => by cases h) (fun K hK => ?_) AllReadyIn.nil
        have HOW2 := Lib.hid (HOWN.out w1 (.slice (some ⟨g1, 0, none⟩) e cap1) HB.out)
        refine wp_append_own _ (.tmp 17) (.tmp 20) 24 rfl (E + 3) 22 i0 (.slice none 0 0) 1 24 Tryd.underlying24 hi hz0 hz1 hz2 rfl (by decide) v k xs (by simp [Act.eval, Act.put]) HOW2.out ⟨w1.heap.size, 0, none⟩ 1 1 [.slice (some ⟨g1, 0, none⟩) e cap1] (by simp [Act.eval, Act.put]) rfl (fun j u hj => cell_one_any _ _ j u hj) (own_one HR.out) (by unfold maxLen; omega) (by omega) (HSZ.out w1 (.slice (some ⟨g1, 0, none⟩) e cap1) HB.out) ?_
        intro v' w3 hown3 hgr3 _
        have HPOST := Lib.hid (HFIN.out w1 w3 (.slice (some ⟨g1, 0, none⟩) e cap1) v' HB.out HR.out hown3 hgr3)
        obtain ⟨g3, cap3, rfl⟩ := own_form hown3 (by omega)
        refine hK _ _ ?_
        clear hK K hcE1 hcE2
        have hcE3 := HPOST.out.1
        have hfE3 := HPOST.out.2.1
        clear hown3 hgr3
        refine wpAnyIn_ready (rs := [5]) (by kernel_rfl) (by simp) ?_
        refine ready_round rfl rfl (fun c h => by cases h) (fun K hK => ?_) AllReadyIn.nil
        go_simp
        refine hK _ _ ?_
        clear hK K
        refine wpAnyIn_done (by kernel_rfl) ?_ _
        exact ⟨by rw [HS0.out]; exact HPOST.out.2.2.1, HPOST.out.2.2.2⟩
      · skip
        go_simp
        go_at_call 54
        refine HCL.out.mono ?_
        rintro z w1 ⟨r, rfl, hr, hb⟩
        obtain ⟨g1, cap1, rfl⟩ := own_form hr HE0.out
        have HB : Hid (Below X.heap.size X w1) := Lib.hid ⟨hb.os, hb.tape, hb.output, hb.size, hb.block⟩
        have hcE1 := (HBEL.out w1 HB.out)
        have HR := Lib.hid hr
        clear hr hb
        go_simp
        refine hK _ _ ?_
        clear hK K
        refine wpAnyIn_ready (rs := [0, 3]) (by kernel_rfl) (by simp) ?_
        refine ready_round rfl rfl (fun c h => by cases h) (fun K hK => ?_) (ready_round rfl rfl (fun c h => by cases h) (fun K hK => ?_) AllReadyIn.nil)
        · skip
          go_simp
          refine hK _ _ ?_
          clear hK K
          refine wpAnyIn_ready (rs := [3]) (by kernel_rfl) (by simp) ?_
          refine ready_round rfl rfl (fun c h => by cases h) (fun K hK => ?_) AllReadyIn.nil
          go_simp
          have hcE2 := HALL.out w1 (.slice (some ⟨g1, 0, none⟩) e cap1) hcE1
          refine hK _ _ ?_
          clear hK K
          refine wpAnyIn_ready (rs := [4]) (by kernel_rfl) (by simp) ?_
          refine ready_round rfl rfl (fun c h => by cases h) (fun K hK => ?_) AllReadyIn.nil
          have HOW2 := Lib.hid (HOWN.out w1 (.slice (some ⟨g1, 0, none⟩) e cap1) HB.out)
          refine wp_append_own _ (.tmp 17) (.tmp 20) 24 rfl (E + 3) 22 i0 (.slice none 0 0) 1 24 Tryd.underlying24 hi hz0 hz1 hz2 rfl (by decide) v k xs (by simp [Act.eval, Act.put]) HOW2.out ⟨w1.heap.size, 0, none⟩ 1 1 [.slice (some ⟨g1, 0, none⟩) e cap1] (by simp [Act.eval, Act.put]) rfl (fun j u hj => cell_one_any _ _ j u hj) (own_one HR.out) (by unfold maxLen; omega) (by omega) (HSZ.out w1 (.slice (some ⟨g1, 0, none⟩) e cap1) HB.out) ?_
          intro v' w3 hown3 hgr3 _
          have HPOST := Lib.hid (HFIN.out w1 w3 (.slice (some ⟨g1, 0, none⟩) e cap1) v' HB.out HR.out hown3 hgr3)
          obtain ⟨g3, cap3, rfl⟩ := own_form hown3 (by omega)
          refine hK _ _ ?_
          clear hK K hcE1 hcE2
          have hcE3 := HPOST.out.1
          have hfE3 := HPOST.out.2.1
          clear hown3 hgr3
          refine wpAnyIn_ready (rs := [5]) (by kernel_rfl) (by simp) ?_
          refine ready_round rfl rfl (fun c h => by cases h) (fun K hK => ?_) AllReadyIn.nil
          go_simp
          refine hK _ _ ?_
          clear hK K
          refine wpAnyIn_done (by kernel_rfl) ?_ _
          exact ⟨by rw [HS0.out]; exact HPOST.out.2.2.1, HPOST.out.2.2.2⟩
        · skip
          go_simp
          have hcE2 := HALL.out w1 (.slice (some ⟨g1, 0, none⟩) e cap1) hcE1
          refine hK _ _ ?_
          clear hK K
          refine wpAnyIn_ready (rs := [0]) (by kernel_rfl) (by simp) ?_
          refine ready_round rfl rfl (fun c h => by cases h) (fun K hK => ?_) AllReadyIn.nil
          go_simp
          refine hK _ _ ?_
          clear hK K
          refine wpAnyIn_ready (rs := [4]) (by kernel_rfl) (by simp) ?_
          refine ready_round rfl rfl (fun c h => by cases h) (fun K hK => ?_) AllReadyIn.nil
          have HOW2 := Lib.hid (HOWN.out w1 (.slice (some ⟨g1, 0, none⟩) e cap1) HB.out)
          refine wp_append_own _ (.tmp 17) (.tmp 20) 24 rfl (E + 3) 22 i0 (.slice none 0 0) 1 24 Tryd.underlying24 hi hz0 hz1 hz2 rfl (by decide) v k xs (by simp [Act.eval, Act.put]) HOW2.out ⟨w1.heap.size, 0, none⟩ 1 1 [.slice (some ⟨g1, 0, none⟩) e cap1] (by simp [Act.eval, Act.put]) rfl (fun j u hj => cell_one_any _ _ j u hj) (own_one HR.out) (by unfold maxLen; omega) (by omega) (HSZ.out w1 (.slice (some ⟨g1, 0, none⟩) e cap1) HB.out) ?_
          intro v' w3 hown3 hgr3 _
          have HPOST := Lib.hid (HFIN.out w1 w3 (.slice (some ⟨g1, 0, none⟩) e cap1) v' HB.out HR.out hown3 hgr3)
          obtain ⟨g3, cap3, rfl⟩ := own_form hown3 (by omega)
          refine hK _ _ ?_
          clear hK K hcE1 hcE2
          have hcE3 := HPOST.out.1
          have hfE3 := HPOST.out.2.1
          clear hown3 hgr3
          refine wpAnyIn_ready (rs := [5]) (by kernel_rfl) (by simp) ?_
          refine ready_round rfl rfl (fun c h => by cases h) (fun K hK => ?_) AllReadyIn.nil
          go_simp
          refine hK _ _ ?_
          clear hK K
          refine wpAnyIn_done (by kernel_rfl) ?_ _
          exact ⟨by rw [HS0.out]; exact HPOST.out.2.2.1, HPOST.out.2.2.2⟩
  case fin =>
    rintro D X hD ⟨v, xs, bE', hown, hel, hbX, bB', bC'⟩ hK
    have hpost := fun o' => cut_end (o' := o') bE' hown (pies_len M N l) hel hbX (by omega) hK
    have hcE := bE'.cell
    have hfE := bE'.frozen
    have HPOST := Lib.hid hpost
    have hK' : (X.setCell ⟨E, 0, none⟩ v).heap[D]? = some (.deferred (some [])) := (Below.heap_setCell _ _ _ D (by show D ≠ E; omega)).trans hK
    have HK := Lib.hid hK'
    clear hpost hK' hK hel hbX bB' bC'
    rcases hown.2 with ⟨rfl, _⟩ | ⟨g3, cap3, _, rfl, _⟩
    all_goals
      clear hown
      gi_wp2
      rw [Exit.noGoto_ret]
      refine ⟨by simp, .inl ⟨_, _, rfl, run_takeDeferred HK.out, ?_⟩⟩
      have hp := HPOST.out (.deferred none)
      have hcp := hp.1
      refine ⟨_, (by simp [results, Tryd.results13, go_sem, hcp]), ⟨_, rfl, hp.2.1, by rw [hE]; exact hp.2.2⟩⟩
end Go.Proofs.YtoidopdpnnogaaaDoor
