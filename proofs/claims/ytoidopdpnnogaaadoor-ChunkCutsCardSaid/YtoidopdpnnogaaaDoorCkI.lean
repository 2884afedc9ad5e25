/- The iterators over slices of bytes: slices.All's and chunk.Each's. -/
import Derived.Test.YtoidopdpnnogaaaDoorCkH
import Derived.Test.YtoidopdpnnogaaaDoorCkF
import Derived.Test.YtoidopdpnnogaaaDoorRg
import Derived.Test.YtoidopdpnnogaaaDoorRr
namespace Go.Proofs.YtoidopdpnnogaaaDoor
set_option linter.unusedVariables false
set_option linter.unusedSimpArgs false
open Go.RowKit Go.Shelf
attribute [local go_sem] Oper.semAt_some
set_option maxHeartbeats 2000000
theorem sl_all8 (p : Option Addr) (n c : Nat) (w : World) :
    Calls Tryd.prog 58 #[.slice p n c] w fun e w' => e = .returned (.func (.func 89) #[] #[.pointer (some ⟨w.heap.size, 0, none⟩)]) ∧ w' = w.alloc (.cells #[.slice p n c] 24) := by
  go_enter Tryd.func58, Tryd.ntmps58
  go_wp2
  go_ret
  exact ⟨rfl, rfl⟩
theorem all8_it (m : Nat) (g o n cap B : Nat) (xs : List Value) (own : Nat → Prop) (Kp : World → World → Prop) (hg : ¬ own g) (hKp : ∀ X Y, 0 < n → g < X.heap.size → Kp X Y → Y.heap[g]? = X.heap[g]?) (hn : n ≤ 1000000) (hnc : n ≤ cap) (W : World)
    (hWB : Boxed W B 24 (.slice (some ⟨g, o, none⟩) n cap)) (hc : ∀ k, k < n → W.cell? ⟨g, o + k, none⟩ = some (xs.getD k (.slice none 0 0))) :
    IterAt Fence.wide m Tryd.prog 89 #[.pointer (some ⟨B, 0, none⟩)] (fun k => #[.int .i64 k, xs.getD k (.slice none 0 0)]) n own Kp W := by
  intro l J Jx hJ hJx hY h0
  refine callsIn_of_wp Tryd.func89 rfl trivial ?_ rfl
  simp only [Tryd.ntmps89, List.size_toArray, List.length_cons, List.length_nil, Nat.reduceAdd, Nat.reduceSub, Array.replicate_succ, Array.replicate_zero, List.push_toArray, List.append_toArray, List.nil_append, List.cons_append]
  have hcB := hWB.cell
  have HC := Lib.hid hc
  have hgW : 0 < n → g < W.heap.size := fun h => lt_of_cell (hc 0 h)
  clear hc
  gi_wp2
  gi_loopw [7] (fun i wr => ∃ k : Nat, k ≤ n ∧ i = .int .i64 k ∧ J k wr ∧ wr.heap[g]? = W.heap[g]?) (fun i _ => n - (intOf i).toNat)
  case atStart => exact ⟨0, Nat.zero_le _, rfl, h0, rfl⟩
  case round =>
    obtain ⟨k, hk, rfl, hj, hb⟩ := hrel
    have HBG := Lib.hid hb
    by_cases hlt : k < n
    · have hx : wr.cell? ⟨g, o + k, none⟩ = some (xs.getD k (.slice none 0 0)) := (World.cell?_of_block (a := ⟨g, o + k, none⟩) hb).trans (HC.out k hlt)
      obtain ⟨fn, tmps, assign, body, hy, hR⟩ := hY k wr hlt hj
      obtain ⟨x, hxx⟩ : ∃ x, xs.getD k (.slice none 0 0) = x := ⟨_, rfl⟩
      rw [hxx] at hx hy
      clear hb hxx hcB
      gi_wp2
      refine ⟨(fun h => by cases h), hR.mono ?_⟩
      rintro z Y (⟨rfl, hj', hkp, _⟩ | ⟨rfl, hjx, _⟩)
      · have hgY : Y.heap[g]? = W.heap[g]? := (hKp _ _ (by omega) (lt_of_cell hx) hkp).trans HBG.out
        have HGY := Lib.hid hgY
        clear hgY hx hy
        gi_wp2
        go_roundw
        case rel => exact ⟨k + 1, by omega, by go_num, hj', HGY.out⟩
        case measure => simp [intOf]; omega
      · gi_wp2
        refine bodyPost_ret (results_none rfl _ _ _) rfl ?_
        exact ⟨⟨_, rfl⟩, .inr hjx⟩
    · gi_wp2
      go_end0
      have hkN : k = n := by omega
      exact ⟨⟨_, rfl⟩, .inl (hkN ▸ hj)⟩
theorem all8_nil (m : Nat) (B : Nat) (xs : List Value) (own : Nat → Prop) (Kp : World → World → Prop) (W : World)
    (hWB : Boxed W B 24 (.slice none 0 0)) :
    IterAt Fence.wide m Tryd.prog 89 #[.pointer (some ⟨B, 0, none⟩)] (fun k => #[.int .i64 k, xs.getD k (.slice none 0 0)]) 0 own Kp W := by
  intro l J Jx hJ hJx hY h0
  refine callsIn_of_wp Tryd.func89 rfl trivial ?_ rfl
  simp only [Tryd.ntmps89, List.size_toArray, List.length_cons, List.length_nil, Nat.reduceAdd, Nat.reduceSub, Array.replicate_succ, Array.replicate_zero, List.push_toArray, List.append_toArray, List.nil_append, List.cons_append]
  have hcB := hWB.cell
  gi_wp2
  gi_loopw [7] (fun i wr => i = .int .i64 0 ∧ J 0 wr) (fun i _ => 0)
  case atStart => exact ⟨rfl, h0⟩
  case round =>
    obtain ⟨rfl, hj⟩ := hrel
    gi_wp2
    go_end0
    exact ⟨⟨_, rfl⟩, .inl hj⟩
/-- the old blocks as they were -/
def Agree (W X : World) : Prop := ∀ b, b < W.heap.size → X.heap[b]? = W.heap[b]?
theorem Agree.size {W X : World} (h : Agree W X) : W.heap.size ≤ X.heap.size := by
  rcases Nat.eq_zero_or_pos W.heap.size with h0 | h0
  · omega
  · have h1 := h (W.heap.size - 1) (by omega)
    rw [Array.getElem?_eq_getElem (by omega : W.heap.size - 1 < W.heap.size)] at h1
    have := (Array.getElem?_eq_some_iff.1 h1).1
    omega
theorem Agree.of {W X : World} (h : Below W.heap.size W X) : Agree W X := fun b hb => h.block b hb
def likeW (W X : World) : World := { X with os := W.os, tape := W.tape, output := W.output }
theorem Agree.like {W X : World} (h : Agree W X) : Below W.heap.size W (likeW W X) := ⟨rfl, rfl, rfl, h.size, h⟩
theorem Agree.brow {W X : World} {v : Value} {l : List UInt8} (h : Agree W X) (hv : BRow W v l) : BRow X v l := BRow.below (w' := likeW W X) hv h.like
theorem Agree.tabs {W X : World} (h : Agree W X) (hv : Tabs W) : Tabs X := Tabs.below (w' := likeW W X) hv h.like
theorem Agree.turn {B : Nat} {W X Y : World} (h : Agree W X) (ht : Turn B (fun _ => False) X Y) (hB : W.heap.size ≤ B) : Agree W Y :=
  fun b hb => (ht.block b (Nat.lt_of_lt_of_le hb h.size) id (fun h => by omega)).trans (h b hb)
/-- the slots ahead of the call of yield -/
def eyF (l : Nat) (k : Nat) (x : Value) (p : List UInt8) : Nat → World → Value → Prop
  | 0, _, v => v = .func (.yield l) #[] #[]
  | 1, _, v => v = .int .i64 k
  | 2, _, v => v = x
  | 3, w, v => BRows w v [p]
  | 4, w, v => BRow w v (enc p)
  | _, _, _ => False
theorem eyF.below {l k : Nat} {x : Value} {p : List UInt8} (i : Nat) (w w' : World) (v : Value) (h : eyF l k x p i w v) (hb : Below w.heap.size w w') : eyF l k x p i w' v := by
  match i, h with
  | 0, h => exact h
  | 1, h => exact h
  | 2, h => exact h
  | 3, h => exact BRows.below h hb
  | 4, h => exact BRow.below h hb
  | n + 5, h => exact h
def eySlot (i : Nat) : Nat := ([9, 10, 11, 12, 13] : List Nat).getD i 9
theorem eySlot_lt (i : Nat) : eySlot i < 16 := by
  unfold eySlot
  match i with
  | 0 | 1 | 2 | 3 | 4 => decide
  | n + 5 => simp
theorem eySlot_inj : ∀ i, i < 5 → ∀ j, j < 5 → eySlot i = eySlot j → i = j := by decide
theorem st_load99 {o : Oper} {a : Act} {w : World} {Q : Exit → Act → World → Prop} {F : World → Value → Prop} (t : Nat) (ad : Addr) (v : Value) (ho : o.op = Op.load 99 (.tmp t)) (hv : a.tmps.getD t undef = .pointer (some ad)) (hc : w.cell? ad = some v)
    (hF : F w v) : o.wp Tryd.prog a w (fun a' w' => ∃ u, a' = a.put o.dst u ∧ F w' u ∧ Below w.heap.size w w') Q := by
  have e := eval_at hv
  unfold Oper.wp execOp
  simp only [ho, e]
  go_simp
  exact ⟨_, rfl, hF, Below.refl _ _⟩
theorem turn_of_below {B : Nat} {own : Nat → Prop} {X Y : World} (hb : Below X.heap.size X Y) : Turn B own X Y := ⟨hb.os, hb.tape, hb.output, hb.size, fun k hk _ _ => hb.block k hk⟩
theorem keeps_of_below {B : Nat} {X Y : World} (hb : Below X.heap.size X Y) : KeepsFrom B X Y :=
  ⟨hb.size, fun k o _ h1 _ => (hb.block k (Array.getElem?_eq_some_iff.1 h1).1).trans h1⟩
set_option maxRecDepth 100000 in
theorem ckeach1_it (L : List (List UInt8)) (v : Value) (B E : Nat) (Kp : World → World → Prop) (V : World) (hKp : ∀ X Y, Kp X Y → KeepB V.heap.size E X Y) (W : World) (hE : W.heap.size = E) (hag : Agree V W)
    (hL : L.length ≤ 900) (hLl : ∀ p ∈ L, p.length ≤ 1000) (hVB : Boxed V B 24 v) (hv : BRows V v L) (hT : Tabs V) :
    IterG Fence.wide 9 Tryd.prog 57 #[.pointer (some ⟨B, 0, none⟩)] (fun k args X => ∃ x, args = #[.int .i64 k, x] ∧ BRow X x (enc (L.getD k []))) L.length (fun _ => False) Kp W := by
  intro l J Jx hJ hJx hY h0
  obtain ⟨N, hN⟩ : ∃ N, L.length = N := ⟨_, rfl⟩
  rw [hN] at hY hL ⊢
  have HV := Lib.hid hv
  obtain ⟨p, cp, rfl, hnc, hvv⟩ := hv
  rw [hN] at hVB hnc hvv HV
  obtain ⟨g, o, xs, hxs⟩ : ∃ (g o : Nat) (xs : List Value), ∀ k, k < N → p = some ⟨g, o, none⟩ ∧ V.cell? ⟨g, o + k, none⟩ = some (xs.getD k (.slice none 0 0)) ∧ BRow V (xs.getD k (.slice none 0 0)) (L.getD k []) := by
    rcases hvv with ⟨_, h, _⟩ | ⟨g, o, rfl, h⟩
    · exact ⟨0, 0, [], fun k hk => by rw [h] at hN; simp at hN; omega⟩
    · obtain ⟨xs, _, h2⟩ := brows_vals (n := N) hN h
      exact ⟨g, o, xs, fun k hk => ⟨rfl, h2 k hk⟩⟩
  have HX := Lib.hid hxs
  clear hxs
  refine callsIn_of_wp_marks Tryd.func57 rfl trivial ?_ rfl
  simp only [Tryd.ntmps57, List.size_toArray, List.length_cons, List.length_nil, Nat.reduceAdd, Nat.reduceSub, Array.replicate_succ, Array.replicate_zero, List.push_toArray, List.append_toArray, List.nil_append, List.cons_append]
  have hVE : V.heap.size ≤ E := by rw [← hE]; exact hag.size
  have hW : Boxed W B 24 (.slice p N cp) := (hag B hVB.lt).trans hVB
  have hc := (hW.alloc (.cells #[.func (.yield l) #[] #[]] 99)).cell
  have LW := Lib.hid (fun X => (callsIn_wide (n := 8)).2 (sl_all8 p N cp X))
  gi_wp2_with fail
  refine wpW_scope ?_
  gi_step
  apply wpIn_label
  gi_wp2_with fail
  refine ⟨trivial, (LW.out _).mono ?_⟩
  rintro e w' ⟨rfl, rfl⟩
  have hBlt : B < E := by have := hW.lt; omega
  obtain ⟨W0, hW0⟩ : ∃ W0, (W.alloc (.cells #[.func (.yield l) #[] #[]] 99)).alloc (.cells #[.slice p N cp] 24) = W0 := ⟨_, rfl⟩
  have hs0 : W0.heap.size = E + 2 := by rw [← hW0]; simp; omega
  have bY : Boxed W0 E 99 (.func (.yield l) #[] #[]) := by
    rw [← hW0, ← hE]; exact (Boxed.new W _ _).alloc _
  have bN : Boxed W0 (E + 1) 24 (.slice p N cp) := by
    rw [← hW0, ← hE]; have := Boxed.new (W.alloc (.cells #[.func (.yield l) #[] #[]] 99)) 24 (.slice p N cp); rwa [World.size_alloc] at this
  have j0 : J 0 W0 := by rw [← hW0]; exact hJ _ _ _ (hJ _ _ _ h0 (.alloc _ _)) (.alloc _ _)
  have o0 : Agree V W0 := by
    intro b hb
    rw [← hW0]
    exact ((Below.heap_alloc _ _ _ (by simp; omega)).trans (Below.heap_alloc _ _ _ (by omega))).trans (hag b hb)
  have hsz : (W.alloc (.cells #[.func (.yield l) #[] #[]] 99)).heap.size = E + 1 := by simp; omega
  rw [hsz, hW0]
  clear hW0 hsz hc
  gi_wp2_with fail
  refine rf_outer (N := N) (own := fun _ => False) (Kp := KeepB V.heap.size E) (encs := fun k => #[.int .i64 k, xs.getD k (.slice none 0 0)]) rfl (by omega) (gf := 89) (lb := #[.pointer (some ⟨E + 1, 0, none⟩)]) rfl trivial (enters_of Tryd.func89 (by kernel_rfl) rfl)
    (fun _ => rfl) (fun b hb => hb.elim) ?iter
    KeepB.trans (fun X o o' h2 h3 => KeepB.putObj _ _ (by omega))
    (fun k X => J k X ∧ Boxed X E 99 (.func (.yield l) #[] #[]) ∧ Agree V X) (fun c X => c = .exit 0 ∧ Jx X)
    (fun k X Y hs ht => ⟨hJ _ _ _ hs.1 (ht.mono (by omega) (fun b hb => hb)), ht.boxed hs.2.1 id, hs.2.2.turn ht (by omega)⟩)
    (fun c X Y hs ht => ⟨hs.1, hJx _ _ hs.2 (ht.mono (by omega) (fun b hb => hb))⟩) ⟨j0, bY, o0⟩
    (fun k b _ => b = { tmps := #[.func (.yield l) #[] #[], .pointer (some ⟨B, 0, none⟩), .pointer (some ⟨E, 0, none⟩), .int .i64 k, xs.getD k (.slice none 0 0), .slice p N cp, .func (.func 89) #[] #[.pointer (some ⟨E + 1, 0, none⟩)], .int .i64 k, xs.getD k (.slice none 0 0), undef, undef, undef, undef, undef, undef, undef], defers := [] })
    (fun _ _ _ _ hs _ => hs) ?assign ?body ?done ?stop
  case iter =>
    intro X hX hs
    have hbx : Boxed X (E + 1) 24 (.slice p N cp) := (hX.block _ (by omega)).trans bN
    by_cases h0N : N = 0
    · subst h0N
      rcases hvv with ⟨rfl, _, rfl⟩ | ⟨g', o', rfl, _⟩
      · exact all8_nil _ _ _ _ _ X hbx
      · refine all8_it _ g' o' 0 cp (E + 1) xs _ _ id (fun X Y h _ _ => absurd h (by omega)) (by omega) hnc X hbx (fun k hk => absurd hk (by omega))
    · have h1 := (HX.out 0 (by omega)).1
      have h2 := (HX.out 0 (by omega)).2.1
      subst h1
      have hgV : g < V.heap.size := lt_of_cell h2
      refine all8_it _ g o N cp (E + 1) xs _ _ id (fun X Y _ hgX h => h g (.inl hgV) hgX) (by omega) hnc X hbx (fun k hk => ?_)
      refine (World.cell?_of_block (a := ⟨g, o + k, none⟩) ?_).trans (HX.out k hk).2.1
      exact (hX.block g (by omega)).trans (o0 g hgV)
  case assign =>
    intro l' k X K hk hi hK
    gi_wp2
    exact hK _ _ (KeepsFrom.refl _ _) (KeepB.refl _ _ _) hi rfl
  case body =>
    rintro l' k b X hl' ⟨r, hr⟩ hk ⟨hj, hb, hO⟩ rfl
    have hTX := Lib.hid (hO.tabs hT)
    have hBR := Lib.hid (hO.brow (HX.out k hk).2.2)
    obtain ⟨x, hx⟩ : ∃ x, xs.getD k (.slice none 0 0) = x := ⟨_, rfl⟩
    obtain ⟨q, hq⟩ : ∃ q, L.getD k [] = q := ⟨_, rfl⟩
    have hqm : q.length ≤ 1000 := by
      refine hLl q ?_
      rw [← hq, List.getD_eq_getElem?_getD, List.getElem?_eq_getElem (by omega)]
      exact List.getElem_mem _
    rw [hx, hq] at hBR
    rw [hx]
    have hyk := hY k
    rw [hq] at hyk
    obtain ⟨ax, cx, rfl, _, _⟩ := hBR.out
    gi_wp2_with fail
    refine region_yield 5 eySlot (eyF l k (.slice ax q.length cx) q) (fun a Y => ∃ (vs : Nat → Value) (t : Bool), a = { tmps := (fillN eySlot vs 5 #[.func (.yield l) #[] #[], .pointer (some ⟨B, 0, none⟩), .pointer (some ⟨E, 0, none⟩), .int .i64 k, .slice ax q.length cx, .slice p N cp, .func (.func 89) #[] #[.pointer (some ⟨E + 1, 0, none⟩)], .int .i64 k, .slice ax q.length cx, undef, undef, undef, undef, undef, undef, undef]).setIfInBounds 14 (.bool t), defers := [] } ∧
        ((t = true ∧ KeepsFrom (E + 2) X Y ∧ KeepB V.heap.size E X Y ∧ J (k + 1) Y) ∨ (t = false ∧ KeepsFrom (E + 2) X Y ∧ Jx Y))) (by kernel_rfl) (by kernel_rfl) (by kernel_rfl) rfl (by kernel_rfl) (by kernel_rfl) eySlot_lt (fun i j hi hj => eySlot_inj i hi j hj) eyF.below ?dst ?step ?yield ?tail
    case dst =>
      intro i o hi ho
      match i, ho with
      | 0, ho | 1, ho | 2, ho | 3, ho | 4, ho => cases ho; rfl
      | n + 5, ho => omega
    case step =>
      intro f a' Wy i o hi ho hpre hbel hrest
      match i, ho with
      | 0, ho => cases ho; exact st_load99 2 ⟨E, 0, none⟩ (.func (.yield l) #[] #[]) rfl (hrest 2 (by decide)) (cell_below hbel hb.cell) rfl
      | 1, ho => cases ho; exact st_move 3 (.int .i64 k) rfl (hrest 3 (by decide)) rfl
      | 2, ho => cases ho; exact st_move 4 (.slice ax q.length cx) rfl (hrest 4 (by decide)) rfl
      | 3, ho => cases ho; exact st_build1 11 ax q.length cx rfl (hpre { on := 2, ground := .data } (by simp) rfl) (brows_one (hBR.out.below hbel) rfl)
      | 4, ho =>
        cases ho
        have p0 : BRows Wy (a'.tmps.getD 12 undef) [q] := (hpre { on := 3, ground := .data } (by simp) rfl)
        exact st_call 12 50 _ _ rfl rfl (enters_of Tryd.func50 (by kernel_rfl) rfl) ((ck_encode _ [q] Wy p0 (by simp [cat]; omega) (by simp) (hTX.out.below hbel)).mono fun e w1 ⟨r, he, hr, hb⟩ => ⟨r, he, (by rw [show cat [q] = q by simp [cat]] at hr; exact hr), hb⟩)
      | n + 5, ho => omega
    case yield =>
      intro vs Wy o ho hbel hvs
      cases ho
      have v0 : vs 0 = .func (.yield l) #[] #[] := hvs 0 (by decide)
      have v1 : vs 1 = .int .i64 k := hvs 1 (by decide)
      have v4 : BRow Wy (vs 4) (enc q) := hvs 4 (by decide)
      refine op_yield 9 #[.tmp 10, .tmp 13] _ #[.int .i64 k, vs 4] rfl ?_ ?_ (hyk Wy _ hk (hJ k X Wy hj (turn_of_below hbel)) ⟨vs 4, rfl, v4⟩) ?_
      · exact v0
      · simp only [List.map_toArray, List.map_cons, List.map_nil]; rw [← v1]; rfl
      · rintro z Y (⟨rfl, hj', hkp, hkf⟩ | ⟨rfl, hjx, hkf⟩)
        · refine ⟨true, rfl, vs, true, rfl, .inl ⟨rfl, ?_, ?_, hj'⟩⟩
          · exact (keeps_of_below hbel).trans ⟨hkf.size, fun i o hi h1 h2 => hkf.same i o (by omega) h1 h2⟩
          · exact (KeepB.below hbel).trans (hKp _ _ hkp)
        · exact ⟨false, rfl, vs, false, rfl, .inr ⟨rfl, (keeps_of_below hbel).trans ⟨hkf.size, fun i o hi h1 h2 => hkf.same i o (by omega) h1 h2⟩, hjx⟩⟩
    case tail =>
      rintro a' Y o ho ⟨vs, t, rfl, hp⟩
      cases ho
      refine opR (fun c h => by cases h) ?_
      simp only [fillN, show List.range 5 = [0, 1, 2, 3, 4] from rfl, List.foldl_cons, List.foldl_nil, show eySlot 0 = 9 from rfl, show eySlot 1 = 10 from rfl, show eySlot 2 = 11 from rfl, show eySlot 3 = 12 from rfl, show eySlot 4 = 13 from rfl]
      go_simp
      rcases hp with ⟨rfl, h1, h2, h3⟩ | ⟨rfl, h1, h2⟩
      · gi_wp2
        exact ⟨by rw [hs0]; exact h1, h2, h3, (h2 E (.inr rfl) hb.lt).trans hb, fun b hb' => (h2 b (.inl hb') (Nat.lt_of_lt_of_le hb' hO.size)).trans (hO b hb')⟩
      · gi_wp2
        exact ⟨by rw [hs0]; exact h1, rfl, h2⟩
  case done =>
    rintro D X hD ⟨hj, _⟩ hK
    gi_wp2
    rw [Exit.noGoto_normal]
    refine ⟨by simp, .inl ⟨_, _, rfl, run_takeDeferred hK, ?_⟩⟩
    exact ⟨_, results_none rfl _ _ _, ⟨_, rfl⟩, .inl (hJ _ _ _ hj (.putObj _ (by omega) hK rfl))⟩
  case stop =>
    rintro D c X hD ⟨rfl, hjx⟩ hK
    gi_wp2
    rw [Exit.noGoto_normal]
    refine ⟨by simp, .inl ⟨_, _, rfl, run_takeDeferred hK, ?_⟩⟩
    exact ⟨_, results_none rfl _ _ _, ⟨_, rfl⟩, .inr (hJx _ _ hjx (.putObj _ (by omega) hK rfl))⟩
end Go.Proofs.YtoidopdpnnogaaaDoor
