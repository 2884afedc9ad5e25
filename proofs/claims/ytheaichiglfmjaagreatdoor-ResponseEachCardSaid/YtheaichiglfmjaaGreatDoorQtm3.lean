/- Texts of this claim, one behind the other: Qd, G1, Tw7, Tw9, Tw8, TwA, Dw1, Dr1, Dr2, Dr3, Dr4, Dr5, Dr6, Qe, Qf, Qg, Qh, Qi, Dt, Du, Qj. -/
import Derived.Test.YtheaichiglfmjaaGreatDoorQtm2
import Derived.RangeFuncKeeps
import Derived.Test.YtheaichiglfmjaaGreatDoorQtm1
import Derived.Defers
import Derived.Recover
import Derived.BigCall
import Derived.IntWalk
import Derived.Lib.QuietBelow
import Derived.Test.YtheaichiglfmjaaGreatDoorRows
import Derived.OneCell
import Derived.WalkMore
import Derived.Lib.ConvBytes
import Derived.Lib.Walk
import Derived.Lib.ItoaMem
import Derived.Sort.Grow
import Derived.Deep.Cut
import Derived.Lib.Repeat
import Derived.Lib.Case
import Derived.Lib.AppendIntMem
/- head: Get's walk. No conditions but those that it states. -/
namespace Go.Proofs.YtheaichiglfmjaaGreatDoor
set_option linter.unusedVariables false
set_option linter.unusedSimpArgs false
open Go.RowKit Go.Shelf
attribute [local go_sem] Oper.semAt_some
set_option maxHeartbeats 8000000
set_option maxRecDepth 100000
theorem own_cellsQ {w : World} {B : Nat} {e : TypeId} {s : Nat} {v : Value} {n : Nat} {xs : List Value} (h : w.ownsRow B e s v n xs) {k : Nat} {cs : Array Value} {t : TypeId} {fr : Nat × Nat} (ht : t ≠ e) (hk : w.heap[k]? = some (.cells cs t fr)) : some k ≠ v.ownBlock := by
  rcases h.2 with ⟨rfl, _⟩ | ⟨g, cap, cur, rfl, _, hg, _⟩
  · simp [Value.ownBlock]
  · intro e2
    have : k = g := by simpa [Value.ownBlock] using e2
    subst this
    rw [hk] at hg
    cases hg
    exact ht rfl
def gtF (lp : Option Addr) (N lc : Nat) (jb : ByteArray) : Nat → World → Value → Prop
  | 0, _, v => v = .slice lp N lc
  | 1, _, v => v = .string jb
  | 2, _, v => v = .slice lp N lc
  | 3, _, v => v = .int .i64 (N : Int)
  | 4, _, v => v = .string jb
  | 5, _, v => v = .int .i64 (N : Int)
  | _, _, _ => False
theorem gt_lt : ∀ i, ([18, 19, 20, 21, 4, 5] : List Nat).getD i 21 < 22
  | 0 | 1 | 2 | 3 | 4 | 5 => by decide
  | n + 6 => by show 21 < 22; decide
theorem gt_inj : ∀ i < 6, ∀ j < 6, ([18, 19, 20, 21, 4, 5] : List Nat).getD i 21 = ([18, 19, 20, 21, 4, 5] : List Nat).getD j 21 → i = j := by decide
theorem hd_Get (fb nb : ByteArray) (v : Value) (fs : List Hp.Hd) (w : World) (hv : HS w v fs) (hl : fs.length ≤ 1000) (hs : ∀ f ∈ fs, f.1.length ≤ 100000 ∧ f.2.length ≤ 100000) (hn : nb.size ≤ 100000) :
    Calls Tryz.prog 62 #[.agg #[.string fb, v], .string nb] w fun e w' => e = .returned (.tuple #[.string ⟨(Lib.join (Hg.vals nb.data.toList fs) [44, 32]).toArray⟩, .int .i64 ((Hg.vals nb.data.toList fs).length : Nat)]) ∧ Below w.heap.size w w' := by
  obtain ⟨i0, hi, hz0, hz1, hz2⟩ := info_parts (show (Tryz.prog.info? 9).map (fun i => (i.zero, i.size, i.bytes)) = some (some (.string ByteArray.empty), 1, 16) by kernel_rfl)
  obtain ⟨p, c, rfl⟩ := hv.slice
  obtain ⟨n, hn2⟩ : ∃ n, fs.length = n := ⟨_, rfl⟩
  have hvals : (Hg.selN (Hg.isNm nb.data.toList) fs fs.length).map (fun j => (fs.getD j ([], [])).2) = Hg.vals nb.data.toList fs := by
    rw [Hg.selN_vals _ _ _ (Nat.le_refl _), List.take_length]; rfl
  obtain ⟨sel, hsel⟩ : ∃ z, Hg.selN (Hg.isNm nb.data.toList) fs fs.length = z := ⟨_, rfl⟩
  have hsl : ∀ j, j < sel.length → sel.getD j 0 < fs.length := fun j hj => by rw [← hsel] at hj ⊢; exact Hg.selN_mem hj
  have hsz : sel.length ≤ 1000 := by rw [← hsel]; exact Nat.le_trans (Hg.selN_len _ _ _) hl
  obtain ⟨vs, hvs⟩ : ∃ z, Hg.vals nb.data.toList fs = z := ⟨_, rfl⟩
  rw [hsel, hvs] at hvals
  rw [hvs]
  have hvl : vs.length = sel.length := by rw [← hvals, List.length_map]
  obtain ⟨N, hN⟩ : ∃ z, sel.length = z := ⟨_, rfl⟩
  have hvat : ∀ k, k < N → vs.getD k [] = (fs.getD (sel.getD k 0) ([], [])).2 ∧ (vs.getD k []).length ≤ 100000 := by
    intro k hk
    have e : vs.getD k [] = (fs.getD (sel.getD k 0) ([], [])).2 := by
      have hks : k < sel.length := by rw [hN]; exact hk
      have h0 : sel.getD k 0 = sel[k]'hks := by rw [List.getD_eq_getElem?_getD, List.getElem?_eq_getElem hks]; rfl
      rw [h0, ← hvals, List.getD_eq_getElem?_getD, List.getElem?_map, List.getElem?_eq_getElem hks]
      rfl
    refine ⟨e, ?_⟩
    rw [e]
    have h1 := hsl k (by omega)
    rw [List.getD_eq_getElem?_getD, List.getElem?_eq_getElem h1]
    exact (hs _ (List.getElem_mem h1)).2
  obtain ⟨jb, hjb⟩ : ∃ z : ByteArray, (⟨(Lib.join vs [44, 32]).toArray⟩ : ByteArray) = z := ⟨_, rfl⟩
  rw [show vs.length = N by rw [hvl, hN], hjb]
  have HJB := Lib.hid hjb
  clear hjb
  obtain ⟨B, hB⟩ : ∃ B, w.heap.size = B := ⟨_, rfl⟩
  obtain ⟨w1, hw1⟩ : ∃ z, (w.alloc (.cells #[.string fb, .slice p n c] 28)).alloc (.cells #[.slice none 0 0] 63) = z := ⟨_, rfl⟩
  obtain ⟨V, hV⟩ : ∃ z, (w1.alloc (.cells #[.string fb, .slice p n c] 28)).alloc (.cells #[.string nb] 9) = z := ⟨_, rfl⟩
  have hb1 : Below w.heap.size w w1 := by rw [← hw1]; exact ((Below.refl _ _).alloc (Nat.le_refl _) _).alloc (by simp) _
  have hz1' : w1.heap.size = B + 2 := by rw [← hw1, ← hB]; simp
  have hbV : Below w1.heap.size w1 V := by rw [← hV]; exact ((Below.refl _ _).alloc (Nat.le_refl _) _).alloc (by simp) _
  have hzV : V.heap.size = B + 4 := by rw [← hV]; simp [hz1']
  have hBl : Boxed V (B + 1) 63 (.slice none 0 0) := by
    have h := Boxed.new (w.alloc (.cells #[.string fb, .slice p n c] 28)) 63 (.slice none 0 0)
    simp only [World.size_alloc, hB] at h
    rw [hw1] at h
    exact (hbV.block _ h.lt).trans h
  have hHB : V.heap[B + 2]? = some (.cells #[.string fb, .slice p n c] 28 (0, 0)) := by
    have h := World.alloc_heap_new w1 (.cells #[.string fb, .slice p n c] 28)
    rw [hz1'] at h
    rw [← hV, Below.heap_alloc _ _ _ (by simp [hz1'])]
    exact h
  have hNB : V.heap[B + 3]? = some (.cells #[.string nb] 9 (0, 0)) := by
    have h := World.alloc_heap_new (w1.alloc (.cells #[.string fb, .slice p n c] 28)) (.cells #[.string nb] 9)
    rw [hV] at h
    simpa [hz1'] using h
  have HV0 := Lib.hid (show Below w.heap.size w V from hb1.trans (hbV.mono hb1.size))
  have KE := Lib.hid (hd_every fb nb p n c w1)
  rw [hV, hz1'] at KE
  have y0 : w1.cell? ⟨B, 0, none⟩ = some (.string fb) ∧ w1.cell? ⟨B, 1, none⟩ = some (.slice p n c) := by
    have h := World.alloc_heap_new w (.cells #[.string fb, .slice p n c] 28)
    rw [hB] at h
    have h2 : w1.heap[B]? = some (.cells #[.string fb, .slice p n c] 28 (0, 0)) := by rw [← hw1, Below.heap_alloc _ _ _ (by simp [hB])]; exact h
    exact ⟨by simp [World.cell?, h2], by simp [World.cell?, h2]⟩
  obtain ⟨ya, yb⟩ := y0
  have HVV := Lib.hid hv
  have HHS := Lib.hid hs
  have HNN := Lib.hid hN
  have HN2 := Lib.hid hn2
  have HSEL := Lib.hid hsel
  have HVAT := Lib.hid hvat
  have HVL := Lib.hid (show vs.length = N by rw [hvl, hN])
  have HBB := Lib.hid hB
  have HW1 := Lib.hid hw1
  have HZV := Lib.hid hzV
  have HBL := Lib.hid hBl
  have HHB := Lib.hid hHB
  have HNB := Lib.hid hNB
  have hN1000 : N ≤ 1000 := by rw [← hN]; exact hsz
  rw [hn2]
  clear hv hs hN hn2 hsel hvat hvl hB hw1 hzV hBl hHB hNB hb1 hbV hz1' hV hvals hvs hsl hsz
  refine callsIn_wide.1 (callsIn_of_wp_marks (F := Fence.wide) (n := 9) Tryz.func62 rfl trivial ?_ rfl)
  simp only [Tryz.ntmps62, List.size_toArray, List.length_cons, List.length_nil, Nat.reduceAdd, Nat.reduceSub, Array.replicate_succ, Array.replicate_zero, List.push_toArray, List.append_toArray, List.nil_append, List.cons_append]
  refine wpIn_wide.2 ?_
  go_wp2_with fail
  rw [HW1.out, HBB.out]
  refine KE.out.mono ?_
  rintro e wx ⟨rfl, hwx⟩
  subst wx
  clear ya yb
  go_wp2_with fail
  refine (wpIn_wide (n := 9)).1 ?_
  have hVz : V.heap.size = B + 4 := HZV.out
  refine rf_outerE (N := N) (own := fun _ => False) (Kp := KQ (B + 4) (B + 1)) (encs := fun j => #[.int .i64 ((sel.getD j 0 : Nat) : Int), Hp.sx (fs.getD (sel.getD j 0) ([], [])).2]) rfl (by omega) (gf := 111) (lb := #[.pointer (some ⟨B + 2, 0, none⟩), .pointer (some ⟨B + 3, 0, none⟩)]) rfl trivial (enters_of Tryz.func111 (by kernel_rfl) rfl)
    (fun _ => rfl) (fun b hb => hb.elim) ?iter KQ.trans (fun X o o' h2 h3 => ⟨KI.putObj _ h2 h3, fun b h1 _ => World.putObj_heap_other (by omega)⟩)
    (fun k X => Below w.heap.size w X ∧ (∀ b, b < B + 4 → b ≠ B + 1 → X.heap[b]? = V.heap[b]?) ∧ B + 4 ≤ X.heap.size ∧ ∃ lv, Boxed X (B + 1) 63 lv ∧ X.ownsRow (B + 4) 9 1 lv k ((vs.take k).map Hp.sx)) (fun c X => False)
    (fun k X Y hs ht => by
      obtain ⟨h1, h2, h3, lv, h4, h5⟩ := hs
      have hbt := ht.below (N := B + 4) (by omega) (by omega) (fun b hb => hb.elim)
      exact ⟨h1.trans (hbt.mono (by have := HBB.out; omega)), fun b hb hne => (hbt.block b hb).trans (h2 b hb hne), Nat.le_trans h3 hbt.size, lv, ht.boxed h4 id, own_turn h5 ht (fun _ h => h)⟩) (fun c X Y hs ht => hs)
    ⟨HV0.out, fun _ _ _ => rfl, by omega, _, HBL.out, by rw [List.take_zero]; exact World.ownsRow_nil _ _ _ _⟩ ?E
  case iter =>
    intro X hX hs
    have h := hd_every_it (9 - 1) (B + 2) (B + 3) fb nb (.slice p n c) fs (fun _ => False) (KQ (B + 4) (B + 1)) (fun Y => ∀ b, b < B + 4 → b ≠ B + 1 → Y.heap[b]? = V.heap[b]?) hl (fun f hf => (HHS.out f hf).1) hn X
      (fun Y hY => ⟨(hY (B + 2) (by omega) (by omega)).trans HHB.out, (by have h := (hY (B + 3) (by omega) (by omega)).trans HNB.out; simp [World.cell?, h]), by
        have h := HVV.out
        rw [HN2.out] at h
        exact h.of_blocks (fun b hb => (hY b (by have := HBB.out; omega) (by have := HBB.out; omega)).trans (HV0.out.block b hb))⟩)
      (fun Y Z hk hy b h1 h2 => (hk.2 b h1 h2).trans (hy b h1 h2)) (fun Y Z hk => hk.1)
      (fun Y Z ht hy b h1 h2 => (ht.low ((hy b h1 h2).trans (Array.getElem?_eq_getElem (by omega))) (by omega) id).trans (Array.getElem?_eq_getElem (by omega)).symm)
      (fun b h1 h2 => hX.block b (by omega))
    rw [HSEL.out, HNN.out] at h
    exact h
  case E =>
    apply Exists.intro
    refine ⟨?asg, ?bod, ?don, ?stp⟩
    case asg =>
      intro l' k X K hk hi hK
      have HKK := Lib.hid hK
      clear hK hk
      gi_wp2
      exact HKK.out _ (KeepsFrom.refl _ _) ⟨KI.refl _, fun _ _ _ => rfl⟩ hi
    case stp => exact fun D c X hD hf => hf.elim
    case bod =>
      rintro l' k X hl' ⟨r, hr⟩ hk ⟨hb, hold, hsz, lv, hbx, hrow⟩
      obtain ⟨lp, lc, rfl⟩ := own_slQ hrow
      obtain ⟨e1, e2⟩ := HVAT.out k hk
      rw [List.getD_eq_getElem?_getD (l := fs), List.getD_eq_getElem?_getD (l := sel)] at e1
      rw [← e1]
      unfold Hp.sx
      obtain ⟨qb, hqb⟩ : ∃ z : ByteArray, (⟨(vs.getD k []).toArray⟩ : ByteArray) = z := ⟨_, rfl⟩
      rw [hqb]
      have cl := hbx.cell
      have HB := Lib.hid hb
      have HOLD := Lib.hid hold
      have HSZ := Lib.hid hsz
      have HBX := Lib.hid hbx
      have HROW := Lib.hid hrow
      have HQB := Lib.hid hqb
      have hkN : k ≤ 1000 := by omega
      clear hb hold hsz hbx hrow hqb e1 e2
      gi_wp2_with (gi_at_builtin; refine wpListIn_append_own _ rfl _ _ 63 rfl (B + 4) 9 i0 (.string ByteArray.empty) 1 16 Tryz.underlying63 hi hz0 hz1 hz2 rfl (by decide) _ _ _ rfl (HROW.out.alloc _) ⟨X.heap.size, 0, none⟩ 1 1 [.string qb] rfl rfl ?d1 ?d2 ?d3 ?d4 ?d5 ?_)
      try (case d1 =>
        intro j u hj
        match j, hj with
        | 0, hj => simp at hj; subst hj; simp [Addr.add])
      try (case d2 => first | rfl | (intro u hu; simp at hu; subst hu; rfl))
      try (case d3 => unfold maxLen; omega)
      try (case d4 => omega)
      try (case d5 => have := HSZ.out; simp; omega)
      intro v' W3 hown' hgrow _
      have hapx := Boxed.appended HBX.out (by decide : 63 ≠ 9) (own_low HROW.out (Nat.le_succ_of_le (Nat.le_succ_of_le (Nat.le_succ _)) : B + 1 ≤ B + 4)) (by have := HSZ.out; omega) (Nat.le_refl _) (own_low hown' (by omega)) hgrow
      obtain ⟨a1, a2, a3, a4, a5⟩ := hapx
      have cl3 := a1.cell
      have fl3 := a1.frozen
      obtain ⟨p', c', rfl⟩ := own_slQ hown'
      have hr4 := hown'.kept (grownBy_setCell' W3 (B + 1) (.slice p' (k + 1) c')) (.inr (a1.not_row (by decide) hown').symm)
      have HR4 := Lib.hid (show (W3.setCell ⟨B + 1, 0, none⟩ (.slice p' (k + 1) c')).ownsRow (B + 4) 9 1 (.slice p' (k + 1) c') (k + 1) ((vs.take (k + 1)).map Hp.sx) by
        have hkv : k < vs.length := by rw [HVL.out]; exact hk
        rw [List.take_succ_eq_append_getElem hkv, List.map_append, show [vs[k]].map Hp.sx = [Value.string qb] by
          rw [← HQB.out, List.getD_eq_getElem?_getD, List.getElem?_eq_getElem hkv]; rfl, List.map_take]
        exact hr4)
      have HKI := Lib.hid (show KI X (W3.setCell ⟨B + 1, 0, none⟩ (.slice p' (k + 1) c')) from fun b cs hbc => by
        have hne : b ≠ B + 1 := fun e => by
          subst e
          have h := HBX.out
          unfold Boxed at h
          rw [h] at hbc
          simp at hbc
        refine (Below.heap_setCell _ _ _ _ (by show b ≠ B + 1; exact hne)).trans ((hgrow.block b (by have := (Array.getElem?_eq_some_iff.1 hbc).1; simp; omega) (own_cellsQ HROW.out (by decide) hbc)).trans ((Below.heap_alloc _ _ _ (Array.getElem?_eq_some_iff.1 hbc).1).trans hbc)))
      have HOL := Lib.hid (show ∀ b, b < B + 4 → b ≠ B + 1 → (W3.setCell ⟨B + 1, 0, none⟩ (.slice p' (k + 1) c')).heap[b]? = X.heap[b]? from fun b h1 h2 =>
        (Below.heap_setCell _ _ _ _ (by show b ≠ B + 1; exact h2)).trans ((hgrow.block b (by have := HSZ.out; simp; omega) (fun e => by have := own_geH HROW.out b e.symm; omega)).trans (Below.heap_alloc _ _ _ (by have := HSZ.out; omega))))
      have HA2 := Lib.hid a2
      have HA4 := Lib.hid a4
      have HA5 := Lib.hid a5
      clear hown' hgrow a1 a2 a3 a4 a5 hr4
      gi_wp2
      change KeepsFrom _ _ _ ∧ _ ∧ _
      exact ⟨HA4.out.from _, ⟨HKI.out, HOL.out⟩, HB.out.trans (HA5.out.mono (by have := HBB.out; omega)), fun b h1 h2 => (HOL.out b h1 h2).trans (HOLD.out b h1 h2), Nat.le_trans HSZ.out HA5.out.size, _, HA2.out, HR4.out⟩
    case don =>
      rintro D X hD ⟨hb, hold, hsz, lv, hbx, hrow⟩ hKD
      rw [List.take_of_length_le (by rw [HVL.out]; exact Nat.le_refl _)] at hrow
      obtain ⟨lp, lc, rfl⟩ := own_slQ hrow
      have HB := Lib.hid hb
      have HROW := Lib.hid hrow
      have HKD := Lib.hid (show X.heap[D]? = some (.deferred (some [])) from hKD)
      have HBX := Lib.hid hbx
      have HVM := Lib.hid (show ∀ s ∈ vs, s.length ≤ 100000 from fun s hs => by
        obtain ⟨j, hj, rfl⟩ := List.mem_iff_getElem.1 hs
        have h := (HVAT.out j (by rw [← HVL.out]; exact hj)).2
        rwa [List.getD_eq_getElem?_getD, List.getElem?_eq_getElem hj] at h)
      have HJL := Lib.hid (show (Lib.join vs (⟨#[44, 32]⟩ : ByteArray).data.toList).length ≤ 140737488355328 by
        refine Nat.le_trans (join_len _ _ HVM.out) ?_
        rw [HVL.out]
        have : N * (100000 + 2) ≤ 1000 * (100000 + 2) := Nat.mul_le_mul_right _ hN1000
        show N * (100000 + 2) ≤ _
        omega)
      have KJ := Lib.hid (fun W (h : Below X.heap.size X W) => join_row ⟨#[44, 32]⟩ vs (own_bel HROW.out h) HJL.out (by rw [HVL.out]; omega))
      have HCL := Lib.hid (show ∀ W, Below X.heap.size X W → W.cell? ⟨B + 1, 0, none⟩ = some (.slice lp N lc) from fun W h => (show Boxed W (B + 1) _ _ from (h.block _ HBX.out.lt).trans HBX.out).cell)
      rw [show (⟨(Lib.join vs (⟨#[44, 32]⟩ : ByteArray).data.toList).toArray⟩ : ByteArray) = jb from HJB.out] at KJ
      have cl := hbx.cell
      have HDD := Lib.hid (show B + 4 ≤ D by rw [← hVz]; exact hD)
      have HLL := Lib.hid (fun (h : lc = lc) => hbx.lt)
      clear hb hold hsz hbx hrow hKD
      go_wp2_with fail
      refine region_slotsG (fun i => ([18, 19, 20, 21, 4, 5] : List Nat).getD i 21) (gtF lp N lc jb) (fun _ => true) (by kernel_rfl) (by kernel_rfl) (fun i => gt_lt i) (fun i j hi hj h => gt_inj i hi j hj h) ?mono ?dst ?gu ?ng ?skip ?step ?done
      case mono =>
        intro i W W' v h hbw
        match i, h with
        | 0, h | 1, h | 2, h | 3, h | 4, h | 5, h => exact h
        | n + 6, h => exact h.elim
      case dst =>
        intro i o ho
        match i, ho with
        | 0, ho | 1, ho | 2, ho | 3, ho | 4, ho | 5, ho => cases ho; rfl
        | n + 6, ho => exact absurd ho (by simp)
      case gu =>
        intro i o g b ho hgd W v hv
        match i, ho with
        | 0, ho | 1, ho | 2, ho | 3, ho | 4, ho | 5, ho => cases ho; cases hgd
        | n + 6, ho => exact absurd ho (by simp)
      case ng => exact fun _ _ _ _ => rfl
      case skip => exact fun i W hi hsel => absurd hsel (by decide)
      case step =>
        intro f a' W i o ho hsel hpre hbel hrest
        match i, ho with
        | 0, ho =>
          cases ho
          have q6 : a'.tmps.getD 6 undef = .pointer (some ⟨B + 1, 0, none⟩) := (hrest 6 (by intro i hi; show ([18, 19, 20, 21, 4, 5] : List Nat).getD i 21 ≠ _; match i, hi with | 0, _ | 1, _ | 2, _ | 3, _ | 4, _ | 5, _ => decide | n + 6, hi => exact absurd hi (by show ¬ n + 6 < 6; omega)))
          have x0 := HCL.out W hbel
          have e6 := rg_ev q6
          exact rg_same (.slice lp N lc) (by unfold Oper.wp execOp; go_simp; all_goals ((try simp only [e6]); (try go_simp); first | done | rfl | exact ⟨rfl, rfl⟩ | trivial)) rfl
        | 1, ho =>
          cases ho
          have q18 : a'.tmps.getD 18 undef = .slice lp N lc := (hpre { on := 0, ground := .data } (by simp) rfl)
          exact rg_callc 18 85 _ _ _ _ rfl q18 (enters_of Tryz.func85 (by kernel_rfl) rfl) (KJ.out W hbel) (fun e w' h => by
            obtain ⟨rfl, hb⟩ := h
            exact ⟨_, rfl, _, rfl, rfl, hb⟩)
        | 2, ho =>
          cases ho
          have q6 : a'.tmps.getD 6 undef = .pointer (some ⟨B + 1, 0, none⟩) := (hrest 6 (by intro i hi; show ([18, 19, 20, 21, 4, 5] : List Nat).getD i 21 ≠ _; match i, hi with | 0, _ | 1, _ | 2, _ | 3, _ | 4, _ | 5, _ => decide | n + 6, hi => exact absurd hi (by show ¬ n + 6 < 6; omega)))
          have x0 := HCL.out W hbel
          have e6 := rg_ev q6
          exact rg_same (.slice lp N lc) (by unfold Oper.wp execOp; go_simp; all_goals ((try simp only [e6]); (try go_simp); first | done | rfl | exact ⟨rfl, rfl⟩ | trivial)) rfl
        | 3, ho =>
          cases ho
          have q20 : a'.tmps.getD 20 undef = .slice lp N lc := (hpre { on := 2, ground := .data } (by simp) rfl)
          have e20 := rg_ev q20
          exact rg_same (.int .i64 (N : Int)) (by unfold Oper.wp execOp; go_simp; all_goals ((try simp only [e20]); (try go_simp); first | done | rfl | exact ⟨rfl, rfl⟩ | trivial)) rfl
        | 4, ho =>
          cases ho
          have q19 : a'.tmps.getD 19 undef = .string jb := (hpre { on := 1, ground := .data } (by simp) rfl)
          have e19 := rg_ev q19
          exact rg_same (.string jb) (by unfold Oper.wp execOp; go_simp; all_goals ((try simp only [e19]); (try go_simp); first | done | rfl | exact ⟨rfl, rfl⟩ | trivial)) rfl
        | 5, ho =>
          cases ho
          have q21 : a'.tmps.getD 21 undef = .int .i64 (N : Int) := (hpre { on := 3, ground := .data } (by simp) rfl)
          have e21 := rg_ev q21
          exact rg_same (.int .i64 (N : Int)) (by unfold Oper.wp execOp; go_simp; all_goals ((try simp only [e21]); (try go_simp); first | done | rfl | exact ⟨rfl, rfl⟩ | trivial)) rfl
        | n + 6, ho => exact absurd ho (by simp)
      case done =>
        intro us W hbel hus
        have v0 : us 0 = .slice lp N lc := hus 0 (by decide)
        have v1 : us 1 = .string jb := hus 1 (by decide)
        have v2 : us 2 = .slice lp N lc := hus 2 (by decide)
        have v3 : us 3 = .int .i64 (N : Int) := hus 3 (by decide)
        have v4 : us 4 = .string jb := hus 4 (by decide)
        have v5 : us 5 = .int .i64 (N : Int) := hus 5 (by decide)
        have HBR := Lib.hid hbel
        simp only [fillN, List.size_toArray, List.length_cons, List.length_nil, Nat.reduceAdd, show List.range 6 = [0, 1, 2, 3, 4, 5] from rfl, List.foldl_cons, List.foldl_nil, show ([18, 19, 20, 21, 4, 5] : List Nat).getD 0 21 = 18 from rfl, show ([18, 19, 20, 21, 4, 5] : List Nat).getD 1 21 = 19 from rfl, show ([18, 19, 20, 21, 4, 5] : List Nat).getD 2 21 = 20 from rfl, show ([18, 19, 20, 21, 4, 5] : List Nat).getD 3 21 = 21 from rfl, show ([18, 19, 20, 21, 4, 5] : List Nat).getD 4 21 = 4 from rfl, show ([18, 19, 20, 21, 4, 5] : List Nat).getD 5 21 = 5 from rfl, v0, v1, v2, v3, v4, v5]
        clear v0 v1 v2 v3 v4 v5 hus hbel
        go_simp
        first | go_wp2_with fail | skip
        have L9 : W.heap[D]? = some (.deferred (some [])) := (HBR.out.block D (Array.getElem?_eq_some_iff.1 HKD.out).1).trans HKD.out
        refine ⟨by simp, .inl ⟨_, _, rfl, run_takeDeferred L9, ?_⟩⟩
        refine ⟨.tuple #[.string jb, .int .i64 (N : Int)], ?_, rfl, ?_⟩
        · simp [results, Tryz.results62, go_sem]
        · exact (HB.out.trans (HBR.out.mono HB.out.size)).trans (belowK_b (w := w) (Nat.le_refl _) _ D _ _ (by have := HDD.out; have := HBB.out; omega) L9 rfl rfl)
end Go.Proofs.YtheaichiglfmjaaGreatDoor

/- target: must gives up; caught, of a frame that returns and of one that panics. -/
namespace Go.Proofs.YtheaichiglfmjaaGreatDoor
set_option linter.unusedVariables false
set_option linter.unusedSimpArgs false
open Go.RowKit
set_option maxHeartbeats 1000000
/-- what is given up with -/
def errno (n : Int) : Value := .iface 40 (.int .i64 n)
theorem errno_is (v : Value) (W : World) : (Instr.typeAssert (.iface 40 v) 20 40 true).run Tryz.prog W = .ok (.tuple #[v, .bool true]) W := by
  simp [Instr.typeAssert, go_sem, Tryz.underlying40, Result.andThen]
end Go.Proofs.YtheaichiglfmjaaGreatDoor

/- A list's items, the program's: those of the text Ti. -/
namespace Go.Proofs.YtheaichiglfmjaaGreatDoor
set_option linter.unusedVariables false
set_option linter.unusedSimpArgs false
open Go.RowKit Go.Shelf
set_option maxHeartbeats 1000000
/-- internal/bytealg.MaxLen holds some integer -/
def ML (w : World) : Prop := ∃ m, w.cell? ⟨1, 0, none⟩ = some (.int .i64 m)
theorem ML.below {w w' : World} (h : ML w) (hb : Below w.heap.size w w') : ML w' := let ⟨m, hm⟩ := h; ⟨m, cell_below hb hm⟩
/-- the row of the parts, of which the first k are trimmed -/
def trF (P : List (List UInt8)) (k j : Nat) : List UInt8 := if j < k then Tp.trim (P.getD j []) else P.getD j []
def TrRow (w : World) (B : Nat) (P : List (List UInt8)) (k : Nat) : Prop := ∀ j, j < P.length → w.cell? ⟨B, j, none⟩ = some (tx (trF P k j)) ∧ w.frozen? ⟨B, j, none⟩ = false
theorem trRow_below {w w' : World} {B : Nat} {P : List (List UInt8)} {k : Nat} (h : TrRow w B P k) (hb : Below w.heap.size w w') (hB : B < w.heap.size) : TrRow w' B P k :=
  fun j hj => ⟨cell_below hb (h j hj).1, (hb.frozen (p := ⟨B, j, none⟩) hB).trans (h j hj).2⟩
theorem trRow_set {w : World} {B : Nat} {P : List (List UInt8)} {k : Nat} (h : TrRow w B P k) (hk : k < P.length) : TrRow (w.setCell ⟨B, k, none⟩ (tx (Tp.trim (P.getD k [])))) B P (k + 1) := by
  intro j hj
  refine ⟨?_, by rw [World.frozen?_setCell]; exact (h j hj).2⟩
  by_cases hjk : j = k
  · subst hjk
    rw [World.cell?_setCell_same _ _ _ (h j hj).1]
    unfold trF
    rw [if_pos (by omega)]
  · rw [World.cell?_setCell_other _ _ _ _ (by intro e; cases e; exact hjk rfl), (h j hj).1]
    unfold trF
    by_cases h2 : j < k
    · rw [if_pos h2, if_pos (by omega)]
    · rw [if_neg h2, if_neg (by omega)]
theorem trRow_start (w : World) (s : ByteArray) (B : Nat) (hB : w.heap.size = B) : TrRow (w.alloc (.cells ((Lib.splitB ⟨#[44]⟩ 0 (Lib.countB s ⟨#[44]⟩) s).map Value.string).toArray 9)) B (Tp.parts [] s.data.toList) 0 := by
  subst hB
  intro j hj
  have hp := Tp.parts_count s
  refine ⟨?_, ?_⟩
  · rw [World.cell?_alloc_new]
    rw [← hp] at hj ⊢
    unfold trF
    rw [if_neg (by omega)]
    have hj' : j < (Lib.splitB ⟨#[44]⟩ 0 (Lib.countB s ⟨#[44]⟩) s).length := by simpa using hj
    rw [List.getElem?_toArray, List.getElem?_map, List.getElem?_eq_getElem hj', List.getD_eq_getElem?_getD, List.getElem?_map, List.getElem?_eq_getElem hj']
    rfl
  · simp [World.frozen?, World.alloc, -World.alloc_eq]
theorem trRow_done {w : World} {B cap : Nat} {P : List (List UInt8)} (h : TrRow w B P P.length) : StrRow w (.slice (some ⟨B, 0, none⟩) P.length cap) (P.map Tp.trim) := by
  refine ⟨some ⟨B, 0, none⟩, cap, by rw [List.length_map], .inr ⟨B, rfl, fun j hj => ?_⟩⟩
  rw [List.length_map] at hj
  rw [(h j hj).1]
  unfold trF
  rw [if_pos hj]
  congr 2
  simp [List.getD_eq_getElem?_getD, List.getElem?_eq_getElem hj]
set_option maxRecDepth 100000 in
theorem tok_items (s : ByteArray) (w : World) (hs : s.size ≤ 5000) (hm : ML w) :
    Calls Tryz.prog 39 #[.string s] w fun e w' => ∃ r, e = .returned r ∧ StrRow w' r (Tp.items s.data.toList) ∧ Below w.heap.size w w' := by
  obtain ⟨m, hm⟩ := hm
  have SP := Lib.hid (Tryz.strings_Split s ⟨#[44]⟩ m w (by omega) hm (by decide))
  clear hm
  have hn : (Tp.parts [] s.data.toList).length = Lib.countB s ⟨#[44]⟩ + 1 := by
    rw [← Tp.parts_count s, List.length_map, Lib.splitB_all _ (by decide) 0 _ s rfl]
  have hle : Lib.countB s ⟨#[44]⟩ ≤ s.size := Lib.countB_le _ (by decide) s.size s (Nat.le_refl _)
  have ST := Lib.hid (trRow_start w s w.heap.size rfl)
  have PA := Lib.hid (Tp.parts_at s.data.toList)
  have HI := Lib.hid (show Tp.items s.data.toList = ((Tp.parts [] s.data.toList).map Tp.trim).filter Tp.some? from rfl)
  obtain ⟨C, hC⟩ : ∃ C, ((Lib.splitB ⟨#[44]⟩ 0 (Lib.countB s ⟨#[44]⟩) s).map Value.string).toArray = C := ⟨_, rfl⟩
  rw [hC] at SP ST
  obtain ⟨P, hP⟩ : ∃ P, Tp.parts [] s.data.toList = P := ⟨_, rfl⟩
  rw [hP] at hn ST PA HI
  rw [HI.out]
  rw [← hn] at SP
  have hPl : P.length ≤ 5001 := by omega
  obtain ⟨n, hnn⟩ : ∃ n, P.length = n := ⟨_, rfl⟩
  rw [hnn] at SP hPl
  have HN := Lib.hid hnn
  clear hnn hn hle hC hP
  have hsz : s.data.toList.length ≤ 5000 := by simpa using hs
  have HS := Lib.hid hsz
  clear hsz
  go_enter Tryz.func39, Tryz.ntmps39
  go_wp2_with fail
  refine SP.out.mono ?_
  rintro e w1 ⟨rfl, rfl⟩
  go_wp2_with fail
  have hb1 : Below w.heap.size w (w.alloc (.cells C 9)) := (Below.refl _ _).alloc (Nat.le_refl _) _
  have HB1 := Lib.hid hb1
  clear hb1
  go_loopw [4, 9] (fun _ i wr => ∃ k : Nat, k ≤ n ∧ i = .int .i64 k ∧ Below w.heap.size w wr ∧ TrRow wr w.heap.size P k ∧ w.heap.size < wr.heap.size) (fun _ i _ => n - (intOf i).toNat)
  case atStart => exact ⟨0, Nat.zero_le _, rfl, HB1.out, ST.out, by simp⟩
  case round =>
    clear ST HB1
    obtain ⟨k, hk, rfl, hb, hrow, hlen⟩ := hrel
    have HB := Lib.hid hb
    have HR := Lib.hid hrow
    have HL := Lib.hid hlen
    clear hb hrow hlen
    by_cases hlt : k < n
    · have hc := (HR.out k (by rw [HN.out]; exact hlt)).1
      have hcur : trF P k k = P.getD k [] := if_neg (Nat.lt_irrefl k)
      rw [hcur] at hc
      clear hcur
      have hxs : (P.getD k []).length ≤ 5000 := Nat.le_trans (PA.out k) HS.out
      have HW := Lib.hid (fun W h => trRow_set (w := W) (k := k) (P := P) (B := w.heap.size) h (by rw [HN.out]; exact hlt))
      obtain ⟨x, hx⟩ : ∃ x, P.getD k [] = x := ⟨_, rfl⟩
      rw [hx] at hc hxs HW
      clear hx
      have K := Lib.hid (tok_trim ⟨x.toArray⟩ wr (by show x.toArray.size ≤ _; simp; omega))
      rw [show (⟨x.toArray⟩ : ByteArray).data.toList = x from rfl] at K
      clear hxs
      unfold tx at hc
      obtain ⟨xb, hxb⟩ : ∃ z : ByteArray, (⟨x.toArray⟩ : ByteArray) = z := ⟨_, rfl⟩
      rw [hxb] at hc K
      clear hxb
      obtain ⟨y, hy⟩ : ∃ y : ByteArray, (⟨(Tp.trim x).toArray⟩ : ByteArray) = y := ⟨_, rfl⟩
      have hy2 : tx (Tp.trim x) = .string y := by unfold tx; rw [hy]
      rw [hy] at K
      rw [hy2] at HW
      clear hy hy2
      go_wp2_with fail
      refine K.out.mono ?_
      rintro e w2 ⟨rfl, hb2⟩
      have hrow2 := trRow_below HR.out hb2 HL.out
      have hc2 := (hrow2 k (by rw [HN.out]; exact hlt)).1
      have hf2 := (hrow2 k (by rw [HN.out]; exact hlt)).2
      have HR2 := Lib.hid (HW.out _ hrow2)
      have HB2 := Lib.hid ((HB.out.trans (hb2.mono HB.out.size)).setCell (p := ⟨w.heap.size, k, none⟩) (Nat.le_refl _) (.string y))
      have HL2 := Lib.hid (show w.heap.size < (w2.setCell ⟨w.heap.size, k, none⟩ (.string y)).heap.size by rw [World.size_setCell]; exact Nat.lt_of_lt_of_le HL.out hb2.size)
      clear hrow2 hb2
      clear hc
      go_wp2_with fail
      go_roundw
      case rel => exact ⟨k + 1, by omega, by go_num, HB2.out, HR2.out, HL2.out⟩
      case measure => simp [intOf]; omega
    · have hk1 : k = n := by omega
      have hrow := HR.out
      rw [hk1, ← HN.out] at hrow
      have F := Lib.hid (fun c W (h : W = wr) => tok_sifted wr.heap.size (.slice (some ⟨w.heap.size, 0, none⟩) n c) (P.map Tp.trim) W (by rw [h]) (by rw [h, ← HN.out]; exact trRow_done hrow) (by rw [List.length_map, HN.out]; omega))
      clear hrow
      go_wp2_with fail
      refine (F.out _ _ rfl).mono ?_
      rintro e w2 ⟨r, rfl, hown, hb2⟩
      go_wp2
      go_ret
      exact ⟨r, rfl, strRow_own hown, HB.out.trans (hb2.mono HB.out.size)⟩
end Go.Proofs.YtheaichiglfmjaaGreatDoor

/- The reader of quoted texts: one byte taken. -/
namespace Go.Proofs.YtheaichiglfmjaaGreatDoor
set_option linter.unusedVariables false
set_option linter.unusedSimpArgs false
open Go.RowKit Go.Shelf
set_option maxHeartbeats 1000000
namespace Tp
/-- the state behind a byte: within quotes, behind a backslash -/
def stQ (q b : Bool) (c : Int) : Bool := if b then q else if q && c == 92 then q else if c == 34 then !q else q
def stB (q b : Bool) (c : Int) : Bool := if b then false else q && c == 92
/-- whether the byte is outside -/
def stR (q b : Bool) (c : Int) : Bool := if b then false else if q && c == 92 then false else if c == 34 then q else !q
end Tp
/-- the reader's three cells -/
def RS (w : World) (B : Nat) (s : ByteArray) (q b : Bool) : Prop := w.heap[B]? = some (.cells #[.string s, .bool q, .bool b] 105 (0, 0))
theorem RS.c0 {w : World} {B : Nat} {s : ByteArray} {q b : Bool} (h : RS w B s q b) : w.cell? ⟨B, 0, none⟩ = some (.string s) := by unfold RS at h; simp [World.cell?, h]
theorem RS.c1 {w : World} {B : Nat} {s : ByteArray} {q b : Bool} (h : RS w B s q b) : w.cell? ⟨B, 1, none⟩ = some (.bool q) := by unfold RS at h; simp [World.cell?, h]
theorem RS.c2 {w : World} {B : Nat} {s : ByteArray} {q b : Bool} (h : RS w B s q b) : w.cell? ⟨B, 2, none⟩ = some (.bool b) := by unfold RS at h; simp [World.cell?, h]
theorem RS.f {w : World} {B : Nat} {s : ByteArray} {q b : Bool} (h : RS w B s q b) (j : Nat) : w.frozen? ⟨B, j, none⟩ = false := frozen_of_row _ _ _ _ _ h
theorem RS.set1 {w : World} {B : Nat} {s : ByteArray} {q b : Bool} (h : RS w B s q b) (x : Bool) : RS (w.setCell ⟨B, 1, none⟩ (.bool x)) B s x b := heap_setCell_same _ _ _ _ _ _ h
theorem RS.set2 {w : World} {B : Nat} {s : ByteArray} {q b : Bool} (h : RS w B s q b) (x : Bool) : RS (w.setCell ⟨B, 2, none⟩ (.bool x)) B s q x := heap_setCell_same _ _ _ _ _ _ h
theorem RS.below {w w' : World} {B : Nat} {s : ByteArray} {q b : Bool} (h : RS w B s q b) (hb : Below w.heap.size w w') (hB : B < w.heap.size) : RS w' B s q b := (hb.block B hB).trans h
/-- a write into the block B, or none -/
def Touch (B : Nat) (w w' : World) : Prop := w' = w ∨ ∃ i v, w' = w.setCell ⟨B, i, none⟩ v
theorem Touch.below {B N : Nat} {w w' : World} (h : Touch B w w') (hN : N ≤ B) : Below N w w' := by
  rcases h with rfl | ⟨i, v, rfl⟩
  · exact Below.refl _ _
  · exact (Below.refl _ _).setCell hN _
theorem Touch.size {B : Nat} {w w' : World} (h : Touch B w w') : w'.heap.size = w.heap.size := by
  rcases h with rfl | ⟨i, v, rfl⟩
  · rfl
  · simp
theorem Touch.heap {B : Nat} {w w' : World} (h : Touch B w w') (k : Nat) (hk : k ≠ B) : w'.heap[k]? = w.heap[k]? := by
  rcases h with rfl | ⟨i, v, rfl⟩
  · rfl
  · exact heap_setCell_other _ _ _ _ hk
theorem tok_open (B : Nat) (s : ByteArray) (q b : Bool) (c : Int) (w : World) (h0 : 0 ≤ c) (h1 : c < 256) (h : RS w B s q b) :
    Calls Tryz.prog 63 #[.pointer (some ⟨B, 0, none⟩), .int .u8 c] w fun e w' => e = .returned (.bool (Tp.stR q b c)) ∧ RS w' B s (Tp.stQ q b c) (Tp.stB q b c) ∧ Touch B w w' := by
  have HR := Lib.hid h
  have hc1 := h.c1
  have hc2 := h.c2
  have hf1 := h.f 1
  have hf2 := h.f 2
  clear h
  cases b
  · cases q
    · by_cases hc : c = 34
      · have e1 : (c == 34) = true := beq_iff_eq.2 hc
        have e2 : (c == 92) = false := beq_eq_false_iff_ne.2 (by omega)
        clear hc
        go_enter Tryz.func63, Tryz.ntmps63
        go_wp2
        go_ret
        exact ⟨ret_bool (by simp [Tp.stR, e1]), by simpa [Tp.stQ, Tp.stB, e1] using HR.out.set1 true, .inr ⟨_, _, rfl⟩⟩
      · have e1 : (c == 34) = false := beq_eq_false_iff_ne.2 hc
        clear hc
        go_enter Tryz.func63, Tryz.ntmps63
        go_wp2
        go_ret
        exact ⟨ret_bool (by simp [Tp.stR, e1]), by simpa [Tp.stQ, Tp.stB, e1] using HR.out, .inl rfl⟩
    · by_cases hc : c = 34
      · have e1 : (c == 34) = true := beq_iff_eq.2 hc
        have e2 : (c == 92) = false := beq_eq_false_iff_ne.2 (by omega)
        clear hc
        go_enter Tryz.func63, Tryz.ntmps63
        go_wp2
        go_ret
        exact ⟨ret_bool (by simp [Tp.stR, e1, e2]), by simpa [Tp.stQ, Tp.stB, e1, e2] using HR.out.set1 false, .inr ⟨_, _, rfl⟩⟩
      · have e1 : (c == 34) = false := beq_eq_false_iff_ne.2 hc
        clear hc
        by_cases hd : c = 92
        · have e2 : (c == 92) = true := beq_iff_eq.2 hd
          clear hd
          go_enter Tryz.func63, Tryz.ntmps63
          go_wp2
          go_ret
          exact ⟨ret_bool (by simp [Tp.stR, e1, e2]), by simpa [Tp.stQ, Tp.stB, e1, e2] using HR.out.set2 true, .inr ⟨_, _, rfl⟩⟩
        · have e2 : (c == 92) = false := beq_eq_false_iff_ne.2 hd
          clear hd
          go_enter Tryz.func63, Tryz.ntmps63
          go_wp2
          go_ret
          exact ⟨ret_bool (by simp [Tp.stR, e1, e2]), by simpa [Tp.stQ, Tp.stB, e1, e2] using HR.out, .inl rfl⟩
  · go_enter Tryz.func63, Tryz.ntmps63
    go_wp2
    go_ret
    exact ⟨ret_bool (by simp [Tp.stR]), by simpa [Tp.stQ, Tp.stB] using HR.out.set2 false, .inr ⟨_, _, rfl⟩⟩
end Go.Proofs.YtheaichiglfmjaaGreatDoor

/- A list's items, the reference's: those of the text Ti. -/
namespace Go.Proofs.YtheaichiglfmjaaGreatDoor
set_option linter.unusedVariables false
set_option linter.unusedSimpArgs false
open Go.RowKit Go.Shelf
set_option maxHeartbeats 1000000
theorem itm_nil (cur : List UInt8) : Tp.itm cur [] = [Tp.trim cur].filter Tp.some? := rfl
theorem itm_comma (cur l : List UInt8) : Tp.itm cur (44 :: l) = [Tp.trim cur].filter Tp.some? ++ Tp.itm [] l := by
  unfold Tp.itm
  rw [Tp.parts, if_pos rfl, List.map_cons, ← List.singleton_append, List.filter_append]
theorem itm_more (cur l : List UInt8) (c : UInt8) (h : c ≠ 44) : Tp.itm cur (c :: l) = Tp.itm (cur ++ [c]) l := by
  unfold Tp.itm
  rw [Tp.parts, if_neg h]
theorem cut_snoc (l : List UInt8) (a k : Nat) (h : a ≤ k) (hk : k < l.length) : (l.drop a).take (k - a) ++ [l[k]] = (l.drop a).take (k + 1 - a) := by
  rw [show k + 1 - a = (k - a) + 1 by omega, List.take_succ_eq_append_getElem (by rw [List.length_drop]; omega), List.getElem_drop]
  congr 3
  omega
theorem drop_here (l : List UInt8) (k : Nat) (hk : k < l.length) : l.drop k = l[k] :: l.drop (k + 1) := List.drop_eq_getElem_cons hk
/-- the reference's place in the text: what is gathered, and where the part began -/
def ItAt (l : List UInt8) (L : List (List UInt8)) (a k : Nat) : Prop :=
  L.length ≤ k ∧ ((k ≤ l.length ∧ a ≤ k ∧ L ++ Tp.itm ((l.drop a).take (k - a)) (l.drop k) = Tp.items l) ∨ (k = l.length + 1 ∧ L = Tp.items l))
theorem itAt_start (l : List UInt8) : ItAt l [] 0 0 := ⟨Nat.le_refl _, .inl ⟨Nat.zero_le _, Nat.le_refl _, rfl⟩⟩
theorem itAt_more {l : List UInt8} {L : List (List UInt8)} {a k : Nat} (h : ItAt l L a k) (hk : k < l.length) (hc : l[k] ≠ 44) : ItAt l L a (k + 1) := by
  obtain ⟨h1, h2⟩ := h
  rcases h2 with ⟨_, ha, h2⟩ | ⟨h2, _⟩
  · refine ⟨by omega, .inl ⟨by omega, by omega, ?_⟩⟩
    rw [drop_here l k hk, itm_more _ _ _ hc, cut_snoc l a k ha hk] at h2
    exact h2
  · omega
theorem itAt_cut {l : List UInt8} {L : List (List UInt8)} {a k : Nat} (h : ItAt l L a k) (hk : k ≤ l.length) (hc : ∀ h : k < l.length, l[k] = 44) : ItAt l (L ++ [Tp.trim ((l.drop a).take (k - a))].filter Tp.some?) (k + 1) (k + 1) := by
  obtain ⟨h1, h2⟩ := h
  rcases h2 with ⟨_, ha, h2⟩ | ⟨h2, _⟩
  · refine ⟨?_, ?_⟩
    · have := List.length_filter_le Tp.some? [Tp.trim ((l.drop a).take (k - a))]
      rw [List.length_append]
      simp only [List.length_singleton] at this
      omega
    · by_cases hlt : k < l.length
      · refine .inl ⟨hlt, Nat.le_refl _, ?_⟩
        rw [drop_here l k hlt, hc hlt, itm_comma] at h2
        rw [Nat.sub_self, List.take_zero, List.append_assoc]
        exact h2
      · refine .inr ⟨by omega, ?_⟩
        have : k = l.length := by omega
        rw [this, List.drop_length, itm_nil] at h2
        rw [this]
        exact h2
  · omega
theorem slice_mid (u : ByteArray) (w : World) (a k : Nat) (h : a ≤ k) (hk : k ≤ u.size) (hu : u.size ≤ 9223372036854775807) : (Instr.slice 9 (.string u) (some (.int .i64 (a : Int))) (some (.int .i64 (k : Int))) none).run Tryz.prog w = .ok (.string (u.extract a k)) w := by
  have h1 : (a : Int) ≤ k := by omega
  have h2 : (k : Int) ≤ u.size := by omega
  simp [go_sem, Tryz.underlying9, h1, h2]
theorem index_at (u : ByteArray) (w : World) (k : Nat) (h : k < u.size) : (Instr.index 9 (.string u) (.int .i64 (k : Int))).run Tryz.prog w = .ok (.int .u8 ((u[k]).toNat : Int)) w := by
  have hi : (0 : Int) ≤ (k : Int) ∧ (k : Int) < u.size := by omega
  rw [run_index_string w 9 u .i64 _ Tryz.underlying9, dif_pos hi]
  simp only [Int.toNat_natCast]
set_option maxRecDepth 100000 in
theorem rtk_items (s : ByteArray) (w : World) (hs : s.size ≤ 5000) :
    Calls Tryz.prog 25 #[.string s] w fun e w' => ∃ r, e = .returned r ∧ StrRow w' r (Tp.items s.data.toList) ∧ Below w.heap.size w w' := by
  obtain ⟨i0, hi, hz0, hz1, hz2⟩ := info_parts (show (Tryz.prog.info? 9).map (fun i => (i.zero, i.size, i.bytes)) = some (some (.string ByteArray.empty), 1, 16) by kernel_rfl)
  obtain ⟨B, hB⟩ : ∃ B, w.heap.size = B := ⟨_, rfl⟩
  rw [hB]
  have HSL := Lib.hid (fun a k h1 h2 W => slice_mid s W a k h1 h2 (by omega))
  have HIX := Lib.hid (fun k h W => index_at s W k h)
  go_enter Tryz.func25, Tryz.ntmps25
  go_wp2_with fail
  go_loopw [3, 4, 5, 6] (fun v f i _ wr => ∃ (k a : Nat) (L : List (List UInt8)), k ≤ s.size + 1 ∧ i = .int .i64 k ∧ f = .int .i64 a ∧ ItAt s.data.toList L a k ∧ wr.ownsRow B 9 1 v L.length (L.map tx) ∧ Below B w wr) (fun _ _ i _ _ => s.size + 1 - (intOf i).toNat)
  case atStart => exact ⟨0, 0, [], Nat.zero_le _, rfl, rfl, itAt_start _, World.ownsRow_nil _ _ _ _, Below.refl _ _⟩
  case round =>
    obtain ⟨k, a, L, hk, rfl, rfl, hat, hown, hb⟩ := hrel
    have HA := Lib.hid hat
    have HO := Lib.hid hown
    have HB := Lib.hid hb
    clear hat hown hb
    by_cases hlt : k < s.size
    · have hix := HIX.out k hlt
      have hcl : s.data.toList[k]'(by simpa using hlt) = s[k] := rfl
      obtain ⟨x, hx⟩ : ∃ x : Int, ((s[k]).toNat : Int) = x := ⟨_, rfl⟩
      rw [hx] at hix
      have HX := Lib.hid hx
      clear hx
      by_cases hc : x = 44
      · have hc1 : (x == 44) = true := beq_iff_eq.2 hc
        have HM := Lib.hid (itAt_cut HA.out (by simp; omega) (fun hh => UInt8.toNat_inj.1 (by have := HX.out; rw [hc] at this; show (s[k]).toNat = 44; omega)))
        clear hc hcl
        have ha : a ≤ k := by rcases HA.out.2 with ⟨_, h, _⟩ | ⟨h, _⟩; exact h; simp at h; omega
        have hsl := HSL.out a k ha (by omega)
        obtain ⟨z, hz⟩ : ∃ z, s.extract a k = z := ⟨_, rfl⟩
        have hzl : z.size ≤ 9223372036854775807 := by rw [← hz, ByteArray.size_extract]; omega
        have hzd : (s.data.toList.drop a).take (k - a) = z.data.toList := by rw [← hz, Lib.extract_data]
        rw [hzd] at HM
        rw [hz] at hsl
        have K := Lib.hid (rtk_trim z wr hzl)
        clear hzd hzl hz
        obtain ⟨y, hy⟩ : ∃ y, Tp.trim z.data.toList = y := ⟨_, rfl⟩
        rw [hy] at HM K
        clear hy
        go_wp2_with (first | simp only [hix] | simp only [hsl])
        refine K.out.mono ?_
        rintro e w' ⟨rfl, rfl⟩
        obtain ⟨yb, hyb⟩ : ∃ z : ByteArray, (⟨y.toArray⟩ : ByteArray) = z := ⟨_, rfl⟩
        rw [hyb]
        have HTY := Lib.hid (show tx y = .string yb by unfold tx; rw [hyb])
        obtain ⟨d, hd⟩ : ∃ d, y.isEmpty = d := ⟨_, rfl⟩
        have hq : yb.toList.isEmpty = d := by rw [← hyb, ByteArray.toList_eq]; exact hd
        have hso : Tp.some? y = !d := by unfold Tp.some?; rw [hd]
        clear hyb hd
        cases d
        · rw [show [y].filter Tp.some? = [y] by simp [hso]] at HM
          clear hso
          go_wp2_with (first
            | (at_builtin; refine wpList_append_own _ rfl _ _ 63 rfl B 9 i0 (.string ByteArray.empty) 1 16 Tryz.underlying63 hi hz0 hz1 hz2 rfl (by decide) _ _ _ rfl (HO.out.alloc _) ⟨wr.heap.size, 0, none⟩ 1 1 [.string yb] rfl rfl ?c1 ?c2 ?c3 ?c4 ?c5 ?_)
            | go_in)
          case c1 =>
            intro j u hj
            match j, hj with
            | 0, hj => simp at hj; subst hj; simp [Addr.add]
          case c2 => intro u hu; simp at hu; subst hu; rfl
          case c3 => have := HA.out.1; unfold maxLen; omega
          case c4 => have := HA.out.1; omega
          case c5 => have := HB.out.size; simp; omega
          intro v' w1 hown' hgrow _
          have hb1 : Below B w w1 := Below.grown (HB.out.alloc (by have := HB.out.size; omega) _) hgrow (by have := HB.out.size; simp; omega) (own_ge HO.out)
          have HB1 := Lib.hid hb1
          have ho : w1.ownsRow B 9 1 v' (L ++ [y]).length ((L ++ [y]).map tx) := by
            rw [List.map_append, List.length_append]
            show w1.ownsRow B 9 1 v' _ (_ ++ [tx y])
            rw [HTY.out]
            exact hown'
          have HO1 := Lib.hid ho
          clear ho hb1 hgrow hown'
          go_wp2
          go_roundw
          case rel => exact ⟨k + 1, k + 1, L ++ [y], by omega, by go_num, by go_num, HM.out, HO1.out, HB1.out⟩
          case measure => simp [intOf]; omega
        · rw [show [y].filter Tp.some? = [] by simp [hso], List.append_nil] at HM
          clear hso
          go_wp2
          go_roundw
          case rel => exact ⟨k + 1, k + 1, L, by omega, by go_num, by go_num, HM.out, HO.out, HB.out⟩
          case measure => simp [intOf]; omega
      · have hc1 : (x == 44) = false := beq_eq_false_iff_ne.2 hc
        have HM := Lib.hid (itAt_more HA.out (by simpa using hlt) (by intro e; apply hc; rw [← HX.out, ← hcl, e]; rfl))
        clear hc hcl
        go_wp2_with (simp only [hix])
        go_roundw
        case rel => exact ⟨k + 1, a, L, by omega, by go_num, rfl, HM.out, HO.out, HB.out⟩
        case measure => simp [intOf]; omega
    · by_cases hlt2 : k = s.size
      · have HM := Lib.hid (itAt_cut HA.out (by simp; omega) (fun hh => absurd (show k < s.size by simpa using hh) hlt))
        have ha : a ≤ k := by rcases HA.out.2 with ⟨_, h, _⟩ | ⟨h, _⟩; exact h; simp at h; omega
        have hsl := HSL.out a k ha (by omega)
        obtain ⟨z, hz⟩ : ∃ z, s.extract a k = z := ⟨_, rfl⟩
        have hzl : z.size ≤ 9223372036854775807 := by rw [← hz, ByteArray.size_extract]; omega
        have hzd : (s.data.toList.drop a).take (k - a) = z.data.toList := by rw [← hz, Lib.extract_data]
        rw [hzd] at HM
        rw [hz] at hsl
        have K := Lib.hid (rtk_trim z wr hzl)
        clear hzd hzl hz
        obtain ⟨y, hy⟩ : ∃ y, Tp.trim z.data.toList = y := ⟨_, rfl⟩
        rw [hy] at HM K
        clear hy
        have hle : k ≤ s.size := by omega
        clear hlt2
        go_wp2_with (simp only [hsl])
        refine K.out.mono ?_
        rintro e w' ⟨rfl, rfl⟩
        obtain ⟨yb, hyb⟩ : ∃ z : ByteArray, (⟨y.toArray⟩ : ByteArray) = z := ⟨_, rfl⟩
        rw [hyb]
        have HTY := Lib.hid (show tx y = .string yb by unfold tx; rw [hyb])
        obtain ⟨d, hd⟩ : ∃ d, y.isEmpty = d := ⟨_, rfl⟩
        have hq : yb.toList.isEmpty = d := by rw [← hyb, ByteArray.toList_eq]; exact hd
        have hso : Tp.some? y = !d := by unfold Tp.some?; rw [hd]
        clear hyb hd
        cases d
        · rw [show [y].filter Tp.some? = [y] by simp [hso]] at HM
          clear hso
          go_wp2_with (first
            | (at_builtin; refine wpList_append_own _ rfl _ _ 63 rfl B 9 i0 (.string ByteArray.empty) 1 16 Tryz.underlying63 hi hz0 hz1 hz2 rfl (by decide) _ _ _ rfl (HO.out.alloc _) ⟨wr.heap.size, 0, none⟩ 1 1 [.string yb] rfl rfl ?c1 ?c2 ?c3 ?c4 ?c5 ?_)
            | go_in)
          case c1 =>
            intro j u hj
            match j, hj with
            | 0, hj => simp at hj; subst hj; simp [Addr.add]
          case c2 => intro u hu; simp at hu; subst hu; rfl
          case c3 => have := HA.out.1; unfold maxLen; omega
          case c4 => have := HA.out.1; omega
          case c5 => have := HB.out.size; simp; omega
          intro v' w1 hown' hgrow _
          have hb1 : Below B w w1 := Below.grown (HB.out.alloc (by have := HB.out.size; omega) _) hgrow (by have := HB.out.size; simp; omega) (own_ge HO.out)
          have HB1 := Lib.hid hb1
          have ho : w1.ownsRow B 9 1 v' (L ++ [y]).length ((L ++ [y]).map tx) := by
            rw [List.map_append, List.length_append]
            show w1.ownsRow B 9 1 v' _ (_ ++ [tx y])
            rw [HTY.out]
            exact hown'
          have HO1 := Lib.hid ho
          clear ho hb1 hgrow hown'
          go_wp2
          go_roundw
          case rel => exact ⟨k + 1, k + 1, L ++ [y], by omega, by go_num, by go_num, HM.out, HO1.out, HB1.out⟩
          case measure => simp [intOf]; omega
        · rw [show [y].filter Tp.some? = [] by simp [hso], List.append_nil] at HM
          clear hso
          go_wp2
          go_roundw
          case rel => exact ⟨k + 1, k + 1, L, by omega, by go_num, by go_num, HM.out, HO.out, HB.out⟩
          case measure => simp [intOf]; omega
      · have hk2 : k = s.size + 1 := by omega
        have hL : L = Tp.items s.data.toList := by
          rcases HA.out.2 with ⟨h, _⟩ | ⟨_, h⟩
          · simp at h; omega
          · exact h
        have hle : ¬ k ≤ s.size := by omega
        have HL := Lib.hid hL
        clear hk2 hlt2 hL
        go_wp2
        go_ret
        exact ⟨_, rfl, strRow_own (by rw [← HL.out]; exact HO.out), HB.out⟩
end Go.Proofs.YtheaichiglfmjaaGreatDoor

/- A text cut at a byte outside of quotes: the program's. -/
namespace Go.Proofs.YtheaichiglfmjaaGreatDoor
set_option linter.unusedVariables false
set_option linter.unusedSimpArgs false
open Go.RowKit Go.Shelf Go.Sort
set_option maxHeartbeats 1000000
namespace Tp
def cutAt (by_ : Int) : Bool → Bool → List UInt8 → Option Nat
  | _, _, [] => none
  | q, b, c :: l => if !q && ((c.toNat : Int) == by_) then some 0 else (cutAt by_ (stQ q b c.toNat) (stB q b c.toNat) l).map (· + 1)
def cut (l : List UInt8) (by_ : Int) : List UInt8 × List UInt8 × Bool :=
  match cutAt by_ false false l with
  | some k => (trim (l.take k), trim (l.drop (k + 1)), true)
  | none => (trim l, [], false)
/-- k bytes were taken, and the cut is not among them -/
def CutSt (l : List UInt8) (by_ : Int) (q b : Bool) (k : Nat) : Prop := cutAt by_ false false l = (cutAt by_ q b (l.drop k)).map (· + k)
theorem cutSt_start (l : List UInt8) (by_ : Int) : CutSt l by_ false false 0 := by
  unfold CutSt
  rw [List.drop_zero]
  cases cutAt by_ false false l <;> rfl
theorem cutSt_next {l : List UInt8} {by_ : Int} {q b : Bool} {k : Nat} (h : CutSt l by_ q b k) (hk : k < l.length) (hn : (!q && ((l[k].toNat : Int) == by_)) = false) : CutSt l by_ (stQ q b l[k].toNat) (stB q b l[k].toNat) (k + 1) := by
  unfold CutSt at *
  rw [h, List.drop_eq_getElem_cons hk, cutAt, hn]
  cases cutAt by_ (stQ q b l[k].toNat) (stB q b l[k].toNat) (l.drop (k + 1)) with
  | none => rfl
  | some x => simp; omega
theorem cutSt_hit {l : List UInt8} {by_ : Int} {q b : Bool} {k : Nat} (h : CutSt l by_ q b k) (hk : k < l.length) (hn : (!q && ((l[k].toNat : Int) == by_)) = true) : cut l by_ = (trim (l.take k), trim (l.drop (k + 1)), true) := by
  unfold CutSt at h
  rw [List.drop_eq_getElem_cons hk, cutAt, hn] at h
  unfold cut
  rw [h]
  simp
theorem cutSt_end {l : List UInt8} {by_ : Int} {q b : Bool} {k : Nat} (h : CutSt l by_ q b k) (hk : k = l.length) : cut l by_ = (trim l, [], false) := by
  unfold CutSt at h
  rw [hk, List.drop_length] at h
  unfold cut
  rw [h]
  rfl
end Tp
theorem slice_to (u : ByteArray) (w : World) (k : Nat) (hk : k ≤ u.size) (hu : u.size ≤ 9223372036854775807) : (Instr.slice 9 (.string u) none (some (.int .i64 (k : Int))) none).run Tryz.prog w = .ok (.string (u.extract 0 k)) w := by
  have h2 : (k : Int) ≤ u.size := by omega
  simp [go_sem, Tryz.underlying9, h2]
theorem slice_from (u : ByteArray) (w : World) (k : Nat) (hk : k < u.size) (hu : u.size ≤ 9223372036854775807) : (Instr.slice 9 (.string u) (some (.int .i64 ((k : Int) + 1))) none none).run Tryz.prog w = .ok (.string (u.extract (k + 1) u.size)) w := by
  have h2 : (k : Int) + 1 ≤ u.size := by omega
  have h3 : (0 : Int) ≤ (k : Int) + 1 := by omega
  have h4 : ((k : Int) + 1).toNat = k + 1 := by omega
  simp [go_sem, Tryz.underlying9, h2, h3, h4]
set_option maxRecDepth 100000 in
theorem tok_cut (s : ByteArray) (by_ : Int) (w : World) (h0 : 0 ≤ by_) (h1 : by_ < 256) (hs : s.size ≤ 1000000) :
    Calls Tryz.prog 37 #[.string s, .int .u8 by_] w fun e w' =>
      e = .returned (.tuple #[tx (Tp.cut s.data.toList by_).1, tx (Tp.cut s.data.toList by_).2.1, .bool (Tp.cut s.data.toList by_).2.2]) ∧ Below w.heap.size w w' := by
  have HIX := Lib.hid (fun k h W => index_at s W k h)
  go_enter Tryz.func37, Tryz.ntmps37
  go_wp2_with fail
  have hbl : Below w.heap.size w (w.alloc (.cells #[.string s, .bool false, .bool false] 105)) := (Below.refl _ _).alloc (Nat.le_refl _) _
  have HB0 := Lib.hid hbl
  clear hbl
  go_loopw [8, 9, 20] (fun _ _ i wr => ∃ (k : Nat) (q b : Bool), k ≤ s.size ∧ i = .int .i64 k ∧ Tp.CutSt s.data.toList by_ q b k ∧ RS wr w.heap.size s q b ∧ Below w.heap.size w wr ∧ w.heap.size < wr.heap.size) (fun _ _ i _ => s.size - (intOf i).toNat)
  case atStart => exact ⟨0, false, false, Nat.zero_le _, rfl, Tp.cutSt_start _ _, by simp [RS, World.alloc, -World.alloc_eq], HB0.out, by simp⟩
  case round =>
    clear HB0
    obtain ⟨k, q, b, hk, rfl, hst, hrs, hb, hlen⟩ := hrel
    have HS := Lib.hid hst
    have HR := Lib.hid hrs
    have HB := Lib.hid hb
    have HL := Lib.hid hlen
    clear hst hrs hb hlen
    by_cases hlt : k < s.size
    · have hix := HIX.out k hlt
      have hc1 := HR.out.c1
      have hr1 : (0 : Int) ≤ ((s[k]).toNat : Int) := by omega
      have hr2 : ((s[k]).toNat : Int) < 256 := by have := (s[k]).toNat_lt; omega
      have hkl : k < s.data.toList.length := by simpa using hlt
      have HN := Lib.hid (Tp.cutSt_next HS.out hkl)
      have HH := Lib.hid (Tp.cutSt_hit HS.out hkl)
      rw [show s.data.toList[k] = s[k] from rfl] at HN HH
      obtain ⟨x, hx⟩ : ∃ x : Int, ((s[k]).toNat : Int) = x := ⟨_, rfl⟩
      rw [hx] at hix hr1 hr2 HN HH
      have K := Lib.hid (tok_open w.heap.size s q b x wr hr1 hr2 HR.out)
      clear hx hkl hr1 hr2
      go_wp2_with (simp only [hix])
      refine K.out.mono ?_
      rintro e w2 ⟨rfl, hrs2, htc⟩
      obtain ⟨r, hr⟩ : ∃ r, Tp.stR q b x = r := ⟨_, rfl⟩
      rw [hr]
      clear hr hc1
      have HR2 := Lib.hid hrs2
      have HB2 := Lib.hid (HB.out.trans (htc.below (Nat.le_refl _)))
      have HL2 := Lib.hid (show w.heap.size < w2.heap.size by rw [htc.size]; exact HL.out)
      clear hrs2 htc K
      cases q
      · by_cases hxb : x = by_
        · have e1 : (x == by_) = true := beq_iff_eq.2 hxb
          have HC := Lib.hid (HH.out (by rw [e1]; rfl))
          clear HN HH HR HB HL hxb HS
          have hsl1 := fun W => slice_to s W k (by omega) (by omega)
          have hsl2 := fun W => slice_from s W k hlt (by omega)
          have hz1 : (s.extract 0 k).size ≤ 9223372036854775807 := by rw [ByteArray.size_extract]; omega
          have hz2 : (s.extract (k + 1) s.size).size ≤ 9223372036854775807 := by rw [ByteArray.size_extract]; omega
          have hd1 : (s.extract 0 k).data.toList = s.data.toList.take k := Lib.extract_from_zero s k
          have hd2 : (s.extract (k + 1) s.size).data.toList = s.data.toList.drop (k + 1) := Lib.extract_to_end s (k + 1)
          have c1 := fun d os => Calls.regrown_of (tok_trim (s.extract 0 k) (grow (redrawn w2 d) os) hz1)
          have c2 := fun d os => Calls.regrown_of (tok_trim (s.extract (k + 1) s.size) (grow (redrawn w2 d) os) hz2)
          rw [hd1] at c1
          rw [hd2] at c2
          clear hz1 hz2 hd1 hd2
          obtain ⟨z1, hz1⟩ : ∃ z, s.extract 0 k = z := ⟨_, rfl⟩
          obtain ⟨z2, hz2⟩ : ∃ z, s.extract (k + 1) s.size = z := ⟨_, rfl⟩
          rw [hz1] at hsl1 c1
          rw [hz2] at hsl2 c2
          clear hz1 hz2
          have C1 := Lib.hid c1
          have C2 := Lib.hid c2
          clear c1 c2
          have hw : IntKind.i64.wrap ((k : Int) + 1) = (k : Int) + 1 := IntWalk.i64_in _ (by omega)
          have hk1 : (0 : Int) ≤ (k : Int) + 1 := by omega
          go_wp2_with (simp only [hix])
          refine wp_region_quiet_below (by kernel_rfl) (by kernel_rfl) ?_
          repeat (quiet_step (first | exact C1.out _ _ | exact C2.out _ _))
          refine wpQuiet_nil ?_
          intro _ hw'
          obtain ⟨⟨dq, osq⟩, hw''⟩ := hw'
          subst hw''
          go_wp2
          refine bodyPost_ret (v := .tuple #[.string ⟨(Tp.trim (s.data.toList.take k)).toArray⟩, .string ⟨(Tp.trim (s.data.toList.drop (k + 1))).toArray⟩, .bool true]) (by simp [results, Tryz.results37, go_sem]) rfl ⟨?_, ?_⟩
          · rw [HC.out]
            rfl
          · exact HB2.out.trans ((below_regrown _ _ _).mono HB2.out.size)
        · have e1 : (x == by_) = false := beq_eq_false_iff_ne.2 hxb
          have HN2 := Lib.hid (HN.out (by rw [e1]; rfl))
          clear HN HH hxb
          go_wp2_with (simp only [hix])
          go_roundw
          case rel => exact ⟨k + 1, _, _, by omega, by go_num, HN2.out, HR2.out, HB2.out, HL2.out⟩
          case measure => simp [intOf]; omega
      · have HN2 := Lib.hid (HN.out rfl)
        clear HN HH
        go_wp2_with (simp only [hix])
        go_roundw
        case rel => exact ⟨k + 1, _, _, by omega, by go_num, HN2.out, HR2.out, HB2.out, HL2.out⟩
        case measure => simp [intOf]; omega
    · have hks : k = s.size := by omega
      have HE := Lib.hid (Tp.cutSt_end HS.out (by rw [hks]; rfl))
      have hks2 : ¬ k < s.size := hlt
      clear hks
      have T := Lib.hid (tok_trim s wr (by omega))
      go_wp2_with fail
      refine T.out.mono ?_
      rintro e w2 ⟨rfl, hb2⟩
      go_wp2
      refine bodyPost_ret (v := .tuple #[.string ⟨(Tp.trim s.data.toList).toArray⟩, .string ⟨#[]⟩, .bool false]) (by simp [results, Tryz.results37, go_sem]) rfl ⟨?_, HB.out.trans (hb2.mono HB.out.size)⟩
      rw [HE.out]
      rfl
end Go.Proofs.YtheaichiglfmjaaGreatDoor

/- The sums, products and their like of layer 1 (decimal), the program's and the reference's, compute the plain functions of the text Dp. Each number is one of 64 bits. -/
namespace Go.Proofs.YtheaichiglfmjaaGreatDoor
set_option linter.unusedVariables false
set_option linter.unusedSimpArgs false
open Go.RowKit

theorem dec_add (a b : Int) (w : World) (ha : Dp.U a) (hb : Dp.U b) :
    Calls Tryz.prog 94 #[.int .u64 a, .int .u64 b] w fun e w' => e = .returned (.tuple #[.int .u64 (Dp.addN a b), .int .i64 (Dp.addE a b)]) ∧ w = w' := by
  go_enter Tryz.func94, Tryz.ntmps94
  go_wp2
  all_goals go_ret2
  all_goals (refine ⟨ret_pair ?_ ?_, rfl⟩ <;> simp only [Dp.U, IntKind.wrap_u64, Dp.addN, Dp.addE] at * <;> split <;> omega)
theorem ref_add (a b : Int) (w : World) (ha : Dp.U a) (hb : Dp.U b) :
    Calls Tryz.prog 76 #[.int .u64 a, .int .u64 b] w fun e w' => e = .returned (.tuple #[.int .u64 (Dp.addN a b), .int .i64 (Dp.addE a b)]) ∧ w = w' := by
  go_enter Tryz.func76, Tryz.ntmps76
  go_wp2
  all_goals go_ret2
  all_goals (refine ⟨ret_pair ?_ ?_, rfl⟩ <;> simp only [Dp.U, IntKind.wrap_u64, Dp.addN, Dp.addE] at * <;> split <;> omega)
theorem mul_test {a b : Int} (ha : Dp.U a) (hb : Dp.U b) (h0 : a ≠ 0) : (IntKind.u64.wrap ((IntKind.u64.wrap (a * b)).tdiv a) != b) = !decide (a * b < 18446744073709551616) := by
  have h := Dp.mul_div ha hb h0
  have hp : 0 ≤ a * b := Int.mul_nonneg ha.1 hb.1
  unfold Dp.U at ha hb
  have hm : 0 ≤ (a * b) % 18446744073709551616 ∧ (a * b) % 18446744073709551616 < 18446744073709551616 := by omega
  have e1 : IntKind.u64.wrap ((IntKind.u64.wrap (a * b)).tdiv a) = ((a * b) % 18446744073709551616) / a := by
    rw [IntKind.wrap_u64, IntKind.wrap_u64, Int.tdiv_eq_ediv_of_nonneg hm.1]
    have h1 : 0 ≤ ((a * b) % 18446744073709551616) / a := Int.ediv_nonneg hm.1 ha.1
    have h2 : ((a * b) % 18446744073709551616) / a ≤ (a * b) % 18446744073709551616 := Int.ediv_le_self _ hm.1
    omega
  rw [e1]
  by_cases hc : a * b < 18446744073709551616
  · rw [decide_eq_true hc]
    have := h.2 hc
    simp [this]
  · rw [decide_eq_false hc]
    have : ¬ _ := fun x => hc (h.1 x)
    simpa using this
theorem dec_mul (a b : Int) (w : World) (ha : Dp.U a) (hb : Dp.U b) :
    Calls Tryz.prog 93 #[.int .u64 a, .int .u64 b] w fun e w' => e = .returned (.tuple #[.int .u64 (Dp.mulN a b), .int .i64 (Dp.mulE a b)]) ∧ w = w' := by
  have hp : 0 ≤ a * b := Int.mul_nonneg ha.1 hb.1
  by_cases h0 : a = 0
  · subst h0
    go_enter Tryz.func93, Tryz.ntmps93
    go_wp2
    go_ret2
    refine ⟨ret_pair ?_ ?_, rfl⟩ <;> simp [Dp.mulN, Dp.mulE, IntKind.wrap_u64]
  · have h1 : (a != 0) = true := bne_iff_ne.2 h0
    by_cases hc : a * b < 18446744073709551616
    · have H1 := Lib.hid (show Dp.mulN a b = a * b from if_pos hc)
      have H2 := Lib.hid (show Dp.mulE a b = 0 from if_pos hc)
      have H3 := Lib.hid (show IntKind.u64.wrap (a * b) = a * b from by rw [IntKind.wrap_u64]; omega)
      have ht : (IntKind.u64.wrap ((IntKind.u64.wrap (a * b)).tdiv a) != b) = false := by rw [mul_test ha hb h0, decide_eq_true hc]; rfl
      clear hc hp
      go_enter Tryz.func93, Tryz.ntmps93
      go_wp2
      go_ret2
      exact ⟨ret_pair (H3.out.trans H1.out.symm) H2.out.symm, rfl⟩
    · have H1 := Lib.hid (show Dp.mulN a b = 0 from if_neg hc)
      have H2 := Lib.hid (show Dp.mulE a b = 111 from if_neg hc)
      have ht : (IntKind.u64.wrap ((IntKind.u64.wrap (a * b)).tdiv a) != b) = true := by rw [mul_test ha hb h0, decide_eq_false hc]; rfl
      clear hc hp
      go_enter Tryz.func93, Tryz.ntmps93
      go_wp2
      go_ret2
      exact ⟨ret_pair H1.out.symm H2.out.symm, rfl⟩
theorem most_div {a : Int} (ha : Dp.U a) (h0 : a ≠ 0) : IntKind.u64.wrap (Int.tdiv 18446744073709551615 a) = 18446744073709551615 / a := by
  unfold Dp.U at ha
  rw [IntKind.wrap_u64, Int.tdiv_eq_ediv_of_nonneg (by omega)]
  have h1 : 0 ≤ (18446744073709551615 : Int) / a := Int.ediv_nonneg (by omega) ha.1
  have h2 : (18446744073709551615 : Int) / a ≤ 18446744073709551615 := Int.ediv_le_self _ (by omega)
  omega
theorem ref_mul (a b : Int) (w : World) (ha : Dp.U a) (hb : Dp.U b) :
    Calls Tryz.prog 75 #[.int .u64 a, .int .u64 b] w fun e w' => e = .returned (.tuple #[.int .u64 (Dp.mulN a b), .int .i64 (Dp.mulE a b)]) ∧ w = w' := by
  have hp : 0 ≤ a * b := Int.mul_nonneg ha.1 hb.1
  by_cases h0 : a = 0
  · subst h0
    go_enter Tryz.func75, Tryz.ntmps75
    go_wp2
    go_ret2
    refine ⟨ret_pair ?_ ?_, rfl⟩ <;> simp [Dp.mulN, Dp.mulE, IntKind.wrap_u64]
  · have h1 : (a != 0) = true := bne_iff_ne.2 h0
    go_enter Tryz.func75, Tryz.ntmps75
    go_wp2
    all_goals go_ret2
    all_goals (rename_i ht; rw [most_div ha h0] at ht; have hm := Dp.mul_most ha hb h0; refine ⟨ret_pair ?_ ?_, rfl⟩ <;> simp only [Dp.mulN, Dp.mulE, IntKind.wrap_u64] <;> split <;> omega)
end Go.Proofs.YtheaichiglfmjaaGreatDoor

/- The closures by which layer 1 (decimal) reads digits compute the plain functions of the texts Dp and Dq. Bytes are from 0 to 255, the base is ten or sixteen, texts have at most 1000000 bytes. -/
namespace Go.Proofs.YtheaichiglfmjaaGreatDoor
set_option linter.unusedVariables false
set_option linter.unusedSimpArgs false
open Go.RowKit
set_option maxHeartbeats 400000
theorem strings_indexByte (s : ByteArray) (c : Int) (w : World) :
    Calls Tryz.prog 88 #[.string s, .int .u8 c] w fun e w' => e = .returned (.int .i64 (Lib.indexByte s.data.toList c.toNat.toUInt8)) ∧ w = w' :=
  (Tryz.strings_IndexByte s c w).mono fun _ _ h => ⟨h.1, h.2.symm⟩
theorem val_ten {c : Int} (h0 : 0 ≤ c) (h1 : c < 256) : Lib.indexByte (Dp.known 10) c.toNat.toUInt8 = Dp.valV 10 c := by
  obtain ⟨n, rfl⟩ := Int.eq_ofNat_of_zero_le h0
  exact Dp.index_ten ⟨n, by omega⟩
theorem val_hex_low {c : Int} (h0 : 0 ≤ c) (h1 : c < 256) (h : ¬ (65 ≤ c ∧ c ≤ 70)) : Lib.indexByte (Dp.known 16) c.toNat.toUInt8 = Dp.valV 16 c := by
  obtain ⟨n, rfl⟩ := Int.eq_ofNat_of_zero_le h0
  have := Dp.index_hex ⟨n, by omega⟩
  simp only [show ¬ (65 ≤ n ∧ n ≤ 70) by omega, if_false] at this
  exact this
theorem val_hex_up {c : Int} (h : 65 ≤ c ∧ c ≤ 70) : Lib.indexByte (Dp.known 16) (c + 32).toNat.toUInt8 = Dp.valV 16 c := by
  obtain ⟨n, rfl⟩ := Int.eq_ofNat_of_zero_le (show 0 ≤ c by omega)
  have := Dp.index_hex ⟨n, by omega⟩
  simp only [show (65 ≤ n ∧ n ≤ 70) by omega, and_self, if_true] at this
  exact this
theorem val_any (b : Int) (hb : b = 10 ∨ b = 16) (c : Int) (rb kb : Nat) (w : World) (h0 : 0 ≤ c) (h1 : c < 256) (hr : w.cell? ⟨rb, 1, none⟩ = some (.int .i64 b)) (hk : w.cell? ⟨kb, 0, none⟩ = some (.string ⟨(Dp.known b).toArray⟩)) :
    Calls Tryz.prog 87 #[.int .u8 c, .pointer (some ⟨rb, 0, none⟩), .pointer (some ⟨kb, 0, none⟩)] w fun e w' => e = .returned (.int .i64 (Dp.valV b c)) ∧ w = w' := by
  have H10 : Hid (Lib.indexByte (Dp.known 10) c.toNat.toUInt8 = Dp.valV 10 c) := val_ten h0 h1
  rcases hb with rfl | rfl
  · go_enter Tryz.func87, Tryz.ntmps87
    go_wp2_with fail
    refine (strings_indexByte _ _ _).mono ?_
    rintro e w' ⟨rfl, rfl⟩
    go_wp2
    go_ret
    exact ⟨ret_int H10.out, rfl⟩
  · by_cases h : 65 ≤ c ∧ c ≤ 70
    · have H := Lib.hid (val_hex_up h)
      obtain ⟨h2, h3⟩ := h
      go_enter Tryz.func87, Tryz.ntmps87
      go_wp2_with fail
      refine (strings_indexByte _ _ _).mono ?_
      rintro e w' ⟨rfl, rfl⟩
      go_wp2
      go_ret
      exact ⟨ret_int H.out, rfl⟩
    · have H := Lib.hid (val_hex_low h0 h1 h)
      go_enter Tryz.func87, Tryz.ntmps87
      go_wp2_with fail
      all_goals (try (exfalso; omega))
      all_goals (
        refine (strings_indexByte _ _ _).mono ?_
        rintro e w' ⟨rfl, rfl⟩
        go_wp2
        go_ret
        exact ⟨ret_int H.out, rfl⟩)
theorem is_any (b : Int) (hb : b = 10 ∨ b = 16) (c : Int) (rb kb vb : Nat) (w : World) (h0 : 0 ≤ c) (h1 : c < 256) (hr : w.cell? ⟨rb, 1, none⟩ = some (.int .i64 b)) (hk : w.cell? ⟨kb, 0, none⟩ = some (.string ⟨(Dp.known b).toArray⟩))
    (hv : w.cell? ⟨vb, 0, none⟩ = some (.func (.func 87) #[] #[.pointer (some ⟨rb, 0, none⟩), .pointer (some ⟨kb, 0, none⟩)])) :
    Calls Tryz.prog 90 #[.int .u8 c, .pointer (some ⟨vb, 0, none⟩)] w fun e w' => e = .returned (.bool (decide (Dp.digV c < b))) ∧ w = w' := by
  have K := Lib.hid (val_any b hb c rb kb w h0 h1 hr hk)
  clear hr hk
  go_enter Tryz.func90, Tryz.ntmps90
  go_wp2_with fail
  refine K.out.mono ?_
  rintro e w' ⟨rfl, rfl⟩
  go_wp2
  go_ret
  refine ⟨?_, rfl⟩
  have := Dp.digV_lo c
  congr 2
  unfold Dp.valV
  simp
  split <;> omega
theorem digits_any (b : Int) (hb : b = 10 ∨ b = 16) (s : ByteArray) (rb kb vb : Nat) (w : World) (hs : s.size ≤ 1000000) (hr : w.cell? ⟨rb, 1, none⟩ = some (.int .i64 b)) (hk : w.cell? ⟨kb, 0, none⟩ = some (.string ⟨(Dp.known b).toArray⟩))
    (hv : w.cell? ⟨vb, 0, none⟩ = some (.func (.func 87) #[] #[.pointer (some ⟨rb, 0, none⟩), .pointer (some ⟨kb, 0, none⟩)])) :
    Calls Tryz.prog 89 #[.agg #[.string s], .func (.func 90) #[] #[.pointer (some ⟨vb, 0, none⟩)]] w fun e w' =>
      e = .returned (.bool (!s.data.toList.isEmpty && Dp.allD b s.data.toList)) ∧ w.alloc (.cells #[.string s] 110) = w' := by
  go_enter Tryz.func89, Tryz.ntmps89
  have K := Lib.hid (fun (c : Int) (W : World) (h0 : 0 ≤ c) (h1 : c < 256) (hW : Below w.heap.size w W) => is_any b hb c rb kb vb W h0 h1 (cell_below hW hr) (cell_below hW hk) (cell_below hW hv))
  clear hr hk hv
  go_wp2_with fail
  go_loop [5, 9] (fun _ i => ∃ k : Nat, k ≤ s.size ∧ i = .int .i64 k ∧ Dp.allD b (s.data.toList.take k) = true) (fun _ i => s.size - (intOf i).toNat)
  case atStart => exact ⟨0, Nat.zero_le _, rfl, rfl⟩
  case round =>
    obtain ⟨k, hk, rfl, hall⟩ := hrel
    have HA := Lib.hid hall
    clear hall
    by_cases hlt : k < s.size
    · have hb0 : 0 ≤ ((s[k]).toNat : Int) := by omega
      have hb1 : ((s[k]).toNat : Int) < 256 := by have := (s[k]).toNat_lt; omega
      go_wp2_with fail
      refine (K.out _ _ hb0 hb1 ((Below.refl _ _).alloc (Nat.le_refl _) _)).mono ?_
      rintro e w' ⟨rfl, rfl⟩
      have HT := Lib.hid (take_snoc s k hlt)
      generalize hd : decide (Dp.digV ((s[k]).toNat : Int) < b) = d
      have HD := Lib.hid hd
      clear hd
      cases d
      · go_wp2
        go_ret
        refine ⟨ret_bool ?_, rfl⟩
        have hn := Dp.allD_no (b := b) (l := s.data.toList) (k := k) (by simpa using hlt) (by exact HD.out)
        rw [hn]
        simp
      · go_wp2
        go_round
        case rel => exact ⟨k + 1, by omega, by go_num, by rw [HT.out]; unfold Dp.allD at *; rw [List.all_append, HA.out]; simpa using HD.out⟩
        case measure => simp [intOf]; omega
    · go_wp2
      go_ret
      refine ⟨ret_bool ?_, rfl⟩
      have h1 : s.data.toList.take k = s.data.toList := List.take_of_length_le (by simp; omega)
      have h2 := HA.out
      rw [h1] at h2
      rw [h2]
      simp [ByteArray.toList_eq]
end Go.Proofs.YtheaichiglfmjaaGreatDoor

/- One digit more, and a row of digits, as layer 1 (decimal) reads them, compute the plain functions of the texts Dp and Dq. Bases are ten or sixteen; at most 1000000 digits. -/
namespace Go.Proofs.YtheaichiglfmjaaGreatDoor
set_option linter.unusedVariables false
set_option linter.unusedSimpArgs false
open Go.RowKit
set_option maxHeartbeats 400000
def Env (w : World) (b : Int) (rb kb vb : Nat) : Prop :=
  w.cell? ⟨rb, 1, none⟩ = some (.int .i64 b) ∧ w.cell? ⟨kb, 0, none⟩ = some (.string ⟨(Dp.known b).toArray⟩) ∧
  w.cell? ⟨vb, 0, none⟩ = some (.func (.func 87) #[] #[.pointer (some ⟨rb, 0, none⟩), .pointer (some ⟨kb, 0, none⟩)])
theorem Env.below {w w' : World} {b : Int} {rb kb vb : Nat} (h : Env w b rb kb vb) (hb : Below w.heap.size w w') : Env w' b rb kb vb :=
  ⟨cell_below hb h.1, cell_below hb h.2.1, cell_below hb h.2.2⟩
/-- one digit more -/
def stepN (b n c : Int) : Int := if Dp.mulE n b = 0 then Dp.addN (Dp.mulN n b) (Dp.digV c) else 0
def stepE (b n c : Int) : Int := if Dp.mulE n b = 0 then Dp.addE (Dp.mulN n b) (Dp.digV c) else Dp.mulE n b
theorem step_any (b : Int) (hb : b = 10 ∨ b = 16) (n c : Int) (rb kb vb : Nat) (w : World) (hn : Dp.U n) (h0 : 0 ≤ c) (h1 : c < 256) (hd : Dp.digV c < b) (hE : Env w b rb kb vb) :
    Calls Tryz.prog 92 #[.int .u64 n, .int .u8 c, .pointer (some ⟨rb, 0, none⟩), .pointer (some ⟨vb, 0, none⟩)] w fun e w' => e = .returned (.tuple #[.int .u64 (stepN b n c), .int .i64 (stepE b n c)]) ∧ w = w' := by
  have hbU : Dp.U b := by unfold Dp.U; omega
  have hb0 : 0 ≤ b := by omega
  have hb1 : b < 18446744073709551616 := by omega
  have K := Lib.hid (val_any b hb c rb kb w h0 h1 hE.1 hE.2.1)
  have hr := hE.1
  have hv := hE.2.2
  have M := Lib.hid (dec_mul n b w hn hbU)
  have hS1 := Lib.hid (show stepN b n c = if Dp.mulE n b = 0 then Dp.addN (Dp.mulN n b) (Dp.digV c) else 0 from rfl)
  have hS2 := Lib.hid (show stepE b n c = if Dp.mulE n b = 0 then Dp.addE (Dp.mulN n b) (Dp.digV c) else Dp.mulE n b from rfl)
  have HV := Lib.hid (show Dp.valV b c = Dp.digV c from if_pos hd)
  have HW := Lib.hid (show IntKind.u64.wrap (Dp.digV c) = Dp.digV c from by have := Dp.digV_lo c; rw [IntKind.wrap_u64]; omega)
  have A := Lib.hid (dec_add (Dp.mulN n b) (Dp.digV c) w (Dp.mulN_U hn hbU) (Dp.digit_U c))
  clear hE hd hb hbU hn
  go_enter Tryz.func92, Tryz.ntmps92
  go_wp2_with fail
  refine M.out.mono ?_
  rintro e w' ⟨rfl, rfl⟩
  obtain ⟨m, hm⟩ : ∃ m, Dp.mulE n b = m := ⟨_, rfl⟩
  rw [hm]
  have Hm := Lib.hid hm
  clear hm
  by_cases hm0 : m = 0
  · subst hm0
    go_wp2_with fail
    refine K.out.mono ?_
    rintro e w' ⟨rfl, rfl⟩
    rw [HV.out]
    go_wp2_with fail
    rw [HW.out]
    refine A.out.mono ?_
    rintro e w' ⟨rfl, rfl⟩
    go_wp2
    go_ret2
    exact ⟨ret_pair (by rw [hS1.out, Hm.out, if_pos rfl]) (by rw [hS2.out, Hm.out, if_pos rfl]), rfl⟩
  · have hm1 : (m != 0) = true := bne_iff_ne.2 hm0
    have Hm0 := Lib.hid hm0
    clear hm0
    go_wp2
    go_ret2
    exact ⟨ret_pair (by rw [hS1.out, Hm.out, if_neg Hm0.out]) (by rw [hS2.out, Hm.out, if_neg Hm0.out]), rfl⟩
theorem stepN_rd {b n : Int} {c : UInt8} {l : List UInt8} : stepE b n c.toNat = 0 → Dp.rd b (c :: l) n = Dp.rd b l (stepN b n c.toNat) := by
  unfold stepE stepN
  intro h
  by_cases h1 : Dp.mulE n b = 0
  · rw [if_pos h1] at h ⊢
    simp [Dp.rd, h1, h]
  · rw [if_neg h1] at h; exact absurd h h1
theorem stepE_rd {b n : Int} {c : UInt8} {l : List UInt8} : stepE b n c.toNat ≠ 0 → Dp.rd b (c :: l) n = (0, 111) ∧ stepE b n c.toNat = 111 := by
  unfold stepE
  intro h
  by_cases h1 : Dp.mulE n b = 0
  · rw [if_pos h1] at h ⊢
    refine ⟨by simp [Dp.rd, h1, h], ?_⟩
    unfold Dp.addE at h ⊢
    split at h
    · exact absurd rfl h
    · rw [if_neg (by assumption)]
  · rw [if_neg h1] at h ⊢
    refine ⟨by simp [Dp.rd, h1], ?_⟩
    unfold Dp.mulE at h1 ⊢
    split at h1
    · exact absurd rfl h1
    · rw [if_neg (by assumption)]
theorem stepN_U {b n c : Int} (hb : b = 10 ∨ b = 16) (hn : Dp.U n) : Dp.U (stepN b n c) := by
  unfold stepN
  split
  · exact Dp.addN_U (Dp.mulN_U hn (by unfold Dp.U; omega)) (Dp.digit_U c)
  · unfold Dp.U; omega
theorem folded_any (b : Int) (hb : b = 10 ∨ b = 16) (l : List UInt8) (B cap rb kb vb : Nat) (w : World) (hl : l.length ≤ 1000000) (hall : Dp.allD b l = true) (hE : Env w b rb kb vb) (hB : Bytes w B 0 l) :
    Calls Tryz.prog 91 #[.func (.func 92) #[] #[.pointer (some ⟨rb, 0, none⟩), .pointer (some ⟨vb, 0, none⟩)], .slice (some ⟨B, 0, none⟩) l.length cap] w fun e w' =>
      e = .returned (.tuple #[.int .u64 (Dp.rd b l 0).1, .int .i64 (Dp.rd b l 0).2]) ∧ w = w' := by
  have K := Lib.hid (fun (n c : Int) (hn : Dp.U n) (h0 : 0 ≤ c) (h1 : c < 256) (hd : Dp.digV c < b) => step_any b hb n c rb kb vb w hn h0 h1 hd hE)
  have HU := Lib.hid (fun (n c : Int) (hn : Dp.U n) => stepN_U (c := c) hb hn)
  have HA := Lib.hid hall
  have HB := Lib.hid hB
  clear hE hall hb hB
  go_enter Tryz.func91, Tryz.ntmps91
  go_wp2_with fail
  go_loop [4, 5, 7, 10] (fun n _ _ i => ∃ (k : Nat) (m : Int), k ≤ l.length ∧ i = .int .i64 k ∧ n = .int .u64 m ∧ Dp.U m ∧ Dp.rd b l 0 = Dp.rd b (l.drop k) m) (fun _ _ _ i => l.length - (intOf i).toNat)
  case atStart => exact ⟨0, 0, Nat.zero_le _, rfl, rfl, by unfold Dp.U; omega, rfl⟩
  case round =>
    obtain ⟨k, m, hk, rfl, rfl, hm, hrd⟩ := hrel
    have HR := Lib.hid hrd
    have HM := Lib.hid hm
    clear hrd hm
    by_cases hlt : k < l.length
    · have hc := HB.out k hlt
      rw [Nat.zero_add] at hc
      have hdr : l.drop k = l.getD k 0 :: l.drop (k + 1) := by rw [List.drop_eq_getElem_cons hlt]; simp [List.getD_eq_getElem?_getD, List.getElem?_eq_getElem hlt]
      have HD := Lib.hid hdr
      clear hdr
      have hx := (l.getD k 0).toNat_lt
      have hdig : Dp.digV ((l.getD k 0).toNat : Int) < b := by
        have := HA.out
        unfold Dp.allD at this
        rw [List.all_eq_true] at this
        have h2 := this (l.getD k 0) (by simp [List.getD_eq_getElem?_getD, List.getElem?_eq_getElem hlt])
        simpa using h2
      have HG := Lib.hid hdig
      clear hdig
      have S1 := Lib.hid (@stepN_rd b m (l.getD k 0) (l.drop (k + 1)))
      have S2 := Lib.hid (@stepE_rd b m (l.getD k 0) (l.drop (k + 1)))
      have S3 := Lib.hid (HU.out m ((l.getD k 0).toNat : Int) HM.out)
      generalize l.getD k 0 = c at *
      go_wp2_with fail
      refine (K.out m (c.toNat : Int) HM.out (by omega) (by omega) HG.out).mono ?_
      rintro e w' ⟨rfl, rfl⟩
      obtain ⟨sn, hN⟩ : ∃ sn, stepN b m (c.toNat : Int) = sn := ⟨_, rfl⟩
      obtain ⟨se, hEr⟩ : ∃ se, stepE b m (c.toNat : Int) = se := ⟨_, rfl⟩
      rw [hN, hEr]
      have HN := Lib.hid hN
      have HEr := Lib.hid hEr
      clear hN hEr
      by_cases hz : se = 0
      · subst hz
        go_wp2
        go_round
        case rel => exact ⟨k + 1, sn, by omega, by go_num, rfl, by rw [← HN.out]; exact S3.out, by rw [HR.out, HD.out, S1.out HEr.out, HN.out]⟩
        case measure => simp [intOf]; omega
      · have hz1 : (se != 0) = true := bne_iff_ne.2 hz
        have HZ := Lib.hid hz
        clear hz
        go_wp2
        go_ret2
        refine ⟨ret_pair ?_ ?_, rfl⟩
        · rw [HR.out, HD.out, (S2.out (by rw [HEr.out]; exact HZ.out)).1]
        · rw [HR.out, HD.out, (S2.out (by rw [HEr.out]; exact HZ.out)).1, ← HEr.out]; exact (S2.out (by rw [HEr.out]; exact HZ.out)).2
    · go_wp2
      go_ret2
      have h1 : l.drop k = [] := List.drop_eq_nil_of_le (by omega)
      refine ⟨ret_pair ?_ ?_, rfl⟩
      · rw [HR.out, h1]; rfl
      · rw [HR.out, h1]; rfl
theorem folded_at (b : Int) (hb : b = 10 ∨ b = 16) (l : List UInt8) (n B cap rb kb vb : Nat) (w : World) (hn : n = l.length) (hl : l.length ≤ 1000000) (hall : Dp.allD b l = true) (hE : Env w b rb kb vb) (hB : Bytes w B 0 l) :
    Calls Tryz.prog 91 #[.func (.func 92) #[] #[.pointer (some ⟨rb, 0, none⟩), .pointer (some ⟨vb, 0, none⟩)], .slice (some ⟨B, 0, none⟩) n cap] w fun e w' =>
      e = .returned (.tuple #[.int .u64 (Dp.rd b l 0).1, .int .i64 (Dp.rd b l 0).2]) ∧ w = w' := by
  subst hn
  exact folded_any b hb l B cap rb kb vb w hl hall hE hB
end Go.Proofs.YtheaichiglfmjaaGreatDoor

/- A text of digits, read to the base of ten or sixteen as layer 1 (decimal) does, is the number that the text Dq defines. Texts have at most 1000000 bytes. -/
namespace Go.Proofs.YtheaichiglfmjaaGreatDoor
set_option linter.unusedVariables false
set_option linter.unusedSimpArgs false
open Go.RowKit
set_option maxHeartbeats 1000000
set_option maxRecDepth 100000 in
theorem num_bad {b : Int} {l : List UInt8} (h : (!l.isEmpty && Dp.allD b l) = false) : Dp.numN b l = 0 ∧ Dp.numE b l = 110 := by
  have : l = [] ∨ Dp.allD b l = false := by
    rw [Bool.and_eq_false_iff] at h
    rcases h with h | h
    · exact .inl (by simpa using h)
    · exact .inr h
  exact ⟨if_pos this, if_pos this⟩
theorem num_good {b : Int} {l : List UInt8} (h : (!l.isEmpty && Dp.allD b l) = true) : Dp.numN b l = (Dp.rd b l 0).1 ∧ Dp.numE b l = (Dp.rd b l 0).2 ∧ Dp.allD b l = true := by
  rw [Bool.and_eq_true] at h
  have : ¬ (l = [] ∨ Dp.allD b l = false) := by
    rintro (h' | h')
    · subst h'; simp at h
    · rw [h'] at h; simp at h
  exact ⟨if_neg this, if_neg this, h.2⟩
set_option maxRecDepth 100000 in
theorem number_any (b : Int) (hb : b = 10 ∨ b = 16) (s : ByteArray) (w : World) (hs : s.size ≤ 1000000) :
    Calls Tryz.prog 67 #[.agg #[.string s, .int .i64 b]] w fun e w' =>
      e = .returned (.tuple #[.int .u64 (Dp.numN b s.data.toList), .int .i64 (Dp.numE b s.data.toList)]) ∧ Below w.heap.size w w' := by
  rcases hb with rfl | rfl
  · go_enter Tryz.func67, Tryz.ntmps67
    have hcv := fun (W : World) (s : ByteArray) => Lib.run_convert_string_bytes (P := Tryz.prog) W 9 90 5 s Tryz.underlying9 Tryz.underlying90 Tryz.underlying5
    go_wp2_with fail
    refine wp_scope_fwd 0 rfl ?_
    go_wp2_with fail
    refine (digits_any 10 (.inl rfl) s w.heap.size (w.heap.size + 1) (w.heap.size + 2) _ hs ?_ ?_ ?_).mono ?_
    · go_simp
    · go_simp
      rfl
    · go_simp
    rintro e w' ⟨rfl, rfl⟩
    obtain ⟨d, hd⟩ : ∃ d, (!s.data.toList.isEmpty && Dp.allD 10 s.data.toList) = d := ⟨_, rfl⟩
    rw [hd]
    have HD := Lib.hid hd
    clear hd
    cases d
    · go_wp2_with fail
      go_step3
      simp only [Exit.then]
      refine onGoto_goto ?_
      go_wp2
      rw [Exit.noGoto_ret]
      go_ret2
      obtain ⟨h1, h2⟩ := num_bad HD.out
      refine ⟨ret_pair h1.symm h2.symm, ?_⟩
      exact ((((Below.refl _ _).alloc (Nat.le_refl _) _).alloc (by simp) _).alloc (by simp; omega) _).alloc (by simp; omega) _
    · go_wp2_with fail
      obtain ⟨h1, h2, h3⟩ := num_good HD.out
      have H1 := Lib.hid h1
      have H2 := Lib.hid h2
      clear h1 h2
      refine (folded_at 10 (.inl rfl) s.data.toList _ _ _ w.heap.size (w.heap.size + 1) (w.heap.size + 2) _ rfl (by simpa using hs) h3 ?_ ?_).mono ?_
      · refine ⟨?_, ?_, ?_⟩
        · rw [Lib.bytesWorld_old _ _ _ _ (by simp <;> omega)]
          go_simp
        · rw [Lib.bytesWorld_old _ _ _ _ (by simp <;> omega)]
          go_simp
          rfl
        · rw [Lib.bytesWorld_old _ _ _ _ (by simp <;> omega)]
          go_simp
      · exact bytes_bytesWorld_at _ _ s _ (by simp)
      rintro e w' ⟨rfl, rfl⟩
      have R := Lib.hid (Dp.rd_err 10 s.data.toList 0)
      obtain ⟨r1, hr1⟩ : ∃ r, (Dp.rd 10 s.data.toList 0).1 = r := ⟨_, rfl⟩
      obtain ⟨r2, hr2⟩ : ∃ r, (Dp.rd 10 s.data.toList 0).2 = r := ⟨_, rfl⟩
      rw [hr1, hr2]
      have HR1 := Lib.hid hr1
      have HR2 := Lib.hid hr2
      clear hr1 hr2 h3 hcv
      by_cases hz : r2 = 0
      · subst hz
        go_wp2
        rw [onGoto_ret]
        go_ret2
        refine ⟨ret_pair (by rw [H1.out, HR1.out]) (by rw [H2.out, HR2.out]), ?_⟩
        exact (((((Below.refl _ _).alloc (Nat.le_refl _) _).alloc (by simp) _).alloc (by simp; omega) _).alloc (by simp; omega) _).trans (below_bytesWorld _ _ _ _ (by simp; omega))
      · have hz1 : (r2 != 0) = true := bne_iff_ne.2 hz
        have HZ := Lib.hid hz
        clear hz
        go_wp2_with fail
        go_step3
        simp only [Exit.then]
        refine onGoto_goto ?_
        go_wp2
        rw [Exit.noGoto_ret]
        go_ret2
        refine ⟨ret_pair ?_ (by rw [H2.out, HR2.out]), ?_⟩
        · rw [H1.out]
          rcases R.out with h | h
          · exact absurd (HR2.out.symm.trans h) HZ.out
          · exact h.1.symm
        exact (((((Below.refl _ _).alloc (Nat.le_refl _) _).alloc (by simp) _).alloc (by simp; omega) _).alloc (by simp; omega) _).trans (below_bytesWorld _ _ _ _ (by simp; omega))
  · go_enter Tryz.func67, Tryz.ntmps67
    have hcv := fun (W : World) (s : ByteArray) => Lib.run_convert_string_bytes (P := Tryz.prog) W 9 90 5 s Tryz.underlying9 Tryz.underlying90 Tryz.underlying5
    go_wp2_with fail
    refine wp_scope_fwd 0 rfl ?_
    go_wp2_with fail
    refine (digits_any 16 (.inr rfl) s w.heap.size (w.heap.size + 1) (w.heap.size + 2) _ hs ?_ ?_ ?_).mono ?_
    · go_simp
    · go_simp
      rfl
    · go_simp
    rintro e w' ⟨rfl, rfl⟩
    obtain ⟨d, hd⟩ : ∃ d, (!s.data.toList.isEmpty && Dp.allD 16 s.data.toList) = d := ⟨_, rfl⟩
    rw [hd]
    have HD := Lib.hid hd
    clear hd
    cases d
    · go_wp2_with fail
      go_step3
      simp only [Exit.then]
      refine onGoto_goto ?_
      go_wp2
      rw [Exit.noGoto_ret]
      go_ret2
      obtain ⟨h1, h2⟩ := num_bad HD.out
      refine ⟨ret_pair h1.symm h2.symm, ?_⟩
      exact ((((Below.refl _ _).alloc (Nat.le_refl _) _).alloc (by simp) _).alloc (by simp; omega) _).alloc (by simp; omega) _
    · go_wp2_with fail
      obtain ⟨h1, h2, h3⟩ := num_good HD.out
      have H1 := Lib.hid h1
      have H2 := Lib.hid h2
      clear h1 h2
      refine (folded_at 16 (.inr rfl) s.data.toList _ _ _ w.heap.size (w.heap.size + 1) (w.heap.size + 2) _ rfl (by simpa using hs) h3 ?_ ?_).mono ?_
      · refine ⟨?_, ?_, ?_⟩
        · rw [Lib.bytesWorld_old _ _ _ _ (by simp <;> omega)]
          go_simp
        · rw [Lib.bytesWorld_old _ _ _ _ (by simp <;> omega)]
          go_simp
          rfl
        · rw [Lib.bytesWorld_old _ _ _ _ (by simp <;> omega)]
          go_simp
      · exact bytes_bytesWorld_at _ _ s _ (by simp)
      rintro e w' ⟨rfl, rfl⟩
      have R := Lib.hid (Dp.rd_err 16 s.data.toList 0)
      obtain ⟨r1, hr1⟩ : ∃ r, (Dp.rd 16 s.data.toList 0).1 = r := ⟨_, rfl⟩
      obtain ⟨r2, hr2⟩ : ∃ r, (Dp.rd 16 s.data.toList 0).2 = r := ⟨_, rfl⟩
      rw [hr1, hr2]
      have HR1 := Lib.hid hr1
      have HR2 := Lib.hid hr2
      clear hr1 hr2 h3 hcv
      by_cases hz : r2 = 0
      · subst hz
        go_wp2
        rw [onGoto_ret]
        go_ret2
        refine ⟨ret_pair (by rw [H1.out, HR1.out]) (by rw [H2.out, HR2.out]), ?_⟩
        exact (((((Below.refl _ _).alloc (Nat.le_refl _) _).alloc (by simp) _).alloc (by simp; omega) _).alloc (by simp; omega) _).trans (below_bytesWorld _ _ _ _ (by simp; omega))
      · have hz1 : (r2 != 0) = true := bne_iff_ne.2 hz
        have HZ := Lib.hid hz
        clear hz
        go_wp2_with fail
        go_step3
        simp only [Exit.then]
        refine onGoto_goto ?_
        go_wp2
        rw [Exit.noGoto_ret]
        go_ret2
        refine ⟨ret_pair ?_ (by rw [H2.out, HR2.out]), ?_⟩
        · rw [H1.out]
          rcases R.out with h | h
          · exact absurd (HR2.out.symm.trans h) HZ.out
          · exact h.1.symm
        exact (((((Below.refl _ _).alloc (Nat.le_refl _) _).alloc (by simp) _).alloc (by simp; omega) _).alloc (by simp; omega) _).trans (below_bytesWorld _ _ _ _ (by simp; omega))
end Go.Proofs.YtheaichiglfmjaaGreatDoor

/- What layer 1 (decimal) and its reference tell of a text's number is what the text Dq defines. Texts have at most 1000000 bytes. -/
namespace Go.Proofs.YtheaichiglfmjaaGreatDoor
set_option linter.unusedVariables false
set_option linter.unusedSimpArgs false
open Go.RowKit
set_option maxHeartbeats 1000000
theorem bases_0 (w : World) : (Instr.index 93 (.agg #[.int .i64 10, .int .i64 16]) (.int .i64 0)).run Tryz.prog w = .ok (.int .i64 10) w := by kernel_rfl
theorem bases_1 (w : World) : (Instr.index 93 (.agg #[.int .i64 10, .int .i64 16]) (.int .i64 1)).run Tryz.prog w = .ok (.int .i64 16) w := by kernel_rfl
theorem dec_bases (w : World) :
    Calls Tryz.prog 53 #[] w fun e w' => e = .returned (.agg #[.int .i64 10, .int .i64 16]) ∧ Below w.heap.size w w' := by
  go_enter Tryz.func53, Tryz.ntmps53
  go_wp2
  refine bodyPost_ret (v := .agg #[.int .i64 10, .int .i64 16]) (by simp [results, Tryz.results53, go_sem]) rfl ⟨rfl, (Below.refl _ _).alloc (Nat.le_refl _) _⟩
set_option maxRecDepth 100000 in
theorem dec_digits (s : ByteArray) (w : World) (hs : s.size ≤ 1000000) :
    Calls Tryz.prog 42 #[.string s] w fun e w' => e = .returned (.tuple #[.int .u64 (Dp.numN 10 s.data.toList), .int .i64 (Dp.numE 10 s.data.toList)]) ∧ Below w.heap.size w w' := by
  have i0 := bases_0
  go_enter Tryz.func42, Tryz.ntmps42
  go_wp2_with fail
  refine (dec_bases _).mono ?_
  rintro e w1 ⟨rfl, hb⟩
  go_wp2_with fail
  refine (number_any 10 (.inl rfl) s _ hs).mono ?_
  clear hs
  rintro e w2 ⟨rfl, hb2⟩
  go_wp2
  go_ret2
  exact ⟨rfl, hb.trans (hb2.mono hb.size)⟩
theorem par_yes {l : List UInt8} (h : 1 < l.length) (h0 : l.getD 0 0 = 48) : Dp.parN l = 0 ∧ Dp.parE l = 110 := by
  have : 1 < l.length ∧ l.head? = some 48 := ⟨h, by cases l with
    | nil => simp at h
    | cons a l => simpa using h0⟩
  exact ⟨if_pos this, if_pos this⟩
theorem par_no {l : List UInt8} (h : 1 < l.length → l.getD 0 0 ≠ 48) : Dp.parN l = Dp.numN 10 l ∧ Dp.parE l = Dp.numE 10 l := by
  have : ¬ (1 < l.length ∧ l.head? = some 48) := by
    rintro ⟨h1, h2⟩
    refine h h1 ?_
    cases l with
    | nil => simp at h1
    | cons a l => simpa using h2
  exact ⟨if_neg this, if_neg this⟩
theorem head_is {s : ByteArray} (h : 0 < s.size) (h0 : (((s[0]'h).toNat : Int) == 48) = true) : s.data.toList.getD 0 0 = 48 := by
  have e : s.data.toList.getD 0 0 = s[0]'h := by
    rw [List.getD_eq_getElem?_getD, List.getElem?_eq_getElem (by simpa using h)]; rfl
  rw [e]
  have := beq_iff_eq.1 h0
  exact UInt8.toNat_inj.1 (by simpa using (by omega : (s[0]'h).toNat = 48))
theorem head_isnt {s : ByteArray} (h : 0 < s.size) (h0 : (((s[0]'h).toNat : Int) == 48) = false) : s.data.toList.getD 0 0 ≠ 48 := by
  have e : s.data.toList.getD 0 0 = s[0]'h := by
    rw [List.getD_eq_getElem?_getD, List.getElem?_eq_getElem (by simpa using h)]; rfl
  rw [e]
  intro hc
  rw [hc] at h0
  simp at h0
theorem ref_digit (c : Int) (w : World) (h0 : 0 ≤ c) (h1 : c < 256) :
    Calls Tryz.prog 74 #[.int .u8 c] w fun e w' => e = .returned (.int .u64 (Dp.digV c)) ∧ w = w' := by
  go_enter Tryz.func74, Tryz.ntmps74
  go_wp2
  all_goals go_ret
  all_goals refine ⟨ret_int ?_, rfl⟩
  all_goals (unfold Dp.digV; (try simp only [IntKind.wrap_u8, IntKind.wrap_u64]); repeat' split)
  all_goals omega
theorem num_is {b : Int} {l : List UInt8} (h0 : l ≠ []) (ha : Dp.allD b l = true) : Dp.numN b l = (Dp.rd b l 0).1 ∧ Dp.numE b l = (Dp.rd b l 0).2 := by
  have : ¬ (l = [] ∨ Dp.allD b l = false) := by
    rintro (h' | h')
    · exact h0 h'
    · rw [h'] at ha; exact absurd ha (by decide)
  exact ⟨if_neg this, if_neg this⟩
theorem num_111 {b : Int} {l : List UInt8} (h0 : l ≠ []) (ha : Dp.allD b l = true) (h : Dp.rd b l 0 = (0, 111)) :
    Ending.returned (.tuple #[.int .u64 0, .int .i64 111]) = Ending.returned (.tuple #[.int .u64 (Dp.numN b l), .int .i64 (Dp.numE b l)]) := by
  obtain ⟨h1, h2⟩ := num_is h0 ha
  rw [h1, h2, h]
theorem ref_read (b : Int) (hb : b = 10 ∨ b = 16) (s : ByteArray) (w : World) (hs : s.size ≤ 1000000) :
    Calls Tryz.prog 49 #[.string s, .int .u64 b] w fun e w' => e = .returned (.tuple #[.int .u64 (Dp.numN b s.data.toList), .int .i64 (Dp.numE b s.data.toList)]) ∧ w = w' := by
  have hs' : s.size ≤ 9223372036854775807 := by omega
  clear hs
  go_enter Tryz.func49, Tryz.ntmps49
  by_cases h0 : s.size = 0
  · have e : s.data.toList = [] := List.length_eq_zero_iff.1 (by simpa using h0)
    have H1 := Lib.hid (show Dp.numN b s.data.toList = 0 from if_pos (.inl e))
    have H2 := Lib.hid (show Dp.numE b s.data.toList = 110 from if_pos (.inl e))
    have h1 : (((s.size : Nat) : Int) == 0) = true := beq_iff_eq.2 (congrArg Int.ofNat h0)
    clear e h0
    go_wp2
    go_ret2
    exact ⟨ret_pair H1.out.symm H2.out.symm, rfl⟩
  · have h1 : (((s.size : Nat) : Int) == 0) = false := beq_eq_false_iff_ne.2 (fun h => h0 (Int.ofNat.inj h))
    have HNE := Lib.hid (show s.data.toList ≠ [] from fun h => h0 (by have := congrArg List.length h; simpa using this))
    clear h0
    go_wp2_with fail
    go_loop [6] (fun i => ∃ k : Nat, k ≤ s.size ∧ i = .int .i64 k ∧ Dp.allD b (s.data.toList.take k) = true) (fun i => s.size - (intOf i).toNat)
    case atStart => exact ⟨0, Nat.zero_le _, rfl, rfl⟩
    case round =>
      obtain ⟨k, hk, rfl, hall⟩ := hrel
      have HA := Lib.hid hall
      clear hall
      by_cases hlt : k < s.size
      · have hb0 : 0 ≤ ((s[k]).toNat : Int) := by omega
        have hb1 : ((s[k]).toNat : Int) < 256 := by have := (s[k]).toNat_lt; omega
        have D := Lib.hid (ref_digit ((s[k]).toNat : Int) w hb0 hb1)
        go_wp2_with fail
        refine D.out.mono ?_
        rintro e w' ⟨rfl, rfl⟩
        have HT := Lib.hid (take_snoc s k hlt)
        obtain ⟨v, hv⟩ : ∃ v, Dp.digV ((s[k]).toNat : Int) = v := ⟨_, rfl⟩
        rw [hv]
        have HV := Lib.hid hv
        clear hv hb0 hb1
        by_cases hd : v < b
        · go_wp2
          go_round
          case rel => exact ⟨k + 1, by omega, by go_num, by rw [HT.out]; unfold Dp.allD at *; rw [List.all_append, HA.out]; simpa [HV.out] using hd⟩
          case measure => simp [intOf]; omega
        · go_wp2
          go_ret2
          have hn := Dp.allD_no (b := b) (l := s.data.toList) (k := k) (by simpa using hlt) (by refine decide_eq_false ?_; show ¬ Dp.digV ((s[k]).toNat : Int) < b; rw [HV.out]; omega)
          exact ⟨ret_pair (if_pos (.inr hn)).symm (if_pos (.inr hn)).symm, rfl⟩
      · have h1 : s.data.toList.take k = s.data.toList := List.take_of_length_le (by simp; omega)
        have h2 := HA.out
        rw [h1] at h2
        have HAA := Lib.hid h2
        clear h2 h1
        go_wp2_with fail
        have K1 := Lib.hid (fun (n c : Int) (hn : Dp.U n) => stepN_U (c := c) hb hn)
        have hbU : Dp.U b := by unfold Dp.U; omega
        have K2 := Lib.hid (fun (n : Int) (hn : Dp.U n) => ref_mul n b w hn hbU)
        have K3 := Lib.hid (fun (n c : Int) (hn : Dp.U n) => ref_add (Dp.mulN n b) (Dp.digV c) w (Dp.mulN_U hn hbU) (Dp.digit_U c))
        clear hbU hb
        go_loop [7, 8, 9, 10] (fun n i _ _ => ∃ (k : Nat) (m : Int), k ≤ s.size ∧ i = .int .i64 k ∧ n = .int .u64 m ∧ Dp.U m ∧ Dp.rd b s.data.toList 0 = Dp.rd b (s.data.toList.drop k) m) (fun _ i _ _ => s.size - (intOf i).toNat)
        case atStart => exact ⟨0, 0, Nat.zero_le _, rfl, rfl, by unfold Dp.U; omega, rfl⟩
        case round =>
          obtain ⟨k, m, hk, rfl, rfl, hm, hrd⟩ := hrel
          have HR := Lib.hid hrd
          have HM := Lib.hid hm
          clear hrd hm
          by_cases hlt : k < s.size
          · have hdr : s.data.toList.drop k = s[k] :: s.data.toList.drop (k + 1) := by rw [List.drop_eq_getElem_cons (by simpa using hlt)]; rfl
            have HD := Lib.hid hdr
            clear hdr
            have S1 := Lib.hid (@stepN_rd b m s[k] (s.data.toList.drop (k + 1)))
            have S2 := Lib.hid (@stepE_rd b m s[k] (s.data.toList.drop (k + 1)))
            have S3 := Lib.hid (K1.out m ((s[k]).toNat : Int) HM.out)
            have D := Lib.hid (ref_digit ((s[k]).toNat : Int) w (by omega) (by have := (s[k]).toNat_lt; omega))
            have A := Lib.hid (K3.out m ((s[k]).toNat : Int) HM.out)
            have HN := Lib.hid (show stepN b m ((s[k]).toNat : Int) = if Dp.mulE m b = 0 then Dp.addN (Dp.mulN m b) (Dp.digV (s[k]).toNat) else 0 from rfl)
            have HE := Lib.hid (show stepE b m ((s[k]).toNat : Int) = if Dp.mulE m b = 0 then Dp.addE (Dp.mulN m b) (Dp.digV (s[k]).toNat) else Dp.mulE m b from rfl)
            go_wp2_with fail
            refine (K2.out m HM.out).mono ?_
            rintro e w' ⟨rfl, rfl⟩
            obtain ⟨z, hz⟩ : ∃ z, Dp.mulE m b = z := ⟨_, rfl⟩
            rw [hz]
            have HZ := Lib.hid hz
            clear hz
            by_cases h0 : z = 0
            · subst h0
              go_wp2_with fail
              refine D.out.mono ?_
              rintro e w' ⟨rfl, rfl⟩
              go_wp2_with fail
              refine A.out.mono ?_
              rintro e w' ⟨rfl, rfl⟩
              have HN1 := Lib.hid (HN.out.trans (if_pos HZ.out))
              have HE1 := Lib.hid (HE.out.trans (if_pos HZ.out))
              obtain ⟨y, hy⟩ : ∃ y, Dp.addE (Dp.mulN m b) (Dp.digV ((s[k]).toNat : Int)) = y := ⟨_, rfl⟩
              obtain ⟨x, hx⟩ : ∃ x, Dp.addN (Dp.mulN m b) (Dp.digV ((s[k]).toNat : Int)) = x := ⟨_, rfl⟩
              rw [hy, hx]
              have HY := Lib.hid hy
              have HX := Lib.hid hx
              clear hy hx
              by_cases hy0 : y = 0
              · subst hy0
                go_wp2
                go_round
                case rel => exact ⟨k + 1, x, by omega, by go_num, rfl, by rw [← HX.out, ← HN1.out]; exact S3.out, by rw [HR.out, HD.out, S1.out (HE1.out.trans HY.out), HN1.out, HX.out]⟩
                case measure => simp [intOf]; omega
              · have hy1 : (y != 0) = true := bne_iff_ne.2 hy0
                have HY0 := Lib.hid hy0
                clear hy0
                go_wp2
                go_ret2
                obtain ⟨r1, _⟩ := S2.out (by rw [HE1.out, HY.out]; exact HY0.out)
                exact ⟨num_111 HNE.out HAA.out (HR.out.trans ((congrArg (fun l => Dp.rd b l m) HD.out).trans r1)), rfl⟩
            · have hz1 : (z != 0) = true := bne_iff_ne.2 h0
              have hz2 : (z == 0) = false := beq_eq_false_iff_ne.2 h0
              have HY0 := Lib.hid h0
              clear h0
              go_wp2
              go_ret2
              obtain ⟨r1, _⟩ := S2.out (by rw [HE.out, if_neg (by rw [HZ.out]; exact HY0.out), HZ.out]; exact HY0.out)
              exact ⟨num_111 HNE.out HAA.out (HR.out.trans ((congrArg (fun l => Dp.rd b l m) HD.out).trans r1)), rfl⟩
          · go_wp2
            go_ret2
            have h1 : s.data.toList.drop k = [] := List.drop_eq_nil_of_le (by simp; omega)
            have h2 : Dp.rd b s.data.toList 0 = (m, 0) := by rw [HR.out, h1]; rfl
            obtain ⟨h3, h4⟩ := num_is HNE.out HAA.out
            exact ⟨ret_pair (by rw [h3, h2]) (by rw [h4, h2]), rfl⟩
theorem ref_digits (s : ByteArray) (w : World) (hs : s.size ≤ 1000000) :
    Calls Tryz.prog 26 #[.string s] w fun e w' => e = .returned (.tuple #[.int .u64 (Dp.numN 10 s.data.toList), .int .i64 (Dp.numE 10 s.data.toList)]) ∧ w = w' := by
  have K := Lib.hid (ref_read 10 (.inl rfl) s w hs)
  clear hs
  go_enter Tryz.func26, Tryz.ntmps26
  go_wp2_with fail
  refine K.out.mono ?_
  rintro e w' ⟨rfl, rfl⟩
  go_wp2
  go_ret2
  exact ⟨rfl, rfl⟩
theorem num_err {b : Int} {l : List UInt8} : Dp.numE b l = 110 → Dp.numN b l = 0 := by
  intro h
  by_cases hc : l = [] ∨ Dp.allD b l = false
  · exact if_pos hc
  · unfold Dp.numE at h
    rw [if_neg hc] at h
    rcases Dp.rd_err b l 0 with h' | h'
    · rw [h'] at h; exact absurd h (by decide)
    · rw [h'.2] at h; exact absurd h (by decide)
end Go.Proofs.YtheaichiglfmjaaGreatDoor

/- A number's digits to the base of sixteen, as the library writes them, are those of the text Dh. Numbers have 64 bits; the library's table for trailing noughts reads as it is laid. -/
namespace Go.Proofs.YtheaichiglfmjaaGreatDoor
set_option linter.unusedVariables false
set_option linter.unusedSimpArgs false
open Go.RowKit
set_option maxHeartbeats 1000000
theorem tz16_key : IntKind.u64.wrap (bits BinOp.and IntKind.u64 16 (IntKind.u64.wrap (-16)) * 285870213051353865) / 288230376151711744 = 15 := by decide +kernel
theorem tz16 (w : World) (hc : w.cell? ⟨3, 15, none⟩ = some (.int .u8 4)) :
    Calls Tryz.prog 125 #[.int .u64 16] w fun e w' => e = .returned (.int .i64 4) ∧ w = w' := by
  go_enter Tryz.func125, Tryz.ntmps125
  go_wp2_with (first | simp only [tz16_key] | go_in)
  go_ret
  exact ⟨rfl, rfl⟩
theorem pow16_key : (bits BinOp.and IntKind.i64 16 15 == 0) = true := by decide +kernel
theorem pow16 (w : World)  :
    Calls Tryz.prog 124 #[.int .i64 16] w fun e w' => e = .returned (.bool true) ∧ w = w' := by
  go_enter Tryz.func124, Tryz.ntmps124
  go_wp2
  go_ret
  exact ⟨ret_bool pow16_key, rfl⟩
theorem hex_u64 {v len : Nat} (h : v * 16 ^ len < 16 ^ 16) : v < 18446744073709551616 := by
  have : v ≤ v * 16 ^ len := Nat.le_mul_of_pos_right _ (Nat.pow_pos (by omega))
  have : (16 : Nat) ^ 16 = 18446744073709551616 := by decide
  omega
theorem len65 : Tryz.prog.arrayLen 164 = 65 := by kernel_rfl
theorem slice65 (W : World) (b k : Nat) (hk : k < 65) : (Instr.sliceAt 164 (.pointer (some ⟨b, 0, none⟩)) (some (.int .i64 (k : Int))) none none).run Tryz.prog W = .ok (.slice (some ⟨b, k, none⟩) (65 - k) (65 - k)) W := by
  rw [run_sliceAt_array_l W 164 ⟨b, 0, none⟩ (by simp [Program.arrayLen, Program.elem, Tryz.underlying164]) .i64 (k : Int) (by omega) (by rw [len65]; omega)]
  rw [len65]
  have h1 : ¬ (65 = k) := by omega
  have h2 : Tryz.prog.elem 164 = 5 := by kernel_rfl
  simp [go_sem, h1, h2]
theorem and15 (v r : Nat) (h : v < 18446744073709551616) (hr : v % 16 = r) : bits BinOp.and IntKind.u64 (v : Int) 15 = (r : Int) := by
  rw [show (15 : Int) = ((15 : Nat) : Int) from rfl, bits_and_u64_nat v 15 h (by omega), ← hr]
  congr 1
  exact Nat.and_two_pow_sub_one_eq_mod v 4
theorem dig36 (r : Nat) (h : r < 16) : (({ data := #[48, 49, 50, 51, 52, 53, 54, 55, 56, 57, 97, 98, 99, 100, 101, 102, 103, 104, 105, 106, 107, 108, 109, 110, 111, 112, 113, 114, 115, 116, 117, 118, 119, 120, 121, 122] } : ByteArray)[r]'(by show r < 36; omega)).toNat = ((Dp.dg r).toNat : Int) := by
  have : r = 0 ∨ r = 1 ∨ r = 2 ∨ r = 3 ∨ r = 4 ∨ r = 5 ∨ r = 6 ∨ r = 7 ∨ r = 8 ∨ r = 9 ∨ r = 10 ∨ r = 11 ∨ r = 12 ∨ r = 13 ∨ r = 14 ∨ r = 15 := by omega
  rcases this with rfl | rfl | rfl | rfl | rfl | rfl | rfl | rfl | rfl | rfl | rfl | rfl | rfl | rfl | rfl | rfl <;> rfl
theorem conv65 (w : World) (C : Array Value) (u v k cap : Nat) (l : List UInt8) (h16 : v < 16) (hd : Dp.digs 16 u = [Dp.dg v] ++ l) (hk : k + l.length + 1 = 65) (hC : k < C.size) (hl : ∀ j, j < l.length → C[k + 1 + j]? = some (.int .u8 ((l.getD j 0).toNat : Int))) :
    (convert 90 9 (.slice (some ⟨w.heap.size, k, none⟩) (65 - k) cap)).run Tryz.prog (w.alloc (.cells (C.setIfInBounds k (Value.int .u8 (({ data := #[48, 49, 50, 51, 52, 53, 54, 55, 56, 57, 97, 98, 99, 100, 101, 102, 103, 104, 105, 106, 107, 108, 109, 110, 111, 112, 113, 114, 115, 116, 117, 118, 119, 120, 121, 122] } : ByteArray)[v]'(by show v < 36; omega)).toNat)) 164)) =
      .ok (.string ⟨(Dp.digs 16 u).toArray⟩) (w.alloc (.cells (C.setIfInBounds k (Value.int .u8 (({ data := #[48, 49, 50, 51, 52, 53, 54, 55, 56, 57, 97, 98, 99, 100, 101, 102, 103, 104, 105, 106, 107, 108, 109, 110, 111, 112, 113, 114, 115, 116, 117, 118, 119, 120, 121, 122] } : ByteArray)[v]'(by show v < 36; omega)).toNat)) 164)) := by
  have h := run_convert_bytes_back (P := Tryz.prog) (w.alloc (.cells (C.setIfInBounds k (Value.int .u8 (({ data := #[48, 49, 50, 51, 52, 53, 54, 55, 56, 57, 97, 98, 99, 100, 101, 102, 103, 104, 105, 106, 107, 108, 109, 110, 111, 112, 113, 114, 115, 116, 117, 118, 119, 120, 121, 122] } : ByteArray)[v]'(by show v < 36; omega)).toNat)) 164)) 90 9 5 ⟨w.heap.size, k, none⟩ cap (Dp.dg v :: l) Tryz.underlying90 Tryz.underlying5 Tryz.underlying9 (fun j hj => by
    rw [Lib.add_plain, World.cell?_alloc_new]
    cases j with
    | zero => exact (Array.getElem?_setIfInBounds_self_of_lt (xs := C) (i := k) hC).trans (congrArg (fun z => some (Value.int .u8 z)) (dig36 v h16))
    | succ j =>
      have hj' : j < l.length := by simpa using hj
      rw [Array.getElem?_setIfInBounds_ne (by omega), show k + (j + 1) = k + 1 + j by omega, hl j hj']
      simp [List.getD_eq_getElem?_getD, List.getElem?_eq_getElem hj'])
  rw [hd]
  rw [show 65 - k = (Dp.dg v :: l).length by simp; omega]
  exact h
set_option maxRecDepth 100000 in
theorem hex_any (u : Nat) (w : World) (hu : u < 18446744073709551616) (hc : w.cell? ⟨3, 15, none⟩ = some (.int .u8 4)) :
    Calls Tryz.prog 98 #[.slice none 0 0, .int .u64 (u : Int), .int .i64 16, .bool false, .bool false] w fun e w' => e = .returned (.tuple #[.slice none 0 0, .string ⟨(Dp.digs 16 u).toArray⟩]) ∧ Below w.heap.size w w' := by
  have K1 := Lib.hid pow16
  have HC := Lib.hid hc
  clear hc
  go_enter Tryz.func98, Tryz.ntmps98
  go_wp2_with fail
  refine (K1.out _).mono ?_
  rintro e w' ⟨rfl, rfl⟩
  go_wp2_with fail
  refine (tz16 _ ?_).mono ?_
  · exact cell_below ((Below.refl _ _).alloc (Nat.le_refl _) _) HC.out
  rintro e w' ⟨rfl, rfl⟩
  go_wp2_with fail
  clear K1 HC
  have H0 := Lib.hid (show u * 16 ^ ([] : List UInt8).length < 16 ^ 16 by simpa using hu)
  have Hu := Lib.hid hu
  clear hu
  go_loopw [1, 13] (fun n i wr => ∃ (v : Nat) (C : Array Value) (l : List UInt8) (k : Nat), n = .int .u64 (v : Int) ∧ i = .int .i64 (k : Int) ∧ (k + l.length = 65 ∧ l.length ≤ 16) ∧ v * 16 ^ l.length < 16 ^ 16 ∧ Dp.digs 16 u = Dp.digs 16 v ++ l ∧ wr = w.alloc (.cells C 164) ∧ C.size = 65 ∧
      (∀ j, j < l.length → C[k + j]? = some (.int .u8 ((l.getD j 0).toNat : Int)))) (fun n _ _ => (intOf n).toNat)
  case atStart => exact ⟨u, _, [], 65, rfl, rfl, ⟨rfl, by simp⟩, H0.out, by simp, rfl, by kernel_rfl, fun j hj => by simp at hj⟩
  case round =>
    obtain ⟨v, C, l, k, rfl, rfl, ⟨hk, hk2⟩, hb, hd, rfl, hC, hl⟩ := hrel
    by_cases h16 : v < 16
    · have hk1 : 1 ≤ k := by omega
      obtain ⟨k, rfl⟩ : ∃ k', k = k' + 1 := ⟨k - 1, by omega⟩
      have hcell : ∃ x, C[k]? = some x := ⟨C[k]'(by omega), by simp⟩
      obtain ⟨x, hx⟩ := hcell
      have hk65 : k < 65 := by omega
      have H1 := Lib.hid hk
      have H3 := Lib.hid hd
      have H4 := Lib.hid hC
      have H5 := Lib.hid hl
      have hsl := fun W => slice65 W w.heap.size k (by omega)
      have hcv := conv65 w C u v k (65 - k) l (h16 := h16) (by rw [hd, Dp.digs_lt h16]) (by simp; omega) (by omega) (fun j hj => hl j hj)
      clear hk hb hd hC hl
      go_wp2
      go_ret2
      exact ⟨rfl, (Below.refl _ _).alloc (Nat.le_refl _) _⟩
    · have hlen := Dp.hex_room hb (by omega)
      obtain ⟨k, rfl⟩ : ∃ k', k = k' + 1 := ⟨k - 1, by omega⟩
      have H1 := Lib.hid hk
      have H2 := Lib.hid hb
      have H3 := Lib.hid hd
      have H4 := Lib.hid hC
      have H5 := Lib.hid hl
      have hcell : ∃ x, C[k]? = some x := ⟨C[k]'(by omega), by simp⟩
      obtain ⟨x, hx⟩ := hcell
      have hk65 : k < 65 := by omega
      obtain ⟨r, hr⟩ : ∃ r, v % 16 = r := ⟨_, rfl⟩
      have hr16 : r < 16 := by omega
      have hv64 := hex_u64 hb
      have hand := and15 v r hv64 hr
      have H6 := Lib.hid hr
      clear hk hb hd hC hl hr hv64
      go_wp2
      go_roundw
      case rel =>
        refine ⟨v / 16, _, Dp.dg r :: l, k, by congr 1, rfl, ⟨by have := H1.out; simp; omega, by simp; omega⟩, Dp.hex_less H2.out, ?_, rfl, by rw [Array.size_setIfInBounds]; exact H4.out, ?_⟩
        · rw [H3.out, Dp.digs_ge (by omega) (by omega), H6.out, List.append_assoc]; rfl
        · intro j hj
          cases j with
          | zero => exact (Array.getElem?_setIfInBounds_self_of_lt (xs := C) (i := k) (by have := H4.out; omega)).trans (congrArg (fun z => some (Value.int .u8 z)) (dig36 r hr16))
          | succ j => rw [Array.getElem?_setIfInBounds_ne (by omega), show k + (j + 1) = k + 1 + j by omega]; exact H5.out j (by simpa using hj)
      case measure => simp [intOf]; omega
end Go.Proofs.YtheaichiglfmjaaGreatDoor

/- A number's text and its hex, the program's and the reference's, are the digits of the text Dh. Numbers have 64 bits; the two tables of the library read as they are laid. -/
namespace Go.Proofs.YtheaichiglfmjaaGreatDoor
set_option linter.unusedVariables false
set_option linter.unusedSimpArgs false
open Go.RowKit
open Go.Sort (Holds putRow mapBlock cell?_putRow)
set_option maxHeartbeats 1000000
/-- the tables of the library that number texts read -/
def Tabs (w : World) : Prop := w.cell? ⟨3, 15, none⟩ = some (.int .u8 4) ∧ Lib.TabIs Tryz.prog w "internal/strconv.uint64pow10" .u64 Lib.pow10Tab
theorem tabIs_below {P : Program} {w w' : World} {name : String} {k : IntKind} {zs : List Int} (h : Lib.TabIs P w name k zs) (hb : Below w.heap.size w w') : Lib.TabIs P w' name k zs := by
  unfold Lib.TabIs World.var? at *
  cases hg : P.globalNamed name with
  | none => simp [hg] at h
  | some g =>
    simp only [hg, Option.bind_some] at h ⊢
    have hlt : g < w.heap.size := by
      rcases Nat.lt_or_ge g w.heap.size with h' | h'
      · exact h'
      · rw [Array.getElem?_eq_none h'] at h; simp at h
    rw [hb.block g hlt]
    exact h
theorem Tabs.below {w w' : World} (h : Tabs w) (hb : Below w.heap.size w w') : Tabs w' := ⟨cell_below hb h.1, tabIs_below h.2 hb⟩
theorem below_drewN {B : Nat} {a w : World} (h : Below B a w) (n : Nat) : Below B a (w.drewN n) := ⟨h.os, h.tape, h.output, h.size, h.block⟩
theorem below_putRow {α : Type} [Inhabited α] {enc : α → Value} {B : Nat} {a w : World} (h : Below B a w) (blk off : Nat) (d : Array α) (hB : B ≤ blk) : Below B a (putRow enc w blk off d) := by
  refine h.trans ⟨rfl, rfl, rfl, by simp [putRow, mapBlock], fun k hk => ?_⟩
  simp only [putRow, mapBlock, Array.getElem?_modify]
  rw [if_neg (by omega)]
theorem holds_zero0 (w : World) (T : TypeId) (nd : Nat) (hs : nd ≤ 24) : Holds (fun (b : UInt8) => Value.int .u8 (b.toNat : Int)) (w.alloc (.cells Lib.zeros24 T)) w.heap.size 0 (Array.replicate nd (0 : UInt8)) := fun j hj => by
  have hj' : j < nd := by simpa using hj
  refine ⟨?_, World.frozen?_alloc_new _ _ _ _⟩
  rw [World.cell?_alloc_new, Lib.zeros24_at _ (by omega), getElem!_pos _ j hj]
  simp
theorem len24 : Tryz.prog.arrayLen 134 = 24 := by kernel_rfl
theorem slice24 (W : World) (b k : Nat) (hk : k < 24) : (Instr.sliceAt 134 (.pointer (some ⟨b, 0, none⟩)) none (some (.int .i64 (k : Int))) none).run Tryz.prog W = .ok (.slice (some ⟨b, 0, none⟩) k 24) W := by
  rw [run_sliceAt_array_h W 134 ⟨b, 0, none⟩ (by simp [Program.arrayLen, Program.elem, Tryz.underlying134]) .i64 (k : Int) (by omega) (by rw [len24]; omega)]
  rw [len24]
  have h2 : Tryz.prog.elem 134 = 5 := by kernel_rfl
  simp [go_sem, h2]
set_option maxRecDepth 100000 in
theorem fmt10_small (u : Nat) (w : World) (hu : u < 100) :
    Calls Tryz.prog 78 #[.int .u64 (u : Int), .int .i64 10] w fun e w' => e = .returned (.string ⟨(Dp.digs 10 u).toArray⟩) ∧ Below w.heap.size w w' := by
  have K := Lib.hid (Tryz.internal_strconv_small u hu w)
  go_enter Tryz.func78, Tryz.ntmps78
  go_wp2_with fail
  refine K.out.mono ?_
  rintro e w' ⟨rfl, rfl⟩
  go_wp2
  go_ret
  exact ⟨by rw [← Dp.dec_digs]; rfl, Below.refl _ _⟩
set_option maxRecDepth 100000 in
theorem fmt10_big (u : Nat) (w : World) (hu : u < 18446744073709551616) (h1 : 100 ≤ u) (htab : Lib.TabIs Tryz.prog w "internal/strconv.uint64pow10" .u64 Lib.pow10Tab) :
    Calls Tryz.prog 78 #[.int .u64 (u : Int), .int .i64 10] w fun e w' => e = .returned (.string ⟨(Dp.digs 10 u).toArray⟩) ∧ Below w.heap.size w w' := by
  have hu1 : 1 ≤ u := by omega
  have hnd20 : Lib.nDigits u ≤ 20 := by have := Lib.numDigits_eq u hu1 hu; split at this <;> omega
  have hH0 := holds_zero0 w 134 (Lib.nDigits u) (by omega)
  have hfmt := Tryz.internal_strconv_formatBase10 w.heap.size 0 24 u (Array.replicate (Lib.nDigits u) 0) (w.alloc (.cells Lib.zeros24 134)) hH0 (by rw [Array.size_replicate]; exact Lib.lt_pow_nDigits u) hu (by rw [Array.size_replicate]; omega)
  rw [Array.size_replicate] at hfmt
  have HH0 := Lib.hid hH0
  have HF := Lib.hid hfmt
  have ND := Lib.hid (Tryz.internal_strconv_numDigits u hu1 hu (w.alloc (.cells Lib.zeros24 134)) (Lib.tabIs_alloc htab _))
  have hsl := fun W => slice24 W w.heap.size (Lib.nDigits u) (by omega)
  have iu : (100 : Int) ≤ (u : Int) := by omega
  clear hH0 hfmt htab hu hu1 h1
  go_enter Tryz.func78, Tryz.ntmps78
  go_wp2_with fail
  refine ND.out.mono ?_
  rintro e w' ⟨rfl, rfl⟩
  go_wp2_with fail
  refine HF.out.mono ?_
  rintro e w' ⟨rfl, k, v', dk, rfl, hF⟩
  have hcv : (convert 90 9 (.slice (some ⟨w.heap.size, 0, none⟩) (Lib.nDigits u) 24)).run Tryz.prog ((putRow (fun (b : UInt8) => Value.int .u8 (b.toNat : Int)) (w.alloc (.cells Lib.zeros24 134)) w.heap.size 0 dk).drewN k) = .ok (.string ⟨(Lib.decDigits u).toArray⟩) ((putRow (fun (b : UInt8) => Value.int .u8 (b.toNat : Int)) (w.alloc (.cells Lib.zeros24 134)) w.heap.size 0 dk).drewN k) := by
    have h := run_convert_bytes_back (P := Tryz.prog) ((putRow (fun (b : UInt8) => Value.int .u8 (b.toNat : Int)) (w.alloc (.cells Lib.zeros24 134)) w.heap.size 0 dk).drewN k) 90 9 5 ⟨w.heap.size, 0, none⟩ 24 (Lib.decDigits u) Tryz.underlying90 Tryz.underlying5 Tryz.underlying9 (fun j hj => by
      rw [Lib.row_is_numeral hF j hj, Lib.add_plain, World.cell?_drewN]
      exact cell?_putRow (fun (b : UInt8) => Value.int .u8 (b.toNat : Int)) _ w.heap.size 0 _ dk HH0.out (by rw [hF.size, Array.size_replicate]) j (by rw [hF.size]; rw [Lib.decDigits_length] at hj; exact hj))
    rw [Lib.decDigits_length] at h
    exact h
  go_wp2
  go_ret
  exact ⟨by rw [← Dp.dec_digs]; rfl, below_drewN (below_putRow ((Below.refl _ _).alloc (Nat.le_refl _) _) _ _ _ (Nat.le_refl _)) k⟩
theorem fmt10 (u : Nat) (w : World) (hu : u < 18446744073709551616) (ht : Tabs w) :
    Calls Tryz.prog 78 #[.int .u64 (u : Int), .int .i64 10] w fun e w' => e = .returned (.string ⟨(Dp.digs 10 u).toArray⟩) ∧ Below w.heap.size w w' := by
  by_cases h : u < 100
  · exact fmt10_small u w h
  · exact fmt10_big u w hu (by omega) ht.2
theorem fmt16 (u : Nat) (w : World) (hu : u < 18446744073709551616) (ht : Tabs w) :
    Calls Tryz.prog 78 #[.int .u64 (u : Int), .int .i64 16] w fun e w' => e = .returned (.string ⟨(Dp.digs 16 u).toArray⟩) ∧ Below w.heap.size w w' := by
  have K := Lib.hid (hex_any u w hu ht.1)
  clear ht hu
  go_enter Tryz.func78, Tryz.ntmps78
  go_wp2_with fail
  refine K.out.mono ?_
  rintro e w' ⟨rfl, hb⟩
  go_wp2
  go_ret
  exact ⟨rfl, hb⟩
theorem strconv_fmt (b : Nat) (u : Nat) (w : World) (hb : b = 10 ∨ b = 16) (hu : u < 18446744073709551616) (ht : Tabs w) :
    Calls Tryz.prog 52 #[.int .u64 (u : Int), .int .i64 (b : Int)] w fun e w' => e = .returned (.string ⟨(Dp.digs b u).toArray⟩) ∧ Below w.heap.size w w' := by
  have K : Hid (Calls Tryz.prog 78 #[.int .u64 (u : Int), .int .i64 (b : Int)] w fun e w' => e = .returned (.string ⟨(Dp.digs b u).toArray⟩) ∧ Below w.heap.size w w') := by
    rcases hb with rfl | rfl
    · exact fmt10 u w hu ht
    · exact fmt16 u w hu ht
  clear ht hu hb
  go_enter Tryz.func52, Tryz.ntmps52
  go_wp2_with fail
  refine K.out.mono ?_
  rintro e w' ⟨rfl, hb⟩
  go_wp2
  go_ret
  exact ⟨rfl, hb⟩
theorem dec_text (u : Nat) (w : World) (hu : u < 18446744073709551616) (ht : Tabs w) :
    Calls Tryz.prog 31 #[.int .u64 (u : Int)] w fun e w' => e = .returned (.string ⟨(Dp.digs 10 u).toArray⟩) ∧ Below w.heap.size w w' := by
  have K := Lib.hid (fun W (h : Below w.heap.size w W) => strconv_fmt 10 u W (.inl rfl) hu (ht.below h))
  have i0 := bases_0
  clear ht hu
  go_enter Tryz.func31, Tryz.ntmps31
  go_wp2_with fail
  refine (dec_bases _).mono ?_
  rintro e w1 ⟨rfl, hb⟩
  go_wp2_with fail
  refine (K.out w1 hb).mono ?_
  rintro e w2 ⟨rfl, hb2⟩
  go_wp2
  go_ret
  exact ⟨rfl, hb.trans (hb2.mono hb.size)⟩
end Go.Proofs.YtheaichiglfmjaaGreatDoor

/- response: a prefix cut off, must, caught, valid, get, status, lone. No conditions but those that each law states. -/
namespace Go.Proofs.YtheaichiglfmjaaGreatDoor
set_option linter.unusedVariables false
set_option linter.unusedSimpArgs false
open Go.RowKit Go.Shelf
set_option maxHeartbeats 4000000
set_option maxRecDepth 100000
namespace Rs
def pre0 : List UInt8 := [72, 84, 84, 80, 47, 49, 46, 48, 32]
/-- what stands behind the version -/
def rest (F : List UInt8) : Option (List UInt8) := if F.take 9 = pre0 then some (F.drop 9) else if F.take 9 = Hp.http then some (F.drop 9) else none
def code (r : List UInt8) : List UInt8 := (Lib.cut r [32]).1
/-- a first line's status -/
def status (F : List UInt8) : Option Int := match rest F with
  | none => none
  | some r => if (code r).length = 3 ∧ Dp.numE 10 (code r) = 0 ∧ 100 ≤ Dp.numN 10 (code r) ∧ Dp.numN 10 (code r) ≤ 599 then some (Dp.numN 10 (code r)) else none
end Rs
/-- the cells that strings.Cut asks for -/
structure KR (w : World) : Prop where
  mx : ∃ m, w.cell? ⟨1, 0, none⟩ = some (.int .i64 m)
  pos : 1 < w.heap.size
theorem KR.below {w w' : World} (h : KR w) (hb : Below w.heap.size w w') : KR w' := by
  obtain ⟨⟨m, hm⟩, hp⟩ := h
  exact ⟨⟨m, (hb.cell (p := ⟨1, 0, none⟩) hp).trans hm⟩, Nat.lt_of_lt_of_le hp hb.size⟩
theorem sl_hasprefix (s t : ByteArray) (w : World) (hs : s.size ≤ 9223372036854775807) (ht : t.size ≤ 100000) :
    Calls Tryz.prog 109 #[.string s, .string t] w fun e w' => e = .returned (.bool (decide (s.data.toList.take t.size = t.data.toList))) ∧ w' = w := by
  by_cases h : t.size ≤ s.size
  · have hI : ((t.size : Int) ≤ (s.size : Int)) := by omega
    have hsl := fun W => slice_to s W t.size h hs
    have hd : ((s.extract 0 t.size).toList == t.toList) = decide (s.data.toList.take t.size = t.data.toList) := by
      rw [ByteArray.toList_eq, ByteArray.toList_eq, Lib.extract_data]
      simp
      by_cases e : List.take t.size s.data.toList = t.data.toList
      · rw [e]; simp
      · simp [e]
    obtain ⟨x, hx⟩ : ∃ z : ByteArray, s.extract 0 t.size = z := ⟨_, rfl⟩
    rw [hx] at hd
    simp only [hx] at hsl
    obtain ⟨d, hdd⟩ : ∃ d, decide (s.data.toList.take t.size = t.data.toList) = d := ⟨_, rfl⟩
    rw [hdd] at hd ⊢
    clear hx hdd
    go_enter Tryz.func109, Tryz.ntmps109
    go_wp2_with fail
    go_ret
    exact ⟨rfl, rfl⟩
  · have hI : ¬ ((t.size : Int) ≤ (s.size : Int)) := by omega
    have hd : decide (s.data.toList.take t.size = t.data.toList) = false := decide_eq_false (fun e => h (by
      have h1 := congrArg List.length e
      rw [List.length_take] at h1
      have h2 : s.data.toList.length = s.size := rfl
      have h3 : t.data.toList.length = t.size := rfl
      omega))
    rw [hd]
    clear hd
    go_enter Tryz.func109, Tryz.ntmps109
    go_wp2_with fail
    go_ret
    exact ⟨rfl, rfl⟩
theorem sl_cutprefix (s t : ByteArray) (w : World) (hs : s.size ≤ 9223372036854775807) (ht : t.size ≤ 100000) :
    Calls Tryz.prog 60 #[.string s, .string t] w fun e w' => e = .returned (.tuple #[.string (if s.data.toList.take t.size = t.data.toList then s.extract t.size s.size else s), .bool (decide (s.data.toList.take t.size = t.data.toList))]) ∧ w' = w := by
  have K := Lib.hid (sl_hasprefix s t w hs ht)
  have K2 : Hid (Calls Tryz.prog 82 #[.string s, .string t] w fun e w' => e = .returned (.tuple #[.string (if s.data.toList.take t.size = t.data.toList then s.extract t.size s.size else s), .bool (decide (s.data.toList.take t.size = t.data.toList))]) ∧ w' = w) := by
    refine Lib.hid ?_
    by_cases e : s.data.toList.take t.size = t.data.toList
    · rw [decide_eq_true e] at K ⊢
      rw [if_pos e]
      have hle : t.size ≤ s.size := by
        have h1 := congrArg List.length e
        rw [List.length_take] at h1
        have h2 : s.data.toList.length = s.size := rfl
        have h3 : t.data.toList.length = t.size := rfl
        omega
      have hsl : ∀ W, (Instr.slice 9 (.string s) (some (.int .i64 (t.size : Int))) none none).run Tryz.prog W = .ok (.string (s.extract t.size s.size)) W := fun W => by
        have h2 : (t.size : Int) ≤ s.size := by omega
        simp [go_sem, Tryz.underlying9, h2]
      clear e
      go_enter Tryz.func82, Tryz.ntmps82
      go_wp2_with fail
      refine K.out.mono ?_
      rintro e w2 ⟨rfl, hw⟩
      subst hw
      go_wp2_with fail
      simp [bodyPost, results, Tryz.results82, go_sem]
    · rw [decide_eq_false e] at K ⊢
      rw [if_neg e]
      clear e
      go_enter Tryz.func82, Tryz.ntmps82
      go_wp2_with fail
      refine K.out.mono ?_
      rintro e w2 ⟨rfl, hw⟩
      subst hw
      go_wp2_with fail
      simp [bodyPost, results, Tryz.results82, go_sem]
  obtain ⟨x, hx⟩ : ∃ z : ByteArray, (if s.data.toList.take t.size = t.data.toList then s.extract t.size s.size else s) = z := ⟨_, rfl⟩
  obtain ⟨d, hd⟩ : ∃ d, decide (s.data.toList.take t.size = t.data.toList) = d := ⟨_, rfl⟩
  rw [hx, hd] at K2 ⊢
  clear hx hd K
  go_enter Tryz.func60, Tryz.ntmps60
  go_wp2_with fail
  refine K2.out.mono ?_
  rintro e w2 ⟨rfl, hw⟩
  subst hw
  go_wp2_with fail
  simp [bodyPost, results, Tryz.results60, go_sem]
theorem rs_must (n : Int) (w : World) :
    Calls Tryz.prog 40 #[.bool true, .int .i64 n] w fun e w' => e = .returned (.tuple #[]) ∧ w' = w := by
  go_enter Tryz.func40, Tryz.ntmps40
  go_wp2
  all_goals first | contradiction | simp [bodyPost, results, Tryz.results40, go_sem]
theorem rs_must_no (n : Int) (w : World) :
    Calls Tryz.prog 40 #[.bool false, .int .i64 n] w fun e w' => e = .panicked [{ v := errno n, recovered := false }] ∧ w' = w := by
  go_enter Tryz.func40, Tryz.ntmps40
  go_wp2
  all_goals first | contradiction | simp [errno, bodyPost]
theorem rs_caught_idle (p : Addr) (cl : Value) (w : World) :
    CallsD Tryz.prog 33 #[.pointer (some p), cl] .returning w fun e u' w' => e = .returned (.tuple #[]) ∧ u' = .returning ∧ w' = w := by
  refine callsD_of_wpS Tryz.func33 rfl fun c₀ cs hu => ?_
  apply wpS_seq
  apply wpS_region
  simp [wpOpsS, go_sem, recoverD, hu, Tryz.ntmps33, Exit.thenS]
  apply wpS_seq
  apply wpS_region
  simp [wpOpsS, go_sem, recoverD, hu, Exit.thenS]
  refine wpS_cond (t := false) (by simp [Act.eval, Array.replicate]) ?_
  simp only [Bool.false_eq_true, if_false]
  refine wpS_of_wp (wp_skip ?_)
  cases c₀
  simp_all [bodyPostS, results, Tryz.results33]
theorem rs_caught (p : Addr) (f : FuncId) (cap : Array Value) (n : Int) (older : List PanicEntry) (w w1 : World)
    (hf : ∀ W, (callFunc f cap).run Tryz.prog W = .ok (.enter f cap) W) (hC : Calls Tryz.prog f cap w (fun e w' => e = .returned (.tuple #[]) ∧ w' = w1)) (old : Value) (hc : w1.cell? p = some old) (hz : w1.frozen? p = false) :
    CallsD Tryz.prog 33 #[.pointer (some p), .func (.func f) #[] cap] (.panicking ({ v := errno n, recovered := false } :: older)) w fun e u' w' =>
      e = .returned (.tuple #[]) ∧ u' = .panicking ({ v := errno n, recovered := true } :: older) ∧ w' = w1.setCell p (.int .i64 n) := by
  have K := Lib.hid hC
  refine callsD_of_wpS Tryz.func33 rfl fun c₀ cs hu => ?_
  apply wpS_seq
  apply wpS_region
  simp [wpOpsS, go_sem, recoverD, hu, Tryz.ntmps33, Exit.thenS]
  apply wpS_seq
  apply wpS_region
  simp [wpOpsS, go_sem, recoverD, hu, Exit.thenS, errno]
  refine wpS_cond (t := true) (by simp [Act.eval, Array.replicate]) ?_
  simp only [if_true]
  refine wpS_of_wp ?_
  simp [Array.replicate, List.replicate, List.setIfInBounds_toArray]
  have hta : ∀ (v : Value) (W : World), (Instr.typeAssert (.iface 40 v) 20 40 true).run Tryz.prog W = .ok (.tuple #[v, .bool true]) W := errno_is
  go_wp2_with fail
  refine K.out.mono ?_
  rintro e w' ⟨rfl, rfl⟩
  go_wp2
  simp [bodyPostS, results, Tryz.results33, go_sem]
theorem rs_valid (n : Int) (w : World) :
    Calls Tryz.prog 29 #[.int .i64 n] w fun e w' => e = .returned (.bool (decide (100 ≤ n ∧ n ≤ 599))) ∧ w' = w := by
  by_cases h1 : 100 ≤ n
  · by_cases h2 : n ≤ 599
    · rw [decide_eq_true ⟨h1, h2⟩]
      go_enter Tryz.func29, Tryz.ntmps29
      go_wp2_with fail
      go_ret
      exact ⟨rfl, rfl⟩
    · rw [decide_eq_false (fun h => h2 h.2)]
      go_enter Tryz.func29, Tryz.ntmps29
      go_wp2_with fail
      go_ret
      exact ⟨rfl, rfl⟩
  · rw [decide_eq_false (fun h => h1 h.1)]
    go_enter Tryz.func29, Tryz.ntmps29
    go_wp2_with fail
    go_ret
    exact ⟨rfl, rfl⟩
theorem rs_get (fb nb : ByteArray) (v : Value) (fs : List Hp.Hd) (w : World) (hv : HS w v fs) (hl : fs.length ≤ 1000) (hs : ∀ f ∈ fs, f.1.length ≤ 100000 ∧ f.2.length ≤ 100000) (hn : nb.size ≤ 100000) :
    Calls Tryz.prog 36 #[.agg #[.string fb, v], .string nb] w fun e w' => e = .returned (.tuple #[.string ⟨(Lib.join (Hg.vals nb.data.toList fs) [44, 32]).toArray⟩, .int .i64 ((Hg.vals nb.data.toList fs).length : Nat)]) ∧ Below w.heap.size w w' := by
  obtain ⟨p, c, rfl⟩ := hv.slice
  obtain ⟨n, hn2⟩ : ∃ n, fs.length = n := ⟨_, rfl⟩
  obtain ⟨w1, hw1⟩ : ∃ z, w.alloc (.cells #[.string fb, .slice p n c] 78) = z := ⟨_, rfl⟩
  have hb : Below w.heap.size w w1 := by rw [← hw1]; exact (Below.refl _ _).alloc (Nat.le_refl _) _
  have K := Lib.hid (hd_Get fb nb (.slice p fs.length c) fs w1 (hv.below hb) hl hs hn)
  obtain ⟨jb, hjb⟩ : ∃ z : ByteArray, (⟨(Lib.join (Hg.vals nb.data.toList fs) [44, 32]).toArray⟩ : ByteArray) = z := ⟨_, rfl⟩
  obtain ⟨N, hN⟩ : ∃ z, (Hg.vals nb.data.toList fs).length = z := ⟨_, rfl⟩
  rw [hjb, hN] at K ⊢
  rw [hn2] at K ⊢
  have HB := Lib.hid hb
  have HW := Lib.hid hw1
  clear hb hw1 hjb hN hn2 hv hs
  go_enter Tryz.func36, Tryz.ntmps36
  go_wp2_with fail
  rw [HW.out]
  refine K.out.mono ?_
  rintro e w2 ⟨rfl, hb2⟩
  have HB2 := Lib.hid (HB.out.trans (hb2.mono HB.out.size))
  clear hb2
  go_wp2_with fail
  simp [bodyPost, results, Tryz.results36, go_sem]
  exact HB2.out
end Go.Proofs.YtheaichiglfmjaaGreatDoor

/- response: status, lone. No conditions but those that each law states. -/
namespace Go.Proofs.YtheaichiglfmjaaGreatDoor
set_option linter.unusedVariables false
set_option linter.unusedSimpArgs false
open Go.RowKit Go.Shelf
set_option maxHeartbeats 4000000
set_option maxRecDepth 100000
namespace Rs
theorem rd_step {c : UInt8} {l : List UInt8} {n M : Int} (h0 : 0 ≤ M) (hc : Dp.digV c.toNat < 10) (hc0 : 0 ≤ Dp.digV c.toNat) (hn : 0 ≤ n) (h : ∀ m, 0 ≤ m → m ≤ n * 10 + 9 → 0 ≤ (Dp.rd 10 l m).1 ∧ (Dp.rd 10 l m).1 ≤ M) : 0 ≤ (Dp.rd 10 (c :: l) n).1 ∧ (Dp.rd 10 (c :: l) n).1 ≤ M := by
  simp only [Dp.rd]
  by_cases h1 : Dp.mulE n 10 ≠ 0
  · rw [if_pos h1]; exact ⟨Int.le_refl _, h0⟩
  · rw [if_neg h1]
    by_cases h2 : Dp.addE (Dp.mulN n 10) (Dp.digV c.toNat) ≠ 0
    · rw [if_pos h2]; exact ⟨Int.le_refl _, h0⟩
    · rw [if_neg h2]
      refine h _ ?_ ?_
      · unfold Dp.addN Dp.mulN; split <;> split <;> omega
      · unfold Dp.addN Dp.mulN; split <;> split <;> omega
theorem num_three {l : List UInt8} (h : l.length = 3) : 0 ≤ Dp.numN 10 l ∧ Dp.numN 10 l ≤ 999 := by
  match l, h with
  | [a, b, c], _ =>
    unfold Dp.numN
    by_cases hd : [a, b, c] = [] ∨ Dp.allD 10 [a, b, c] = false
    · rw [if_pos hd]; omega
    · rw [if_neg hd]
      have ha : Dp.allD 10 [a, b, c] = true := by
        cases e : Dp.allD 10 [a, b, c] with
        | true => rfl
        | false => exact absurd (.inr e) hd
      simp [Dp.allD] at ha
      obtain ⟨h1, h2, h3⟩ := ha
      have l1 := Dp.digV_lo (a.toNat : Int)
      have l2 := Dp.digV_lo (b.toNat : Int)
      have l3 := Dp.digV_lo (c.toNat : Int)
      refine rd_step (by omega) h1 l1.1 (by omega) (fun m m0 m1 => rd_step (by omega) h2 l2.1 m0 (fun k k0 k1 => rd_step (by omega) h3 l3.1 k0 (fun j j0 j1 => ?_)))
      show 0 ≤ j ∧ j ≤ 999
      omega
end Rs
def rsNo : Ending := .panicked [{ v := errno 250, recovered := false }]
/-- what status tells, or that it gives up -/
def stOut (o : Option Int) : Ending := match o with
  | some n => .returned (.int .i64 n)
  | none => rsNo
theorem rs_lone (k : Int) (s : ByteArray) (w : World) (hs : s.size ≤ 1000000) :
    Calls Tryz.prog 41 #[.int .i64 k, .string s, .func (.func 42) #[] #[]] w fun e w' => e = (if k = 1 ∧ Dp.numE 10 s.data.toList = 0 then .returned (.int .u64 (Dp.numN 10 s.data.toList)) else rsNo) ∧ Below w.heap.size w w' := by
  have K := Lib.hid (dec_digits s w hs)
  obtain ⟨N, hN⟩ : ∃ z, Dp.numN 10 s.data.toList = z := ⟨_, rfl⟩
  obtain ⟨E, hE⟩ : ∃ z, Dp.numE 10 s.data.toList = z := ⟨_, rfl⟩
  rw [hN, hE] at K ⊢
  clear hN hE
  by_cases hk : k = 1
  · by_cases he : E = 0
    · rw [if_pos ⟨hk, he⟩]
      subst hk
      subst he
      go_enter Tryz.func41, Tryz.ntmps41
      go_wp2_with fail
      refine K.out.mono ?_
      rintro e w2 ⟨rfl, hb⟩
      have HB := Lib.hid hb
      clear hb
      go_wp2_with fail
      refine (rs_must 250 _).mono ?_
      rintro e w3 ⟨rfl, hw⟩
      subst hw
      go_wp2_with fail
      go_ret
      exact ⟨rfl, HB.out⟩
    · rw [if_neg (fun h => he h.2)]
      subst hk
      have hq : (E == 0) = false := beq_eq_false_iff_ne.2 he
      clear he
      go_enter Tryz.func41, Tryz.ntmps41
      go_wp2_with fail
      refine K.out.mono ?_
      rintro e w2 ⟨rfl, hb⟩
      have HB := Lib.hid hb
      clear hb
      go_wp2_with fail
      refine (rs_must_no 250 _).mono ?_
      rintro e w3 ⟨rfl, hw⟩
      subst hw
      exact ⟨rfl, rfl, HB.out⟩
  · rw [if_neg (fun h => hk h.1)]
    have hq : (k == 1) = false := beq_eq_false_iff_ne.2 hk
    clear hk
    go_enter Tryz.func41, Tryz.ntmps41
    go_wp2_with fail
    refine K.out.mono ?_
    rintro e w2 ⟨rfl, hb⟩
    have HB := Lib.hid hb
    clear hb
    go_wp2_with fail
    refine (rs_must_no 250 _).mono ?_
    rintro e w3 ⟨rfl, hw⟩
    subst hw
    exact ⟨rfl, rfl, HB.out⟩
theorem rs_status (fb : ByteArray) (p : Option Addr) (n c : Nat) (w : World) (hs : fb.size ≤ 1000000) (hk : KR w) :
    Calls Tryz.prog 35 #[.agg #[.string fb, .slice p n c]] w fun e w' => e = stOut (Rs.status fb.data.toList) ∧ Below w.heap.size w w' := by
  obtain ⟨w1, hw1⟩ : ∃ z, w.alloc (.cells #[.string fb, .slice p n c] 78) = z := ⟨_, rfl⟩
  have hb1 : Below w.heap.size w w1 := by rw [← hw1]; exact (Below.refl _ _).alloc (Nat.le_refl _) _
  have hg1 : w1.heap[w.heap.size]? = some (.cells #[.string fb, .slice p n c] 78 (0, 0)) := by rw [← hw1]; exact World.alloc_heap_new _ _
  have y0 : w1.cell? ⟨w.heap.size, 0, none⟩ = some (.string fb) := by simp [World.cell?, hg1]
  have HB1 := Lib.hid hb1
  have HW1 := Lib.hid hw1
  obtain ⟨m, hm⟩ := (hk.below hb1).mx
  have K0 := Lib.hid (sl_cutprefix fb ⟨#[72, 84, 84, 80, 47, 49, 46, 48, 32]⟩ w1 (by omega) (by decide))
  have K1 := Lib.hid (sl_cutprefix fb ⟨#[72, 84, 84, 80, 47, 49, 46, 49, 32]⟩ w1 (by omega) (by decide))
  rw [show (⟨#[72, 84, 84, 80, 47, 49, 46, 48, 32]⟩ : ByteArray).size = 9 from rfl, show (⟨#[72, 84, 84, 80, 47, 49, 46, 48, 32]⟩ : ByteArray).data.toList = Rs.pre0 from rfl] at K0
  rw [show (⟨#[72, 84, 84, 80, 47, 49, 46, 49, 32]⟩ : ByteArray).size = 9 from rfl, show (⟨#[72, 84, 84, 80, 47, 49, 46, 49, 32]⟩ : ByteArray).data.toList = Hp.http from rfl] at K1
  have hx9 : (fb.extract 9 fb.size).data.toList = fb.data.toList.drop 9 := by
    rw [Lib.extract_data]
    first | rfl | (rw [List.take_of_length_le (by rw [List.length_drop]; exact Nat.le_refl _)]) | (refine List.take_of_length_le ?_; have h2 : fb.data.toList.length = fb.size := rfl; simp; omega)
  obtain ⟨rb, hrb⟩ : ∃ z : ByteArray, fb.extract 9 fb.size = z := ⟨_, rfl⟩
  rw [hrb] at hx9 K0 K1
  have hrs : rb.size ≤ 1000000 := by
    have h := congrArg List.length hx9
    rw [List.length_drop] at h
    have h2 : rb.data.toList.length = rb.size := rfl
    have h3 : fb.data.toList.length = fb.size := rfl
    omega
  clear hrb hb1 hw1 hg1 hk
  by_cases h0 : fb.data.toList.take 9 = Rs.pre0 ∨ fb.data.toList.take 9 = Hp.http
  · have hrest : Rs.rest fb.data.toList = some rb.data.toList := by
      unfold Rs.rest
      rw [hx9]
      rcases h0 with h | h
      · rw [if_pos h]
      · by_cases h2 : fb.data.toList.take 9 = Rs.pre0
        · rw [if_pos h2]
        · rw [if_neg h2, if_pos h]
    have hst : Rs.status fb.data.toList = (if (Rs.code rb.data.toList).length = 3 ∧ Dp.numE 10 (Rs.code rb.data.toList) = 0 ∧ 100 ≤ Dp.numN 10 (Rs.code rb.data.toList) ∧ Dp.numN 10 (Rs.code rb.data.toList) ≤ 599 then some (Dp.numN 10 (Rs.code rb.data.toList)) else none) := by unfold Rs.status; rw [hrest]
    rw [hst]
    have KC := Lib.hid (Tryz.strings_Cut rb ⟨#[32]⟩ m w1 (by omega) hm)
    rw [show (⟨#[32]⟩ : ByteArray).data.toList = [32] from rfl] at KC
    obtain ⟨cb, hcb⟩ : ∃ z : ByteArray, (⟨(Lib.cut rb.data.toList [32]).1.toArray⟩ : ByteArray) = z := ⟨_, rfl⟩
    obtain ⟨b2, hb2⟩ : ∃ z : ByteArray, (⟨(Lib.cut rb.data.toList [32]).2.1.toArray⟩ : ByteArray) = z := ⟨_, rfl⟩
    obtain ⟨d2, hd2⟩ : ∃ z, (Lib.cut rb.data.toList [32]).2.2 = z := ⟨_, rfl⟩
    rw [hcb, hb2, hd2] at KC
    have hcd : Rs.code rb.data.toList = cb.data.toList := by rw [← hcb]; rfl
    have hcz : cb.size ≤ 1000000 := by
      have h1 : (Lib.cut rb.data.toList [32]).1.length ≤ rb.size := by
        have h2 : rb.data.toList.length = rb.size := rfl
        unfold Lib.cut
        split
        · rw [List.length_take]; omega
        · show rb.data.toList.length ≤ rb.size; omega
      have h3 : cb.size = (Lib.cut rb.data.toList [32]).1.length := by rw [← hcb]; simp [ByteArray.size]
      omega
    rw [hcd]
    have KD := Lib.hid (fun W => dec_digits cb W hcz)
    have hlen : cb.data.toList.length = cb.size := rfl
    have h3 : cb.data.toList.length = 3 → 0 ≤ Dp.numN 10 cb.data.toList ∧ Dp.numN 10 cb.data.toList ≤ 999 := fun h => Rs.num_three h
    obtain ⟨N, hN⟩ : ∃ z, Dp.numN 10 cb.data.toList = z := ⟨_, rfl⟩
    obtain ⟨E, hE⟩ : ∃ z, Dp.numE 10 cb.data.toList = z := ⟨_, rfl⟩
    rw [hN, hE] at KD ⊢
    rw [hN] at h3
    rw [hlen] at h3 ⊢
    have KV := Lib.hid (fun W => rs_valid N W)
    obtain ⟨so, hso⟩ : ∃ z, (if cb.size = 3 ∧ E = 0 ∧ 100 ≤ N ∧ N ≤ 599 then some N else none) = z := ⟨_, rfl⟩
    rw [hso]
    have HSO := Lib.hid hso
    clear hso
    clear hcb hb2 hd2 hcd hN hE hst hrest hlen hm
    go_enter Tryz.func35, Tryz.ntmps35
    go_wp2_with fail
    rw [HW1.out]
    refine K0.out.mono ?_
    rintro e wx ⟨rfl, hw⟩
    subst wx
    go_upto_if 19 with (fail)
    go_cut [3, 4, 5] from 11 (fun s3 s4 s5 wx => s3 = .string rb ∧ wx = w1)
    case first =>
      by_cases h1 : fb.data.toList.take 9 = Rs.pre0
      · rw [if_pos h1, decide_eq_true h1]
        go_wp2_with fail
        go_meet
        exact ⟨rfl, rfl⟩
      · have h2 : fb.data.toList.take 9 = Hp.http := h0.resolve_left h1
        rw [if_pos h2, decide_eq_true h2] at K1
        rw [if_neg h1, decide_eq_false h1]
        go_wp2_with fail
        refine K1.out.mono ?_
        rintro e wx ⟨rfl, hw⟩
        subst wx
        go_wp2_with fail
        refine (rs_must 250 _).mono ?_
        rintro e w3 ⟨rfl, hw⟩
        subst hw
        go_wp2_with fail
        go_meet
        exact ⟨rfl, rfl⟩
    case rest =>
      obtain ⟨rfl, hw⟩ := hcut
      have hw2 := hw.symm
      subst hw2
      clear K0 K1
      go_wp2_with fail
      refine KC.out.mono ?_
      rintro e w2 ⟨rfl, jn, hw⟩
      subst hw
      have hbd : Below w1.heap.size w1 (w1.drewN jn) := below_drawn _ _ _
      obtain ⟨w2, hw2⟩ : ∃ z, w1.drewN jn = z := ⟨_, rfl⟩
      rw [hw2] at hbd ⊢
      have HB2 := Lib.hid (HB1.out.trans (hbd.mono HB1.out.size))
      clear hbd hw2 KC
      go_wp2_with fail
      refine (KD.out _).mono ?_
      rintro e w3 ⟨rfl, hb⟩
      have HB3 := Lib.hid (HB2.out.trans (hb.mono HB2.out.size))
      clear hb KD
      by_cases c1 : cb.size = 3
      · obtain ⟨n0, n9⟩ := h3 c1
        by_cases c2 : E = 0
        · by_cases c3 : 100 ≤ N ∧ N ≤ 599
          · obtain rfl : so = some N := by rw [← HSO.out, if_pos ⟨c1, c2, c3⟩]
            rw [decide_eq_true c3] at KV
            have hq1 : ((cb.size : Int) == 3) = true := by rw [c1]; rfl
            subst c2
            clear h3 c1
            go_wp2_with fail
            refine (KV.out _).mono ?_
            rintro e w4 ⟨rfl, hw⟩
            subst hw
            go_wp2_with fail
            refine (rs_must 250 _).mono ?_
            rintro e w4 ⟨rfl, hw⟩
            subst hw
            go_wp2_with fail
            go_ret
            exact ⟨rfl, HB3.out⟩
          · obtain rfl : so = none := by rw [← HSO.out, if_neg (fun h => c3 h.2.2)]
            rw [decide_eq_false c3] at KV
            have hq1 : ((cb.size : Int) == 3) = true := by rw [c1]; rfl
            subst c2
            clear h3 c1 c3
            go_wp2_with fail
            refine (KV.out _).mono ?_
            rintro e w4 ⟨rfl, hw⟩
            subst hw
            go_wp2_with fail
            refine (rs_must_no 250 _).mono ?_
            rintro e w4 ⟨rfl, hw⟩
            subst hw
            exact ⟨rfl, rfl, HB3.out⟩
        · obtain rfl : so = none := by rw [← HSO.out, if_neg (fun h => c2 h.2.1)]
          have hq1 : ((cb.size : Int) == 3) = true := by rw [c1]; rfl
          have hq2 : (E == 0) = false := beq_eq_false_iff_ne.2 c2
          clear h3 c1 c2
          go_wp2_with fail
          refine (rs_must_no 250 _).mono ?_
          rintro e w4 ⟨rfl, hw⟩
          subst hw
          exact ⟨rfl, rfl, HB3.out⟩
      · obtain rfl : so = none := by rw [← HSO.out, if_neg (fun h => c1 h.1)]
        have hq1 : ((cb.size : Int) == 3) = false := beq_eq_false_iff_ne.2 (by omega)
        clear h3 c1
        go_wp2_with fail
        refine (rs_must_no 250 _).mono ?_
        rintro e w4 ⟨rfl, hw⟩
        subst hw
        exact ⟨rfl, rfl, HB3.out⟩
  · have h1 : ¬ fb.data.toList.take 9 = Rs.pre0 := fun h => h0 (.inl h)
    have h2 : ¬ fb.data.toList.take 9 = Hp.http := fun h => h0 (.inr h)
    have hst : Rs.status fb.data.toList = none := by unfold Rs.status Rs.rest; rw [if_neg h1, if_neg h2]
    rw [hst]
    rw [if_neg h1, decide_eq_false h1] at K0
    rw [if_neg h2, decide_eq_false h2] at K1
    clear h0 h1 h2 hst hx9 hm
    go_enter Tryz.func35, Tryz.ntmps35
    go_wp2_with fail
    rw [HW1.out]
    refine K0.out.mono ?_
    rintro e wx ⟨rfl, hw⟩
    subst wx
    go_wp2_with fail
    refine K1.out.mono ?_
    rintro e wx ⟨rfl, hw⟩
    subst wx
    go_wp2_with fail
    refine (rs_must_no 250 _).mono ?_
    rintro e w3 ⟨rfl, hw⟩
    subst hw
    exact ⟨rfl, rfl, HB1.out⟩
end Go.Proofs.YtheaichiglfmjaaGreatDoor

/- response: what Of tells, plainly; the clearing of what it tells. No conditions but those that each law states. -/
namespace Go.Proofs.YtheaichiglfmjaaGreatDoor
set_option linter.unusedVariables false
set_option linter.unusedSimpArgs false
open Go.RowKit Go.Shelf
set_option maxHeartbeats 4000000
set_option maxRecDepth 100000
namespace Rs
/-- a reply: its status; whether it is an event stream, chunked, sized; its length -/
abbrev Rep := Int × Bool × Bool × Bool × Int
/-- a name's values, joined -/
def joined (nm : List UInt8) (fs : List Hp.Hd) : List UInt8 := Lib.join (Hg.vals nm fs) [44, 32]
def isEv (fs : List Hp.Hd) : Bool := decide ((Hg.vals Hp.ct fs).length = 1) && (Tp.lower (Tp.cut (joined Hp.ct fs) 59).1 == Hp.es)
def ofK (st : Int) (fs : List Hp.Hd) : Option Rep :=
  if 0 < (Hg.vals Hp.te fs).length then
    (if (Hg.vals Hp.cl fs).length = 0 ∧ (Tp.items (joined Hp.te fs)).length = 1 ∧ Tp.lower ((Tp.items (joined Hp.te fs)).getD 0 []) = Hp.ch then some (st, isEv fs, true, false, 0) else none)
  else if 0 < (Hg.vals Hp.cl fs).length then
    (if (Hg.vals Hp.cl fs).length = 1 ∧ Dp.numE 10 (joined Hp.cl fs) = 0 then some (st, isEv fs, false, true, Dp.numN 10 (joined Hp.cl fs)) else none)
  else some (st, isEv fs, false, false, 0)
def of (F : List UInt8) (fs : List Hp.Hd) : Option Rep := (status F).bind fun st => ofK st fs
end Rs
def repV (r : Rs.Rep) : Value := .agg #[.int .i64 r.1, .bool r.2.1, .bool r.2.2.1, .bool r.2.2.2.1, .int .u64 r.2.2.2.2]
def ofOut (o : Option Rs.Rep) : Ending := match o with
  | some r => .returned (.tuple #[repV r, .int .i64 0])
  | none => .returned (.tuple #[repV (0, false, false, false, 0), .int .i64 250])
def repC (r : Rs.Rep) : Obj := .cells #[.int .i64 r.1, .bool r.2.1, .bool r.2.2.1, .bool r.2.2.2.1, .int .u64 r.2.2.2.2] 31 (0, 0)
/-- a reply's cells, stored -/
def stR (w : World) (R : Nat) (r : Rs.Rep) : World := ((((w.setCell ⟨R, 0, none⟩ (.int .i64 r.1)).setCell ⟨R, 1, none⟩ (.bool r.2.1)).setCell ⟨R, 2, none⟩ (.bool r.2.2.1)).setCell ⟨R, 3, none⟩ (.bool r.2.2.2.1)).setCell ⟨R, 4, none⟩ (.int .u64 r.2.2.2.2)
theorem stR_heap {w : World} {R : Nat} {q : Rs.Rep} (h : w.heap[R]? = some (repC q)) (r : Rs.Rep) : (stR w R r).heap[R]? = some (repC r) := by
  unfold stR
  have h1 := heap_setCell_same w R 0 _ _ (.int .i64 r.1) h
  have h2 := heap_setCell_same _ R 1 _ _ (.bool r.2.1) h1
  have h3 := heap_setCell_same _ R 2 _ _ (.bool r.2.2.1) h2
  have h4 := heap_setCell_same _ R 3 _ _ (.bool r.2.2.2.1) h3
  have h5 := heap_setCell_same _ R 4 _ _ (.int .u64 r.2.2.2.2) h4
  rw [h5]
  simp [repC]
theorem stR_other {w : World} {R b : Nat} (r : Rs.Rep) (h : b ≠ R) : (stR w R r).heap[b]? = w.heap[b]? := by
  unfold stR
  rw [Below.heap_setCell _ _ _ _ (by show b ≠ R; exact h), Below.heap_setCell _ _ _ _ (by show b ≠ R; exact h), Below.heap_setCell _ _ _ _ (by show b ≠ R; exact h), Below.heap_setCell _ _ _ _ (by show b ≠ R; exact h), Below.heap_setCell _ _ _ _ (by show b ≠ R; exact h)]
theorem stR_below {B : Nat} {w0 w : World} {R : Nat} (r : Rs.Rep) (h : Below B w0 w) (hB : B ≤ R) : Below B w0 (stR w R r) :=
  ((((h.setCell (p := ⟨R, 0, none⟩) hB _).setCell (p := ⟨R, 1, none⟩) hB _).setCell (p := ⟨R, 2, none⟩) hB _).setCell (p := ⟨R, 3, none⟩) hB _).setCell (p := ⟨R, 4, none⟩) hB _
theorem rep_cell {w : World} {R : Nat} {r : Rs.Rep} (h : w.heap[R]? = some (repC r)) : w.cell? ⟨R, 0, none⟩ = some (.int .i64 r.1) ∧ w.cell? ⟨R, 1, none⟩ = some (.bool r.2.1) ∧ w.cell? ⟨R, 2, none⟩ = some (.bool r.2.2.1) ∧ w.cell? ⟨R, 3, none⟩ = some (.bool r.2.2.2.1) ∧ w.cell? ⟨R, 4, none⟩ = some (.int .u64 r.2.2.2.2) := by
  unfold repC at h
  refine ⟨?_, ?_, ?_, ?_, ?_⟩ <;> simp [World.cell?, h]
theorem rep_free {w : World} {R : Nat} {r : Rs.Rep} (h : w.heap[R]? = some (repC r)) (i : Nat) : w.frozen? ⟨R, i, none⟩ = false := frozen_of_row _ _ _ _ _ h
theorem rs_clear (R : Nat) (r : Rs.Rep) (w : World) (hc : w.heap[R]? = some (repC r)) :
    Calls Tryz.prog 34 #[.pointer (some ⟨R, 0, none⟩)] w fun e w' => e = .returned (.tuple #[]) ∧ w' = stR w R (0, false, false, false, 0) := by
  unfold repC at hc
  have c0 : w.cell? ⟨R, 0, none⟩ = some (.int .i64 r.1) := by simp [World.cell?, hc]
  have c1 : w.cell? ⟨R, 1, none⟩ = some (.bool r.2.1) := by simp [World.cell?, hc]
  have c2 : w.cell? ⟨R, 2, none⟩ = some (.bool r.2.2.1) := by simp [World.cell?, hc]
  have c3 : w.cell? ⟨R, 3, none⟩ = some (.bool r.2.2.2.1) := by simp [World.cell?, hc]
  have c4 : w.cell? ⟨R, 4, none⟩ = some (.int .u64 r.2.2.2.2) := by simp [World.cell?, hc]
  have z0 : w.frozen? ⟨R, 0, none⟩ = false := frozen_of_row _ _ _ _ _ hc
  have z1 : w.frozen? ⟨R, 1, none⟩ = false := frozen_of_row _ _ _ _ _ hc
  have z2 : w.frozen? ⟨R, 2, none⟩ = false := frozen_of_row _ _ _ _ _ hc
  have z3 : w.frozen? ⟨R, 3, none⟩ = false := frozen_of_row _ _ _ _ _ hc
  have z4 : w.frozen? ⟨R, 4, none⟩ = false := frozen_of_row _ _ _ _ _ hc
  go_enter Tryz.func34, Tryz.ntmps34
  go_wp2
  simp [bodyPost, results, Tryz.results34, go_sem, stR]
theorem clear_enter (cap : Array Value) (W : World) : (callFunc 34 cap).run Tryz.prog W = .ok (.enter 34 cap) W := by
  simp [callFunc, go_sem, Tryz.func34]
  rw [if_neg (by decide), if_neg (by decide)]
end Go.Proofs.YtheaichiglfmjaaGreatDoor

/- response: Of, of a head that may be. No conditions but those that each law states. -/
namespace Go.Proofs.YtheaichiglfmjaaGreatDoor
set_option linter.unusedVariables false
set_option linter.unusedSimpArgs false
open Go.RowKit Go.Shelf
set_option maxHeartbeats 8000000
set_option maxRecDepth 100000
def rep0 : Rs.Rep := (0, false, false, false, 0)
theorem of_door (tm : Array Value) (R E : Nat) (r : Rs.Rep) (W : World) (Q : Ending → World → Prop) (hQ : Q (ofOut none) ((stR W R rep0).setCell ⟨E, 0, none⟩ (.int .i64 250)))
    (hR : W.heap[R]? = some (repC r)) (hE : W.heap[E]? = some (.cells #[.int .i64 0] 40 (0, 0))) (hne : E ≠ R) (h2 : tm.getD 2 undef = .pointer (some ⟨R, 0, none⟩)) (h3 : tm.getD 3 undef = .pointer (some ⟨E, 0, none⟩)) :
    bodyPostD Tryz.prog Tryz.f13 Q (.panic [{ v := errno 250, recovered := false }])
      { tmps := tm, defers := [{ target := Target.fn (Fn.func 33) #[], args := #[.pointer (some ⟨E, 0, none⟩), .func (.func 34) #[] #[.pointer (some ⟨R, 0, none⟩)]] }] } W := by
  have e2 := rg_ev (a := ⟨tm, []⟩) h2
  have e3 := rg_ev (a := ⟨tm, []⟩) h3
  simp only at e2 e3
  have hR2 := stR_heap hR rep0
  have hE2 : (stR W R rep0).heap[E]? = some (.cells #[.int .i64 0] 40 (0, 0)) := (stR_other _ hne).trans hE
  have c2 : (stR W R rep0).cell? ⟨E, 0, none⟩ = some (.int .i64 0) := by simp [World.cell?, hE2]
  have z2 : (stR W R rep0).frozen? ⟨E, 0, none⟩ = false := frozen_of_row _ _ _ _ _ hE2
  refine leaves_cons (f := 33) (args := #[.pointer (some ⟨E, 0, none⟩), .func (.func 34) #[] #[.pointer (some ⟨R, 0, none⟩)]]) (by simp) (by simp [go_sem]) ?_
  refine (rs_caught ⟨E, 0, none⟩ 34 #[.pointer (some ⟨R, 0, none⟩)] 250 [] W (stR W R rep0) (clear_enter _) (rs_clear R r W hR) (.int .i64 0) c2 z2).mono ?_
  rintro e u' w'' ⟨rfl, rfl, rfl⟩
  obtain ⟨X, hX⟩ : ∃ X, (stR W R rep0).setCell ⟨E, 0, none⟩ (.int .i64 250) = X := ⟨_, rfl⟩
  have hXR : X.heap[R]? = some (repC rep0) := by rw [← hX, Below.heap_setCell _ _ _ _ (by show R ≠ E; exact Ne.symm hne)]; exact hR2
  have hXE : X.heap[E]? = some (.cells #[.int .i64 250] 40 (0, 0)) := by rw [← hX]; exact heap_setCell_same _ _ 0 _ _ _ hE2
  obtain ⟨x0, x1, x2, x3, x4⟩ := rep_cell hXR
  have xe : X.cell? ⟨E, 0, none⟩ = some (.int .i64 250) := by simp [World.cell?, hXE]
  rw [hX] at hQ ⊢
  clear hX hR2 hE2 c2 z2 hXR hXE hR hE
  unfold rep0 at x0 x1 x2 x3 x4
  simp only at x0 x1 x2 x3 x4
  simp [Leaves, settle, results, Tryz.results13, go_sem, e2, e3, x0, x1, x2, x3, x4, xe]
  exact hQ
/-- what stands while Of goes on -/
structure OfW (w W : World) (B L : Nat) (fb : ByteArray) (v : Value) (r : Rs.Rep) : Prop where
  hb : Below w.heap.size w W
  hB : w.heap.size = B
  hL : B + 2 < L
  R : W.heap[B + 1]? = some (repC r)
  E : W.heap[B + 2]? = some (.cells #[.int .i64 0] 40 (0, 0))
  K : W.heap[L]? = some (.cells #[.string fb, v] 78 (0, 0))
theorem OfW.next {w W W' : World} {B L : Nat} {fb : ByteArray} {v : Value} {r : Rs.Rep} (h : OfW w W B L fb v r) (k : Below W.heap.size W W') : OfW w W' B L fb v r :=
  ⟨h.hb.trans (k.mono h.hb.size), h.hB, h.hL, (k.block _ (Array.getElem?_eq_some_iff.1 h.R).1).trans h.R, (k.block _ (Array.getElem?_eq_some_iff.1 h.E).1).trans h.E, (k.block _ (Array.getElem?_eq_some_iff.1 h.K).1).trans h.K⟩
theorem OfW.put {w W : World} {B L i : Nat} {fb : ByteArray} {v x : Value} {r r' : Rs.Rep} (h : OfW w W B L fb v r) (hr : (W.setCell ⟨B + 1, i, none⟩ x).heap[B + 1]? = some (repC r')) : OfW w (W.setCell ⟨B + 1, i, none⟩ x) B L fb v r' :=
  ⟨h.hb.setCell (p := ⟨B + 1, i, none⟩) (by have := h.hB; show w.heap.size ≤ B + 1; omega) _, h.hB, h.hL, hr, (Below.heap_setCell _ _ _ _ (by show B + 2 ≠ B + 1; omega)).trans h.E, (Below.heap_setCell _ _ _ _ (by have := h.hL; show L ≠ B + 1; omega)).trans h.K⟩
theorem OfW.s0 {w W : World} {B L : Nat} {fb : ByteArray} {v : Value} {n m : Int} {a b c : Bool} {l : Int} (h : OfW w W B L fb v (m, a, b, c, l)) : OfW w (W.setCell ⟨B + 1, 0, none⟩ (.int .i64 n)) B L fb v (n, a, b, c, l) :=
  h.put ((heap_setCell_same W (B + 1) 0 _ _ _ h.R).trans (by simp [repC]))
theorem OfW.s1 {w W : World} {B L : Nat} {fb : ByteArray} {v : Value} {m : Int} {a b c x : Bool} {l : Int} (h : OfW w W B L fb v (m, a, b, c, l)) : OfW w (W.setCell ⟨B + 1, 1, none⟩ (.bool x)) B L fb v (m, x, b, c, l) :=
  h.put ((heap_setCell_same W (B + 1) 1 _ _ _ h.R).trans (by simp [repC]))
theorem OfW.s2 {w W : World} {B L : Nat} {fb : ByteArray} {v : Value} {m : Int} {a b c x : Bool} {l : Int} (h : OfW w W B L fb v (m, a, b, c, l)) : OfW w (W.setCell ⟨B + 1, 2, none⟩ (.bool x)) B L fb v (m, a, x, c, l) :=
  h.put ((heap_setCell_same W (B + 1) 2 _ _ _ h.R).trans (by simp [repC]))
theorem OfW.s3 {w W : World} {B L : Nat} {fb : ByteArray} {v : Value} {m : Int} {a b c x : Bool} {l : Int} (h : OfW w W B L fb v (m, a, b, c, l)) : OfW w (W.setCell ⟨B + 1, 3, none⟩ (.bool x)) B L fb v (m, a, b, x, l) :=
  h.put ((heap_setCell_same W (B + 1) 3 _ _ _ h.R).trans (by simp [repC]))
theorem OfW.s4 {w W : World} {B L : Nat} {fb : ByteArray} {v : Value} {m : Int} {a b c : Bool} {l x : Int} (h : OfW w W B L fb v (m, a, b, c, l)) : OfW w (W.setCell ⟨B + 1, 4, none⟩ (.int .u64 x)) B L fb v (m, a, b, c, x) :=
  h.put ((heap_setCell_same W (B + 1) 4 _ _ _ h.R).trans (by simp [repC]))
/-- how Of gives up -/
theorem OfW.door {w W : World} {B L : Nat} {fb : ByteArray} {v : Value} {r : Rs.Rep} (h : OfW w W B L fb v r) (tm : Array Value) (o : Option Rs.Rep) (ho : o = none) (h2 : tm.getD 2 undef = .pointer (some ⟨B + 1, 0, none⟩)) (h3 : tm.getD 3 undef = .pointer (some ⟨B + 2, 0, none⟩)) :
    bodyPostD Tryz.prog Tryz.f13 (fun e w' => e = ofOut o ∧ Below w.heap.size w w') (.panic [{ v := errno 250, recovered := false }])
      { tmps := tm, defers := [{ target := Target.fn (Fn.func 33) #[], args := #[.pointer (some ⟨B + 2, 0, none⟩), .func (.func 34) #[] #[.pointer (some ⟨B + 1, 0, none⟩)]] }] } W := by
  have hB := h.hB
  exact of_door tm (B + 1) (B + 2) r W _ ⟨by rw [ho], (stR_below _ h.hb (by omega)).setCell (p := ⟨B + 2, 0, none⟩) (by show w.heap.size ≤ B + 2; omega) _⟩ h.R h.E (by omega) h2 h3
end Go.Proofs.YtheaichiglfmjaaGreatDoor

/- response: Of's walk. No conditions but those that each law states. -/
namespace Go.Proofs.YtheaichiglfmjaaGreatDoor
set_option linter.unusedVariables false
set_option linter.unusedSimpArgs false
open Go.RowKit Go.Shelf
set_option maxHeartbeats 8000000
set_option maxRecDepth 100000
theorem es_low : Tp.lower (⟨#[116, 101, 120, 116, 47, 101, 118, 101, 110, 116, 45, 115, 116, 114, 101, 97, 109]⟩ : ByteArray).data.toList = Hp.es := by decide +kernel
theorem ch_low : Tp.lower (⟨#[99, 104, 117, 110, 107, 101, 100]⟩ : ByteArray).data.toList = Hp.ch := by decide +kernel
/-- how Of ends well -/
theorem OfW.fin {w W : World} {B L : Nat} {fb : ByteArray} {v : Value} {r : Rs.Rep} (h : OfW w W B L fb v r) (tm : Array Value) (h2 : tm.getD 2 undef = .pointer (some ⟨B + 1, 0, none⟩)) (h3 : tm.getD 3 undef = .pointer (some ⟨B + 2, 0, none⟩)) :
    bodyPostD Tryz.prog Tryz.f13 (fun e w' => e = ofOut (some r) ∧ Below w.heap.size w w') .ret
      { tmps := tm, defers := [{ target := Target.fn (Fn.func 33) #[], args := #[.pointer (some ⟨B + 2, 0, none⟩), .func (.func 34) #[] #[.pointer (some ⟨B + 1, 0, none⟩)]] }] } ((stR W (B + 1) r).setCell ⟨B + 2, 0, none⟩ (.int .i64 0)) := by
  have hB := h.hB
  have e2 := rg_ev (a := ⟨tm, []⟩) h2
  have e3 := rg_ev (a := ⟨tm, []⟩) h3
  simp only at e2 e3
  have hR2 := stR_heap h.R r
  have hE2 : (stR W (B + 1) r).heap[B + 2]? = some (.cells #[.int .i64 0] 40 (0, 0)) := (stR_other _ (by omega)).trans h.E
  have hbb : Below w.heap.size w ((stR W (B + 1) r).setCell ⟨B + 2, 0, none⟩ (.int .i64 0)) := (stR_below _ h.hb (by omega)).setCell (p := ⟨B + 2, 0, none⟩) (by show w.heap.size ≤ B + 2; omega) _
  refine leaves_cons (f := 33) (args := #[.pointer (some ⟨B + 2, 0, none⟩), .func (.func 34) #[] #[.pointer (some ⟨B + 1, 0, none⟩)]]) (by simp) (by simp [go_sem]) ?_
  refine (rs_caught_idle _ _ _).mono ?_
  rintro e u' w'' ⟨rfl, rfl, rfl⟩
  obtain ⟨X, hX⟩ : ∃ X, (stR W (B + 1) r).setCell ⟨B + 2, 0, none⟩ (.int .i64 0) = X := ⟨_, rfl⟩
  have hXR : X.heap[B + 1]? = some (repC r) := by rw [← hX, Below.heap_setCell _ _ _ _ (by show B + 1 ≠ B + 2; omega)]; exact hR2
  have hXE : X.heap[B + 2]? = some (.cells #[.int .i64 0] 40 (0, 0)) := by rw [← hX]; exact heap_setCell_same _ _ 0 _ _ _ hE2
  obtain ⟨x0, x1, x2, x3, x4⟩ := rep_cell hXR
  have xe : X.cell? ⟨B + 2, 0, none⟩ = some (.int .i64 0) := by simp [World.cell?, hXE]
  rw [hX] at hbb ⊢
  clear hX hR2 hE2 hXR hXE
  simp [Leaves, settle, results, Tryz.results13, go_sem, e2, e3, x0, x1, x2, x3, x4, xe]
  exact ⟨rfl, hbb⟩
/-- what lone tells, or that it gives up -/
def loOut (o : Option Int) : Ending := match o with
  | some n => .returned (.int .u64 n)
  | none => rsNo
theorem Tp.trim_len (l : List UInt8) : (Tp.trim l).length ≤ l.length := by
  unfold Tp.trim Tp.trimR Tp.trimL
  rw [List.length_reverse]
  refine Nat.le_trans (List.dropWhile_sublist _).length_le ?_
  rw [List.length_reverse]
  exact (List.dropWhile_sublist _).length_le
theorem Tp.cut_len (l : List UInt8) (b : Int) : (Tp.cut l b).1.length ≤ l.length := by
  unfold Tp.cut
  split
  · refine Nat.le_trans (Tp.trim_len _) ?_
    rw [List.length_take]; omega
  · exact Tp.trim_len _
theorem Tp.items_len {l p : List UInt8} (hp : p ∈ Tp.items l) : p.length ≤ l.length := by
  obtain ⟨r, hr, rfl⟩ := List.mem_map.1 (List.mem_filter.1 hp).1
  have h1 := Tp.parts_len l [] r hr
  exact Nat.le_trans (Tp.trim_len _) (by simpa using h1)
theorem rs_getJ (fb nb : ByteArray) (nm : List UInt8) (v : Value) (fs : List Hp.Hd) (w : World) (hv : HS w v fs) (hl : fs.length ≤ 1000) (hs : ∀ f ∈ fs, f.1.length ≤ 100000 ∧ f.2.length ≤ 100000) (hn : nb.size ≤ 100000)
    (hnm : nb.data.toList = nm) (cb : ByteArray) (hcb : (⟨(Rs.joined nm fs).toArray⟩ : ByteArray) = cb) (k : Nat) (hk : (Hg.vals nm fs).length = k) :
    Calls Tryz.prog 36 #[.agg #[.string fb, v], .string nb] w fun e w' => e = .returned (.tuple #[.string cb, .int .i64 (k : Nat)]) ∧ Below w.heap.size w w' := by
  have h := rs_get fb nb v fs w hv hl hs hn
  rw [hnm] at h
  unfold Rs.joined at hcb
  rw [hcb, hk] at h
  exact h
theorem rs_OfL (F : List UInt8) (v : Value) (fs : List Hp.Hd) (w : World) (hv : HS w v fs) (hok : Hp.HOk F fs) (hF : F.length ≤ 100000) (hl : fs.length ≤ 1000) (hs : ∀ f ∈ fs, f.1.length ≤ 100000 ∧ f.2.length ≤ 100000)
    (hj : (Rs.joined Hp.ct fs).length ≤ 5000 ∧ (Rs.joined Hp.te fs).length ≤ 5000 ∧ (Rs.joined Hp.cl fs).length ≤ 5000) (hk : KR w) :
    Calls Tryz.prog 13 #[.agg #[Hp.sx F, v]] w fun e w' => e = ofOut (Rs.of F fs) ∧ Below w.heap.size w w' := by
  have hmf : ∀ (fn : Fn) (first cap : Array Value) (w : World), (Instr.makeFunc fn first cap).run Tryz.prog w = .ok (.func fn first cap) w := fun _ _ _ _ => rfl
  obtain ⟨p, c, rfl⟩ := hv.slice
  obtain ⟨o, ho⟩ : ∃ z, Rs.of F fs = z := ⟨_, rfl⟩
  rw [ho]
  have HO := Lib.hid ho
  obtain ⟨fb, hfb⟩ : ∃ z : ByteArray, (⟨F.toArray⟩ : ByteArray) = z := ⟨_, rfl⟩
  have hfd : fb.data.toList = F := by rw [← hfb]
  have hfz : fb.size ≤ 100000 := by rw [← hfb]; simpa [ByteArray.size] using hF
  obtain ⟨B, hB⟩ : ∃ B, w.heap.size = B := ⟨_, rfl⟩
  have HCK := Lib.hid (fun W (h : Below w.heap.size w W) => hd_Check F (.slice p fs.length c) fs W (hv.below h) hok hF (by omega) hs)
  unfold Hp.sx at HCK ⊢
  rw [hfb] at HCK ⊢
  obtain ⟨cb, hcb⟩ : ∃ z : ByteArray, (⟨(Rs.joined Hp.ct fs).toArray⟩ : ByteArray) = z := ⟨_, rfl⟩
  obtain ⟨tb, htb⟩ : ∃ z : ByteArray, (⟨(Rs.joined Hp.te fs).toArray⟩ : ByteArray) = z := ⟨_, rfl⟩
  obtain ⟨lb, hlb⟩ : ∃ z : ByteArray, (⟨(Rs.joined Hp.cl fs).toArray⟩ : ByteArray) = z := ⟨_, rfl⟩
  obtain ⟨nc, hnc⟩ : ∃ z, (Hg.vals Hp.ct fs).length = z := ⟨_, rfl⟩
  obtain ⟨nt, hnt⟩ : ∃ z, (Hg.vals Hp.te fs).length = z := ⟨_, rfl⟩
  obtain ⟨nl, hnl⟩ : ∃ z, (Hg.vals Hp.cl fs).length = z := ⟨_, rfl⟩
  have hcd : cb.data.toList = Rs.joined Hp.ct fs := by rw [← hcb]
  have htd : tb.data.toList = Rs.joined Hp.te fs := by rw [← htb]
  have hld : lb.data.toList = Rs.joined Hp.cl fs := by rw [← hlb]
  have hcz : cb.size ≤ 5000 := by rw [← hcb]; simpa [ByteArray.size] using hj.1
  have htz : tb.size ≤ 5000 := by rw [← htb]; simpa [ByteArray.size] using hj.2.1
  have hlz : lb.size ≤ 5000 := by rw [← hlb]; simpa [ByteArray.size] using hj.2.2
  have GC := Lib.hid (fun W (h : Below w.heap.size w W) => rs_getJ fb ⟨#[99, 111, 110, 116, 101, 110, 116, 45, 116, 121, 112, 101]⟩ Hp.ct (.slice p fs.length c) fs W (hv.below h) hl hs (by decide) rfl cb hcb nc hnc)
  have GT := Lib.hid (fun W (h : Below w.heap.size w W) => rs_getJ fb ⟨#[116, 114, 97, 110, 115, 102, 101, 114, 45, 101, 110, 99, 111, 100, 105, 110, 103]⟩ Hp.te (.slice p fs.length c) fs W (hv.below h) hl hs (by decide) rfl tb htb nt hnt)
  have GL := Lib.hid (fun W (h : Below w.heap.size w W) => rs_getJ fb ⟨#[99, 111, 110, 116, 101, 110, 116, 45, 108, 101, 110, 103, 116, 104]⟩ Hp.cl (.slice p fs.length c) fs W (hv.below h) hl hs (by decide) rfl lb hlb nl hnl)
  have TC := Lib.hid (fun W => tok_cut cb 59 W (by decide) (by decide) (by omega))
  obtain ⟨xb, hxb⟩ : ∃ z : ByteArray, (⟨(Tp.cut cb.data.toList 59).1.toArray⟩ : ByteArray) = z := ⟨_, rfl⟩
  obtain ⟨x2, hx2⟩ : ∃ z, tx (Tp.cut cb.data.toList 59).2.1 = z := ⟨_, rfl⟩
  obtain ⟨x3, hx3⟩ : ∃ z, (Tp.cut cb.data.toList 59).2.2 = z := ⟨_, rfl⟩
  have hxd : xb.data.toList = (Tp.cut cb.data.toList 59).1 := by rw [← hxb]
  have hxz : xb.size ≤ 9223372036854775807 := by
    rw [← hxb]
    have h1 := Tp.cut_len cb.data.toList 59
    have h2 : cb.data.toList.length = cb.size := rfl
    simp [ByteArray.size]; omega
  unfold tx at TC hx2
  rw [hxb, hx2, hx3] at TC
  have TS := Lib.hid (fun W => tok_same xb ⟨#[116, 101, 120, 116, 47, 101, 118, 101, 110, 116, 45, 115, 116, 114, 101, 97, 109]⟩ W hxz (by decide))
  rw [es_low] at TS
  obtain ⟨b1, hb1⟩ : ∃ z, (Tp.lower xb.data.toList == Hp.es) = z := ⟨_, rfl⟩
  rw [hb1] at TS
  have TI := Lib.hid (fun W h => tok_items tb W htz h)
  have HIL := Lib.hid (fun p (hp : p ∈ Tp.items tb.data.toList) => Tp.items_len hp)
  obtain ⟨I, hI⟩ : ∃ z, Tp.items tb.data.toList = z := ⟨_, rfl⟩
  rw [hI] at TI HIL
  have SM := Lib.hid (fun (xb : ByteArray) W (h : xb.size ≤ 5000) => tok_same xb ⟨#[99, 104, 117, 110, 107, 101, 100]⟩ W (by omega) (by decide))
  rw [ch_low] at SM
  have LO := Lib.hid (fun W => rs_lone nl lb W (by omega))
  obtain ⟨NN, hNN⟩ : ∃ z, Dp.numN 10 lb.data.toList = z := ⟨_, rfl⟩
  obtain ⟨NE, hNE⟩ : ∃ z, Dp.numE 10 lb.data.toList = z := ⟨_, rfl⟩
  rw [hNN, hNE] at LO
  have hev : Rs.isEv fs = (decide (nc = 1) && b1) := by
    unfold Rs.isEv
    rw [hnc, ← hcd, ← hxd, hb1]
  have HOK := Lib.hid (show ∀ st, Rs.ofK st fs = (if 0 < nt then
      (if nl = 0 ∧ I.length = 1 ∧ Tp.lower (I.getD 0 []) = Hp.ch then some (st, Rs.isEv fs, true, false, 0) else none)
      else if 0 < nl then (if nl = 1 ∧ NE = 0 then some (st, Rs.isEv fs, false, true, NN) else none) else some (st, Rs.isEv fs, false, false, 0)) from fun st => by
    unfold Rs.ofK
    rw [hnt, hnl, ← htd, ← hld, hI, hNN, hNE])
  obtain ⟨ev, hevq⟩ : ∃ z, Rs.isEv fs = z := ⟨_, rfl⟩
  rw [hevq] at HOK hev
  have HEV := Lib.hid hev
  clear hcb htb hlb hnc hnt hnl hcd htd hld hxb hx2 hx3 hxd hb1 hI hNN hNE hev hevq
  obtain ⟨n, hn⟩ : ∃ n, fs.length = n := ⟨_, rfl⟩
  rw [hn] at HCK GC GT GL ⊢
  have HST := Lib.hid (fun W (h : Below w.heap.size w W) => rs_status fb p n c W (by omega) (hk.below h))
  rw [hfd] at HST
  obtain ⟨W3, hW3⟩ : ∃ W, ((w.alloc (.cells #[.string fb, .slice p n c] 28)).alloc (.cells #[.int .i64 0, .bool false, .bool false, .bool false, .int .u64 0] 31)).alloc (.cells #[.int .i64 0] 40) = W := ⟨_, rfl⟩
  have HB3 := Lib.hid (show Below w.heap.size w W3 by rw [← hW3]; exact (((Below.refl _ _).alloc (Nat.le_refl _) _).alloc (by simp) _).alloc (by simp; omega) _)
  have HZ3 := Lib.hid (show W3.heap.size = B + 3 by rw [← hW3, ← hB]; simp)
  have hH : W3.heap[B]? = some (.cells #[.string fb, .slice p n c] 28 (0, 0)) := by
    rw [← hW3, Below.heap_alloc _ _ _ (by simp; omega), Below.heap_alloc _ _ _ (by simp; omega), ← hB]
    exact World.alloc_heap_new _ _
  have hR : W3.heap[B + 1]? = some (repC rep0) := by
    rw [← hW3, Below.heap_alloc _ _ _ (by simp; omega)]
    have h := World.alloc_heap_new (w.alloc (.cells #[.string fb, .slice p n c] 28)) (.cells #[.int .i64 0, .bool false, .bool false, .bool false, .int .u64 0] 31)
    simpa [hB, repC, rep0] using h
  have hE : W3.heap[B + 2]? = some (.cells #[.int .i64 0] 40 (0, 0)) := by
    have h := World.alloc_heap_new ((w.alloc (.cells #[.string fb, .slice p n c] 28)).alloc (.cells #[.int .i64 0, .bool false, .bool false, .bool false, .int .u64 0] 31)) (.cells #[.int .i64 0] 40)
    rw [hW3] at h
    simpa [hB] using h
  have HHH := Lib.hid hH
  have HRR := Lib.hid hR
  have HEE := Lib.hid hE
  have HBB := Lib.hid hB
  have HW3 := Lib.hid hW3
  have HJ := Lib.hid hj
  have HKR := Lib.hid hk
  have y0 : W3.cell? ⟨B, 0, none⟩ = some (.string fb) := by simp [World.cell?, hH]
  have y1 : W3.cell? ⟨B, 1, none⟩ = some (.slice p n c) := by simp [World.cell?, hH]
  have KC := Lib.hid (HCK.out W3 HB3.out)
  clear hv ho hfb hfd hfz hn hW3 hH hR hE hB hj hk hok hs hF hl
  go_enter_defers Tryz.func13, Tryz.ntmps13
  go_wp2_with fail
  rw [HW3.out, HBB.out]
  refine KC.out.mono ?_
  rintro e w4 ⟨rfl, hb⟩
  have hg4 : w4.heap[B]? = some (.cells #[.string fb, .slice p n c] 28 (0, 0)) := (hb.block _ (by rw [HZ3.out]; omega)).trans HHH.out
  have y2 : w4.cell? ⟨B, 0, none⟩ = some (.string fb) := by simp [World.cell?, hg4]
  have y3 : w4.cell? ⟨B, 1, none⟩ = some (.slice p n c) := by simp [World.cell?, hg4]
  obtain ⟨L, hL⟩ : ∃ z, w4.heap.size = z := ⟨_, rfl⟩
  obtain ⟨w5, hw5⟩ : ∃ z, w4.alloc (.cells #[.string fb, .slice p n c] 78) = z := ⟨_, rfl⟩
  have hl5 : Below w4.heap.size w4 w5 := by rw [← hw5]; exact (Below.refl _ _).alloc (Nat.le_refl _) _
  have HQ5 := Lib.hid (show OfW w w5 B L fb (.slice p n c) rep0 from ⟨(HB3.out.trans (hb.mono HB3.out.size)).trans (hl5.mono (Nat.le_trans HB3.out.size hb.size)), HBB.out, by rw [← hL]; have := hb.size; have := HZ3.out; omega,
    (hl5.block _ (by have := hb.size; have := HZ3.out; omega)).trans ((hb.block _ (by rw [HZ3.out]; omega)).trans HRR.out), (hl5.block _ (by have := hb.size; have := HZ3.out; omega)).trans ((hb.block _ (by rw [HZ3.out]; omega)).trans HEE.out),
    by rw [← hw5, ← hL]; exact World.alloc_heap_new _ _⟩)
  have HW5 := Lib.hid hw5
  have HLL := Lib.hid hL
  have KS := Lib.hid (HST.out w5 HQ5.out.hb)
  have hgl : w5.heap[L]? = some (.cells #[.string fb, .slice p n c] 78 (0, 0)) := HQ5.out.K
  have l0 : w5.cell? ⟨L, 0, none⟩ = some (.string fb) := by simp [World.cell?, hgl]
  have l1 : w5.cell? ⟨L, 1, none⟩ = some (.slice p n c) := by simp [World.cell?, hgl]
  clear hb hg4 hl5 hw5 hL hgl y0 y1 KC
  go_wp2_with fail
  rw [HW5.out, HLL.out]
  refine KS.out.mono ?_
  rintro e w6 ⟨he, hb⟩
  have HQ6 := Lib.hid (HQ5.out.next hb)
  clear hb y2 y3 l0 l1 KS
  have hof : o = (Rs.status F).bind fun st => Rs.ofK st fs := HO.out.symm
  cases hst : Rs.status F with
  | none =>
    rw [hst] at he hof
    subst he
    obtain rfl : o = none := hof
    exact HQ6.out.door _ _ rfl rfl rfl
  | some st =>
    rw [hst] at he hof
    obtain rfl : e = .returned (.int .i64 st) := he
    have HOF := Lib.hid (show o = Rs.ofK st fs from hof)
    clear hof hst
    obtain ⟨w7, hw7⟩ : ∃ z, w6.setCell ⟨B + 1, 0, none⟩ (.int .i64 st) = z := ⟨_, rfl⟩
    have HG := HQ6.out.R
    obtain ⟨r0, r1, r2, r3, r4⟩ := rep_cell HG
    have z0 := rep_free HG 0
    have HQ7 := Lib.hid (show OfW w w7 B L fb (.slice p n c) (st, false, false, false, 0) by rw [← hw7]; exact (show OfW w w6 B L fb (.slice p n c) (0, false, false, false, 0) from HQ6.out).s0 (n := st))
    have HW7 := Lib.hid hw7
    have hgl : w7.heap[L]? = some (.cells #[.string fb, .slice p n c] 78 (0, 0)) := HQ7.out.K
    have l0 : w7.cell? ⟨L, 0, none⟩ = some (.string fb) := by simp [World.cell?, hgl]
    have l1 : w7.cell? ⟨L, 1, none⟩ = some (.slice p n c) := by simp [World.cell?, hgl]
    have KG := Lib.hid (GC.out w7 HQ7.out.hb)
    clear HG hw7 hgl
    go_upto_region 7 with (fail)
    rw [HW7.out]
    go_wp2_with fail
    refine KG.out.mono ?_
    rintro e w8 ⟨rfl, hb⟩
    have HQ8 := Lib.hid (HQ7.out.next hb)
    clear hb r0 r1 r2 r3 r4 z0 l0 l1 KG
    go_wp2_with fail
    refine (TC.out w8).mono ?_
    rintro e w9 ⟨rfl, hb⟩
    have HQ9 := Lib.hid (HQ8.out.next hb)
    clear hb
    go_upto_region 9 with (fail)
    go_cut [] from 13 (fun wx => OfW w wx B L fb (.slice p n c) (st, ev, false, false, 0))
    case first =>
      have HG := HQ9.out.R
      have z1 := rep_free HG 1
      obtain ⟨r0, r1, r2, r3, r4⟩ := rep_cell HG
      clear HG
      by_cases hc1 : nc = 1
      · subst hc1
        go_wp2_with fail
        refine (TS.out w9).mono ?_
        rintro e w10 ⟨rfl, hb⟩
        have HQ10 := Lib.hid (HQ9.out.next hb)
        have HG := HQ10.out.R
        have z2 := rep_free HG 1
        obtain ⟨q0, q1, q2, q3, q4⟩ := rep_cell HG
        clear HG hb
        obtain rfl : ev = b1 := by rw [HEV.out]; simp
        go_wp2_with fail
        go_meet
        exact HQ10.out.s1
      · have hq : ((nc : Int) == 1) = false := beq_eq_false_iff_ne.2 (by omega)
        obtain rfl : ev = false := by rw [HEV.out, decide_eq_false hc1]; rfl
        clear hc1
        go_wp2_with fail
        go_meet
        exact HQ9.out.s1
    case rest =>
      have HQA := Lib.hid hcut
      obtain ⟨wd, rfl⟩ : ∃ z, z = wc := ⟨_, rfl⟩
      have hgl : wd.heap[L]? = some (.cells #[.string fb, .slice p n c] 78 (0, 0)) := HQA.out.K
      have l0 : wd.cell? ⟨L, 0, none⟩ = some (.string fb) := by simp [World.cell?, hgl]
      have l1 : wd.cell? ⟨L, 1, none⟩ = some (.slice p n c) := by simp [World.cell?, hgl]
      have KT := Lib.hid (GT.out wd HQA.out.hb)
      clear hcut hgl TC TS
      go_wp2_with fail
      refine KT.out.mono ?_
      rintro e w10 ⟨rfl, hb⟩
      have HQB := Lib.hid (HQA.out.next hb)
      have hgl : w10.heap[L]? = some (.cells #[.string fb, .slice p n c] 78 (0, 0)) := HQB.out.K
      have l2 : w10.cell? ⟨L, 0, none⟩ = some (.string fb) := by simp [World.cell?, hgl]
      have l3 : w10.cell? ⟨L, 1, none⟩ = some (.slice p n c) := by simp [World.cell?, hgl]
      have KL := Lib.hid (GL.out w10 HQB.out.hb)
      clear hb hgl l0 l1 KT
      go_wp2_with fail
      refine KL.out.mono ?_
      rintro e w11 ⟨rfl, hb⟩
      have HQC := Lib.hid (HQB.out.next hb)
      have HOS := Lib.hid (HOF.out.trans (HOK.out st))
      clear hb l2 l3 KL
      by_cases ht : 0 < nt
      · have hq1 : ((0 : Int) < (nt : Int)) := by omega
        have HT := Lib.hid ht
        clear ht
        go_wp2_with fail
        refine (TI.out w11 (HKR.out.below HQC.out.hb).mx).mono ?_
        rintro e w12 ⟨r, rfl, hr, hb⟩
        obtain ⟨p2, c2, rfl, hrr⟩ := hr
        have HQD := Lib.hid (HQC.out.next hb)
        have HRR2 := Lib.hid hrr
        clear hb hrr hq1
        by_cases h0 : nl = 0
        · subst h0
          by_cases h1 : I.length = 1
          · obtain ⟨g, rfl, hc⟩ := HRR2.out.resolve_left (by omega)
            have hx := hc 0 (by omega)
            obtain ⟨x, hxx⟩ : ∃ x, I.getD 0 [] = x := ⟨_, rfl⟩
            have hmem : x ∈ I := by rw [← hxx, List.getD_eq_getElem?_getD, List.getElem?_eq_getElem (show 0 < I.length by omega)]; exact List.getElem_mem _
            rw [hxx] at hx
            obtain ⟨xc, hxc⟩ : ∃ z : ByteArray, (⟨x.toArray⟩ : ByteArray) = z := ⟨_, rfl⟩
            have hxcd : xc.data.toList = x := by rw [← hxc]
            unfold tx at hx
            rw [hxc] at hx
            have hxcs : xc.size ≤ 5000 := by
              have h1 := HIL.out x hmem
              have h2 : xc.data.toList.length = xc.size := rfl
              have h3 : tb.data.toList.length = tb.size := rfl
              rw [hxcd] at h2
              omega
            have SX := Lib.hid (fun W => SM.out xc W hxcs)
            rw [hxcd] at SX
            obtain ⟨b2, hb2⟩ : ∃ z, (Tp.lower x == Hp.ch) = z := ⟨_, rfl⟩
            rw [hb2] at SX
            have HO2 := Lib.hid (show o = if b2 = true then some (st, ev, true, false, 0) else none by
              rw [HOS.out, if_pos HT.out]
              rw [hxx]
              by_cases hy : Tp.lower x = Hp.ch
              · rw [if_pos ⟨rfl, h1, hy⟩, if_pos (by rw [← hb2]; simpa using hy)]
              · rw [if_neg (fun h => hy h.2.2), if_neg (by rw [← hb2]; simpa using hy)])
            have HH1 := Lib.hid h1
            clear hc hxx hmem hxc hxcd hxcs hb2
            rw [h1]
            clear h1
            go_wp2_with fail
            refine (SX.out w12).mono ?_
            rintro e w13 ⟨rfl, hb⟩
            have HQE := Lib.hid (HQD.out.next hb)
            clear hb hx
            cases b2 with
            | true =>
              have hsome : o = some (st, ev, true, false, 0) := by rw [HO2.out, if_pos rfl]
              go_wp2_with fail
              refine (rs_must 250 _).mono ?_
              rintro e w14 ⟨rfl, hw⟩
              subst hw
              obtain ⟨w15, hw15⟩ : ∃ z, w14.setCell ⟨B + 1, 2, none⟩ (.bool true) = z := ⟨_, rfl⟩
              have HW15 := Lib.hid hw15
              have HQF := Lib.hid (show OfW w w15 B L fb (.slice p n c) (st, ev, true, false, 0) by rw [← hw15]; exact HQE.out.s2)
              have HG := HQE.out.R
              obtain ⟨r0, r1, r2, r3, r4⟩ := rep_cell HG
              have z2 := rep_free HG 2
              clear HG hw15
              go_upto_region 18 with (fail)
              rw [HW15.out]
              clear r0 r1 r2 r3 r4 z2
              have HG := HQF.out.R
              obtain ⟨r0, r1, r2, r3, r4⟩ := rep_cell HG
              have HE := HQF.out.E
              have z0 := rep_free HG 0
              have z1 := rep_free HG 1
              have z2 := rep_free HG 2
              have z3 := rep_free HG 3
              have z4 := rep_free HG 4
              have ze : w15.frozen? ⟨B + 1 + 1, 0, none⟩ = false := frozen_of_row _ _ _ _ _ HE
              have ce : w15.cell? ⟨B + 1 + 1, 0, none⟩ = some (.int .i64 0) := by simp [World.cell?, HE]
              clear HG HE
              go_wp2_with fail
              subst hsome
              exact HQF.out.fin _ rfl rfl
            | false =>
              have hnone : o = none := by rw [HO2.out, if_neg (by decide)]
              go_wp2_with fail
              refine (rs_must_no 250 _).mono ?_
              rintro e w14 ⟨rfl, hw⟩
              subst hw
              exact HQE.out.door _ _ hnone rfl rfl
          · have hq : ((I.length : Int) == 1) = false := beq_eq_false_iff_ne.2 (by omega)
            have hnone : o = none := by rw [HOS.out, if_pos HT.out, if_neg (fun h => h1 h.2.1)]
            clear h1
            go_wp2_with fail
            refine (rs_must_no 250 _).mono ?_
            rintro e w13 ⟨rfl, hw⟩
            subst hw
            exact HQD.out.door _ _ hnone rfl rfl
        · have hq : ((nl : Int) == 0) = false := beq_eq_false_iff_ne.2 (by omega)
          have hnone : o = none := by rw [HOS.out, if_pos HT.out, if_neg (fun h => h0 h.1)]
          clear h0
          go_wp2_with fail
          refine (rs_must_no 250 _).mono ?_
          rintro e w13 ⟨rfl, hw⟩
          subst hw
          exact HQD.out.door _ _ hnone rfl rfl
      · obtain rfl : nt = 0 := by omega
        clear ht
        by_cases hl2 : 0 < nl
        · have hq2 : ((0 : Int) < (nl : Int)) := by omega
          have HO2 := Lib.hid (show o = if nl = 1 ∧ NE = 0 then some (st, ev, false, true, NN) else none by rw [HOS.out, if_neg (by omega), if_pos hl2])
          have KO := LO.out w11
          obtain ⟨no, hno⟩ : ∃ z, (if nl = 1 ∧ NE = 0 then some NN else none) = z := ⟨_, rfl⟩
          have KO2 : Calls Tryz.prog 41 #[.int .i64 nl, .string lb, .func (.func 42) #[] #[]] w11 fun e w' => e = loOut no ∧ Below w11.heap.size w11 w' := by
            refine KO.mono ?_
            rintro e w' ⟨he, hb⟩
            refine ⟨?_, hb⟩
            rw [he, ← hno]
            by_cases hy : nl = 1 ∧ NE = 0
            · rw [if_pos hy, if_pos ⟨by omega, hy.2⟩]; rfl
            · rw [if_neg hy, if_neg (fun h => hy ⟨by omega, h.2⟩)]; rfl
          have HK2 := Lib.hid KO2
          have HO3 := Lib.hid (show o = no.map fun x => (st, ev, false, true, x) by
            rw [HO2.out, ← hno]
            by_cases hy : nl = 1 ∧ NE = 0
            · rw [if_pos hy, if_pos hy]; rfl
            · rw [if_neg hy, if_neg hy]; rfl)
          clear KO KO2 hno hl2
          go_wp2_with fail
          refine HK2.out.mono ?_
          rintro e w12 ⟨he, hb⟩
          have HQD := Lib.hid (HQC.out.next hb)
          clear hb
          cases no with
          | none =>
            obtain rfl : e = rsNo := he
            exact HQD.out.door _ _ HO3.out rfl rfl
          | some x =>
            obtain rfl : e = .returned (.int .u64 x) := he
            have hsome : o = some (st, ev, false, true, x) := HO3.out
            obtain ⟨w15, hw15⟩ : ∃ z, (w12.setCell ⟨B + 1, 3, none⟩ (.bool true)).setCell ⟨B + 1, 4, none⟩ (.int .u64 x) = z := ⟨_, rfl⟩
            have HW15 := Lib.hid hw15
            have HQF := Lib.hid (show OfW w w15 B L fb (.slice p n c) (st, ev, false, true, x) by rw [← hw15]; exact HQD.out.s3.s4)
            have HG := HQD.out.R
            obtain ⟨r0, r1, r2, r3, r4⟩ := rep_cell HG
            have z3 := rep_free HG 3
            have z4 := rep_free HG 4
            clear HG hw15
            go_upto_region 18 with (fail)
            rw [HW15.out]
            clear r0 r1 r2 r3 r4 z3 z4
            have HG := HQF.out.R
            obtain ⟨r0, r1, r2, r3, r4⟩ := rep_cell HG
            have HE := HQF.out.E
            have z0 := rep_free HG 0
            have z1 := rep_free HG 1
            have z2 := rep_free HG 2
            have z3 := rep_free HG 3
            have z4 := rep_free HG 4
            have ze : w15.frozen? ⟨B + 1 + 1, 0, none⟩ = false := frozen_of_row _ _ _ _ _ HE
            have ce : w15.cell? ⟨B + 1 + 1, 0, none⟩ = some (.int .i64 0) := by simp [World.cell?, HE]
            clear HG HE
            go_wp2_with fail
            subst hsome
            exact HQF.out.fin _ rfl rfl
        · obtain rfl : nl = 0 := by omega
          clear hl2
          have hsome : o = some (st, ev, false, false, 0) := by rw [HOS.out, if_neg (by omega), if_neg (by omega)]
          have HQF := Lib.hid HQC.out
          have HG := HQF.out.R
          obtain ⟨r0, r1, r2, r3, r4⟩ := rep_cell HG
          have HE := HQF.out.E
          have z0 := rep_free HG 0
          have z1 := rep_free HG 1
          have z2 := rep_free HG 2
          have z3 := rep_free HG 3
          have z4 := rep_free HG 4
          have ze : w11.frozen? ⟨B + 1 + 1, 0, none⟩ = false := frozen_of_row _ _ _ _ _ HE
          have ce : w11.cell? ⟨B + 1 + 1, 0, none⟩ = some (.int .i64 0) := by simp [World.cell?, HE]
          clear HG HE
          go_wp2_with fail
          subst hsome
          exact HQF.out.fin _ rfl rfl
theorem rs_Of (F : List UInt8) (v : Value) (fs : List Hp.Hd) (w : World) (hv : HS w v fs) (hok : Hp.HOk F fs) (hF : F.length ≤ 100000) (hl : fs.length ≤ 1000) (hs : ∀ f ∈ fs, f.1.length ≤ 100000 ∧ f.2.length ≤ 100000)
    (hj : (Rs.joined Hp.ct fs).length ≤ 500 ∧ (Rs.joined Hp.te fs).length ≤ 500 ∧ (Rs.joined Hp.cl fs).length ≤ 500) (hk : KR w) :
    Calls Tryz.prog 13 #[.agg #[Hp.sx F, v]] w fun e w' => e = ofOut (Rs.of F fs) ∧ Below w.heap.size w w' :=
  rs_OfL F v fs w hv hok hF hl hs ⟨by omega, by omega, by omega⟩ hk
end Go.Proofs.YtheaichiglfmjaaGreatDoor

/- A number's digits, read back, are that number: with noughts ahead, or in capitals, too. No program in sight. -/
namespace Go.Proofs.YtheaichiglfmjaaGreatDoor
set_option linter.unusedVariables false
set_option linter.unusedSimpArgs false
namespace Dp
theorem rd_append (b : Int) : ∀ (l r : List UInt8) (n : Int), (rd b l n).2 = 0 → rd b (l ++ r) n = rd b r (rd b l n).1
  | [], r, n, _ => rfl
  | c :: l, r, n, h => by
    simp only [rd, List.cons_append] at h ⊢
    by_cases h1 : mulE n b ≠ 0
    · rw [if_pos h1] at h; simp at h
    · rw [if_neg h1] at h ⊢
      by_cases h2 : addE (mulN n b) (digV c.toNat) ≠ 0
      · rw [if_pos h2] at h; simp at h
      · rw [if_neg h2] at h ⊢
        rw [rd_append b l r _ h, if_neg h1, if_neg h2]
theorem rd_one {b n : Int} {c : UInt8} (h0 : 0 ≤ n * b) (h : n * b + digV c.toNat < 18446744073709551616) : rd b [c] n = (n * b + digV c.toNat, 0) := by
  have hd := digV_lo (c.toNat : Int)
  have e1 : mulE n b = 0 := by unfold mulE; rw [if_pos (by omega)]
  have e2 : mulN n b = n * b := by unfold mulN; rw [if_pos (by omega)]
  have e3 : addE (n * b) (digV c.toNat) = 0 := by unfold addE; rw [if_pos h]
  have e4 : addN (n * b) (digV c.toNat) = n * b + digV c.toNat := by unfold addN; rw [if_pos h]
  simp only [rd]
  rw [if_neg (by rw [e1]; decide), e2, if_neg (by rw [e3]; decide), e4]
theorem dg_val : ∀ i : Fin 16, digV ((dg i.val).toNat : Int) = i.val := by decide +kernel
/-- digits that f turns into digits of the same value -/
theorem rd_digs {b : Nat} (hb : 2 ≤ b) (hb' : b ≤ 16) (f : UInt8 → UInt8) (hf : ∀ i : Fin 16, digV ((f (dg i.val)).toNat : Int) = i.val) :
    ∀ n : Nat, n < 18446744073709551616 → rd b ((digs b n).map f) 0 = ((n : Int), 0) := by
  intro n
  induction n using Nat.strongRecOn with
  | _ n ih =>
    intro hn
    by_cases h : n < b
    · rw [digs_lt h]
      have h1 := hf ⟨n, by omega⟩
      have h2 := rd_one (b := b) (n := 0) (c := f (dg n)) (by simp) (by rw [h1]; simp; omega)
      rw [h1] at h2
      simpa using h2
    · rw [digs_ge hb h, List.map_append]
      have hlt : n / b < n := Nat.div_lt_self (by omega) (by omega)
      have h3 := ih (n / b) hlt (by omega)
      have hm : n % b < b := Nat.mod_lt _ (by omega)
      have h1 := hf ⟨n % b, by omega⟩
      have hq : ((n / b : Nat) : Int) * (b : Int) + ((n % b : Nat) : Int) = (n : Int) := by
        have := Nat.div_add_mod n b
        rw [Nat.mul_comm] at this
        exact_mod_cast this
      have h2 := rd_one (b := b) (n := ((n / b : Nat) : Int)) (c := f (dg (n % b))) (Int.mul_nonneg (Int.natCast_nonneg _) (Int.natCast_nonneg _)) (by rw [h1]; simp only; rw [hq]; omega)
      rw [h1] at h2
      simp only at h2
      rw [hq] at h2
      rw [rd_append _ _ _ _ (by rw [h3]), h3]
      exact h2
theorem all_digs {b : Nat} (hb : 2 ≤ b) (hb' : b ≤ 16) (f : UInt8 → UInt8) (hf : ∀ i : Fin 16, digV ((f (dg i.val)).toNat : Int) = i.val) :
    ∀ n : Nat, allD b ((digs b n).map f) = true := by
  intro n
  induction n using Nat.strongRecOn with
  | _ n ih =>
    by_cases h : n < b
    · rw [digs_lt h]
      have h1 := hf ⟨n, by omega⟩
      simp only at h1
      simp [allD, h1]; omega
    · rw [digs_ge hb h, List.map_append]
      have hlt : n / b < n := Nat.div_lt_self (by omega) (by omega)
      have h3 := ih (n / b) hlt
      have hm : n % b < b := Nat.mod_lt _ (by omega)
      have h1 := hf ⟨n % b, by omega⟩
      simp only at h1
      unfold allD at h3 ⊢
      rw [List.all_append, h3]
      simp [h1]; omega
theorem num_map {b : Nat} (hb : 2 ≤ b) (hb' : b ≤ 16) (f : UInt8 → UInt8) (hf : ∀ i : Fin 16, digV ((f (dg i.val)).toNat : Int) = i.val) (n : Nat) (hn : n < 18446744073709551616) :
    numN b ((digs b n).map f) = n ∧ numE b ((digs b n).map f) = 0 := by
  have h1 := all_digs hb hb' f hf n
  have h2 := rd_digs hb hb' f hf n hn
  have h3 : ¬ ((digs b n).map f = [] ∨ allD b ((digs b n).map f) = false) := by
    rw [h1]
    have := digs_ne b n
    simpa using this
  unfold numN numE
  rw [if_neg h3, if_neg h3, h2]
  exact ⟨rfl, rfl⟩
theorem num_digs {b : Nat} (hb : 2 ≤ b) (hb' : b ≤ 16) (n : Nat) (hn : n < 18446744073709551616) : numN b (digs b n) = n ∧ numE b (digs b n) = 0 := by
  have := num_map hb hb' id (fun i => dg_val i) n hn
  rwa [List.map_id] at this
theorem digs_head {b : Nat} (hb : 2 ≤ b) (hb' : b ≤ 16) : ∀ n : Nat, 1 ≤ n → (digs b n).head? ≠ some 48 := by
  intro n
  induction n using Nat.strongRecOn with
  | _ n ih =>
    intro h1
    by_cases h : n < b
    · rw [digs_lt h]
      have : ∀ i : Fin 16, 1 ≤ i.val → dg i.val ≠ 48 := by decide +kernel
      intro e
      exact this ⟨n, by omega⟩ h1 (by simpa using e)
    · rw [digs_ge hb h]
      have hlt : n / b < n := Nat.div_lt_self (by omega) (by omega)
      have hp : 1 ≤ n / b := (Nat.le_div_iff_mul_le (by omega)).2 (by omega)
      have h3 := ih (n / b) hlt hp
      have h4 := digs_ne b (n / b)
      cases hd : digs b (n / b) with
      | nil => exact absurd hd h4
      | cons c l => rw [hd] at h3; exact h3
theorem par_digs (n : Nat) (hn : n < 18446744073709551616) : parN (digs 10 n) = n ∧ parE (digs 10 n) = 0 := by
  have h := num_digs (b := 10) (by omega) (by omega) n hn
  have h2 : ¬ (1 < (digs 10 n).length ∧ (digs 10 n).head? = some 48) := by
    rintro ⟨h1, h2⟩
    by_cases h0 : 1 ≤ n
    · exact digs_head (b := 10) (by omega) (by omega) n h0 h2
    · rw [digs_lt (by omega)] at h1
      simp at h1
  unfold parN parE
  rw [if_neg h2, if_neg h2]
  exact h
theorem rd_noughts (b : Int) (l : List UInt8) : ∀ k, rd b (List.replicate k 48 ++ l) 0 = rd b l 0
  | 0 => rfl
  | k + 1 => by
    have e1 : mulE 0 b = 0 := by unfold mulE; rw [if_pos (by omega)]
    have e2 : mulN 0 b = 0 := by unfold mulN; rw [if_pos (by omega)]; omega
    have e5 : digV (((48 : UInt8).toNat : Nat) : Int) = 0 := by decide
    have e3 : addE 0 0 = 0 := by decide
    have e4 : addN 0 0 = 0 := by decide
    rw [List.replicate_succ, List.cons_append]
    show (if mulE 0 b ≠ 0 then _ else _) = _
    rw [if_neg (by rw [e1]; decide), e2, e5, if_neg (by rw [e3]; decide), e4]
    exact rd_noughts b l k
theorem num_noughts (l : List UInt8) (k : Nat) (h0 : l ≠ []) (ha : allD 10 l = true) : numN 10 (List.replicate k 48 ++ l) = numN 10 l ∧ numE 10 (List.replicate k 48 ++ l) = numE 10 l := by
  have h1 : allD 10 (List.replicate k 48 ++ l) = true := by
    unfold allD at ha ⊢
    rw [List.all_append, ha, Bool.and_true, List.all_eq_true]
    intro c hc
    have := List.eq_of_mem_replicate hc
    subst this
    decide
  have h2 : ¬ (List.replicate k 48 ++ l = [] ∨ allD 10 (List.replicate k 48 ++ l) = false) := by
    rw [h1]; simp [h0]
  have h3 : ¬ (l = [] ∨ allD 10 l = false) := by rw [ha]; simp [h0]
  unfold numN numE
  rw [if_neg h2, if_neg h2, if_neg h3, if_neg h3, rd_noughts]
  exact ⟨rfl, rfl⟩
theorem digs_noughts (n k : Nat) (hn : n < 18446744073709551616) : numN 10 (List.replicate k 48 ++ digs 10 n) = n ∧ numE 10 (List.replicate k 48 ++ digs 10 n) = 0 := by
  have h := num_noughts (digs 10 n) k (digs_ne 10 n) (by have := all_digs (b := 10) (by omega) (by omega) id (fun i => dg_val i) n; rwa [List.map_id] at this)
  have h2 := num_digs (b := 10) (by omega) (by omega) n hn
  rw [h.1, h.2]
  exact h2
theorem digs_length_le {b : Nat} (hb : 2 ≤ b) : ∀ (k n : Nat), n < b ^ k → 1 ≤ k → (digs b n).length ≤ k
  | 0, n, _, h => absurd h (by omega)
  | k + 1, n, h, _ => by
    by_cases hl : n < b
    · rw [digs_lt hl]; simp
    · rw [digs_ge hb hl, List.length_append]
      have h1 : n / b < b ^ k := by rw [Nat.div_lt_iff_lt_mul (by omega)]; rwa [← Nat.pow_succ]
      have hk : 1 ≤ k := by
        cases k with
        | zero => exact absurd h (by simpa using hl)
        | succ k => omega
      have := digs_length_le hb k (n / b) h1 hk
      simp; omega
end Dp
end Go.Proofs.YtheaichiglfmjaaGreatDoor

/- The reference's texts of a number are its digits. -/
namespace Go.Proofs.YtheaichiglfmjaaGreatDoor
set_option linter.unusedVariables false
set_option linter.unusedSimpArgs false
open Go.RowKit
set_option maxHeartbeats 1000000
theorem hex_slice (r : Nat) (h : r < 16) (w : World) : (Instr.slice 9 (.string ⟨#[48, 49, 50, 51, 52, 53, 54, 55, 56, 57, 97, 98, 99, 100, 101, 102]⟩) (some (.int .u64 (r : Int))) (some (.int .u64 ((r : Int) + 1))) none).run Tryz.prog w = .ok (.string ⟨#[Dp.dg r]⟩) w :=
  match r, h with
  | 0, _ => by kernel_rfl
  | 1, _ => by kernel_rfl
  | 2, _ => by kernel_rfl
  | 3, _ => by kernel_rfl
  | 4, _ => by kernel_rfl
  | 5, _ => by kernel_rfl
  | 6, _ => by kernel_rfl
  | 7, _ => by kernel_rfl
  | 8, _ => by kernel_rfl
  | 9, _ => by kernel_rfl
  | 10, _ => by kernel_rfl
  | 11, _ => by kernel_rfl
  | 12, _ => by kernel_rfl
  | 13, _ => by kernel_rfl
  | 14, _ => by kernel_rfl
  | 15, _ => by kernel_rfl
  | n + 16, h => absurd h (by omega)
theorem cons_bytes (c : UInt8) (l : List UInt8) : ((⟨#[c]⟩ : ByteArray) ++ ⟨l.toArray⟩) = ⟨(c :: l).toArray⟩ := by
  apply ByteArray.ext
  rw [ByteArray.data_append]
  simp
set_option maxRecDepth 100000 in
theorem ref_told10 (u : Nat) (hu : u < 18446744073709551616) (w : World) :
    Calls Tryz.prog 72 #[.int .u64 (u : Int), .int .u64 10] w fun e w' => e = .returned (.string ⟨(Dp.digs 10 u).toArray⟩) ∧ w = w' := by
  have HS := Lib.hid (fun r (h : r < 16) => hex_slice r h w)
  go_enter Tryz.func72, Tryz.ntmps72
  go_wp2_with fail
  go_loop [0, 5] (fun n s => ∃ (m : Nat) (l : List UInt8), n = .int .u64 m ∧ s = .string ⟨l.toArray⟩ ∧ m < 18446744073709551616 ∧ Hid (Dp.digs 10 u = Dp.digs 10 m ++ l)) (fun n _ => (intOf n).toNat)
  case atStart => exact ⟨u, [], rfl, rfl, hu, Lib.hid (by rw [List.append_nil])⟩
  case round =>
    obtain ⟨m, l, rfl, rfl, hm, HD⟩ := hrel
    have hl : l.length ≤ 20 := by
      have h1 := congrArg List.length HD.out
      have h2 := Dp.digs_length_le (b := 10) (by omega) 20 u (by omega) (by omega)
      rw [List.length_append] at h1
      omega
    obtain ⟨r, hr⟩ : ∃ r : Nat, m % 10 = r := ⟨_, rfl⟩
    obtain ⟨q, hq⟩ : ∃ r : Nat, m / 10 = r := ⟨_, rfl⟩
    have er : (m : Int) % 10 = (r : Int) := by rw [← hr]; rfl
    have eq : (m : Int) / 10 = (q : Int) := by rw [← hq]; rfl
    have hr16 : r < 16 := by omega
    have hs := HS.out r hr16
    have HR := Lib.hid hr
    have HQ := Lib.hid hq
    have HQM := Lib.hid (show q ≤ m by rw [← hq]; exact Nat.div_le_self _ _)
    clear hr hq
    obtain ⟨y, hy⟩ : ∃ y : ByteArray, (⟨#[Dp.dg r]⟩ : ByteArray) ++ ⟨l.toArray⟩ = y := ⟨_, rfl⟩
    have HY := Lib.hid hy
    by_cases h0 : q = 0
    · subst h0
      go_wp2
      go_ret
      have h1 := HQ.out
      have h2 := HR.out
      refine ⟨ret_str ?_, rfl⟩
      rw [HD.out, ← HY.out, cons_bytes, Dp.digs_lt (by omega), show m = r by omega]
      rfl
    · go_wp2
      go_round
      case rel =>
        have h1 := HQ.out
        refine ⟨q, Dp.dg r :: l, rfl, by rw [← HY.out, cons_bytes], by have := HQM.out; omega, Lib.hid ?_⟩
        rw [HD.out, Dp.digs_ge (by omega) (by omega), HR.out, HQ.out, List.append_assoc]
        rfl
      case measure => have h1 := HQ.out; simp [intOf]; omega
set_option maxRecDepth 100000 in
theorem ref_told16 (u : Nat) (hu : u < 18446744073709551616) (w : World) :
    Calls Tryz.prog 72 #[.int .u64 (u : Int), .int .u64 16] w fun e w' => e = .returned (.string ⟨(Dp.digs 16 u).toArray⟩) ∧ w = w' := by
  have HS := Lib.hid (fun r (h : r < 16) => hex_slice r h w)
  go_enter Tryz.func72, Tryz.ntmps72
  go_wp2_with fail
  go_loop [0, 5] (fun n s => ∃ (m : Nat) (l : List UInt8), n = .int .u64 m ∧ s = .string ⟨l.toArray⟩ ∧ m < 18446744073709551616 ∧ Hid (Dp.digs 16 u = Dp.digs 16 m ++ l)) (fun n _ => (intOf n).toNat)
  case atStart => exact ⟨u, [], rfl, rfl, hu, Lib.hid (by rw [List.append_nil])⟩
  case round =>
    obtain ⟨m, l, rfl, rfl, hm, HD⟩ := hrel
    have hl : l.length ≤ 20 := by
      have h1 := congrArg List.length HD.out
      have h2 := Dp.digs_length_le (b := 16) (by omega) 16 u (by omega) (by omega)
      rw [List.length_append] at h1
      omega
    obtain ⟨r, hr⟩ : ∃ r : Nat, m % 16 = r := ⟨_, rfl⟩
    obtain ⟨q, hq⟩ : ∃ r : Nat, m / 16 = r := ⟨_, rfl⟩
    have er : (m : Int) % 16 = (r : Int) := by rw [← hr]; rfl
    have eq : (m : Int) / 16 = (q : Int) := by rw [← hq]; rfl
    have hr16 : r < 16 := by omega
    have hs := HS.out r hr16
    have HR := Lib.hid hr
    have HQ := Lib.hid hq
    have HQM := Lib.hid (show q ≤ m by rw [← hq]; exact Nat.div_le_self _ _)
    clear hr hq
    obtain ⟨y, hy⟩ : ∃ y : ByteArray, (⟨#[Dp.dg r]⟩ : ByteArray) ++ ⟨l.toArray⟩ = y := ⟨_, rfl⟩
    have HY := Lib.hid hy
    by_cases h0 : q = 0
    · subst h0
      go_wp2
      go_ret
      have h1 := HQ.out
      have h2 := HR.out
      refine ⟨ret_str ?_, rfl⟩
      rw [HD.out, ← HY.out, cons_bytes, Dp.digs_lt (by omega), show m = r by omega]
      rfl
    · go_wp2
      go_round
      case rel =>
        have h1 := HQ.out
        refine ⟨q, Dp.dg r :: l, rfl, by rw [← HY.out, cons_bytes], by have := HQM.out; omega, Lib.hid ?_⟩
        rw [HD.out, Dp.digs_ge (by omega) (by omega), HR.out, HQ.out, List.append_assoc]
        rfl
      case measure => have h1 := HQ.out; simp [intOf]; omega
theorem ref_text (u : Nat) (hu : u < 18446744073709551616) (w : World) :
    Calls Tryz.prog 46 #[.int .u64 (u : Int)] w fun e w' => e = .returned (.string ⟨(Dp.digs 10 u).toArray⟩) ∧ w = w' := by
  have K := Lib.hid (ref_told10 u hu w)
  clear hu
  go_enter Tryz.func46, Tryz.ntmps46
  go_wp2_with fail
  refine K.out.mono ?_
  rintro e w' ⟨rfl, rfl⟩
  go_wp2
  go_ret
  exact ⟨rfl, rfl⟩
end Go.Proofs.YtheaichiglfmjaaGreatDoor

/- response: names, Name, the reference's; a number's text, both. No conditions but those that each law states. -/
namespace Go.Proofs.YtheaichiglfmjaaGreatDoor
set_option linter.unusedVariables false
set_option linter.unusedSimpArgs false
open Go.RowKit Go.Shelf
set_option maxHeartbeats 4000000
set_option maxRecDepth 100000
/-- what a kind is called -/
def Rs.name (k : Int) : Value := if k = 1 then .string ⟨#[115, 116, 114, 101, 97, 109]⟩ else if k = 2 then .string ⟨#[115, 116, 111, 112]⟩ else if k = 3 then .string ⟨#[97, 103, 97, 105, 110]⟩ else .string ⟨#[]⟩
theorem rs_names (w : World) : Calls Tryz.prog 47 #[] w fun e w' => e = .returned (.agg #[.string ⟨#[]⟩, .string ⟨#[115, 116, 114, 101, 97, 109]⟩, .string ⟨#[115, 116, 111, 112]⟩, .string ⟨#[97, 103, 97, 105, 110]⟩]) ∧ Below w.heap.size w w' := by
  go_enter Tryz.func47, Tryz.ntmps47
  go_wp2_with fail
  simp [bodyPost, results, Tryz.results47, go_sem]
  exact (Below.refl _ _).alloc (Nat.le_refl _) _
theorem rs_itoa (n : Nat) (hn : n ≤ 1000000) (w : World) (ht : Tabs w) : Calls Tryz.prog 30 #[.int .i64 (n : Int)] w fun e w' => e = .returned (.string ⟨(Dp.digs 10 n).toArray⟩) ∧ Below w.heap.size w w' := by
  refine (Tryz.strconv_Itoa (n : Int) (by omega) (by omega) w ht.2).mono ?_
  rintro e w' ⟨rfl, k, os, rfl⟩
  refine ⟨?_, Lib.below_grow _ w (Nat.le_refl _) k os⟩
  unfold Lib.itoa
  rw [if_neg (by omega), ← Dp.dec_digs]
  rfl
theorem rs_Name (k : Int) (w : World) : Calls Tryz.prog 18 #[.int .i64 k] w fun e w' => e = .returned (Rs.name k) ∧ Below w.heap.size w w' := by
  have KN := Lib.hid (rs_names w)
  by_cases h0 : 0 < k
  · by_cases h1 : k < 4
    · rcases (show k = 1 ∨ k = 2 ∨ k = 3 by omega) with rfl | rfl | rfl
      all_goals
        go_enter Tryz.func18, Tryz.ntmps18
        go_wp2_with fail
        refine KN.out.mono ?_
        rintro e w1 ⟨rfl, hb⟩
        have HB := Lib.hid (hb.alloc hb.size (.cells #[.string ⟨#[]⟩, .string ⟨#[115, 116, 114, 101, 97, 109]⟩, .string ⟨#[115, 116, 111, 112]⟩, .string ⟨#[97, 103, 97, 105, 110]⟩] 88))
        clear hb
        go_wp2_with fail
        go_ret
        exact ⟨rfl, HB.out⟩
    · have hn : Rs.name k = .string ⟨#[]⟩ := by unfold Rs.name; rw [if_neg (by omega), if_neg (by omega), if_neg (by omega)]
      rw [hn]
      clear hn
      go_enter Tryz.func18, Tryz.ntmps18
      go_wp2_with fail
      refine KN.out.mono ?_
      rintro e w1 ⟨rfl, hb⟩
      have HB := Lib.hid (hb.alloc hb.size (.cells #[.string ⟨#[]⟩, .string ⟨#[115, 116, 114, 101, 97, 109]⟩, .string ⟨#[115, 116, 111, 112]⟩, .string ⟨#[97, 103, 97, 105, 110]⟩] 88))
      clear hb
      go_wp2_with fail
      go_ret
      exact ⟨rfl, HB.out⟩
  · have hn : Rs.name k = .string ⟨#[]⟩ := by unfold Rs.name; rw [if_neg (by omega), if_neg (by omega), if_neg (by omega)]
    rw [hn]
    clear hn
    go_enter Tryz.func18, Tryz.ntmps18
    go_wp2_with fail
    refine KN.out.mono ?_
    rintro e w1 ⟨rfl, hb⟩
    have HB := Lib.hid (hb.alloc hb.size (.cells #[.string ⟨#[]⟩, .string ⟨#[115, 116, 114, 101, 97, 109]⟩, .string ⟨#[115, 116, 111, 112]⟩, .string ⟨#[97, 103, 97, 105, 110]⟩] 88))
    clear hb
    go_wp2_with fail
    go_ret
    exact ⟨rfl, HB.out⟩
theorem ref_Name15 (k : Int) (w : World) : Calls Tryz.prog 19 #[.int .i64 k] w fun e w' => e = .returned (Rs.name k) ∧ Below w.heap.size w w' := by
  have HB := Lib.hid ((Below.refl w.heap.size w).alloc (Nat.le_refl _) (.cells #[.string ⟨#[115, 116, 114, 101, 97, 109]⟩, .string ⟨#[115, 116, 111, 112]⟩, .string ⟨#[97, 103, 97, 105, 110]⟩] 9))
  by_cases h0 : k < 1
  · have hn : Rs.name k = .string ⟨#[]⟩ := by unfold Rs.name; rw [if_neg (by omega), if_neg (by omega), if_neg (by omega)]
    rw [hn]
    clear hn
    go_enter Tryz.func19, Tryz.ntmps19
    go_wp2_with fail
    go_ret
    exact ⟨rfl, Below.refl _ _⟩
  · by_cases h1 : 3 < k
    · have hn : Rs.name k = .string ⟨#[]⟩ := by unfold Rs.name; rw [if_neg (by omega), if_neg (by omega), if_neg (by omega)]
      rw [hn]
      clear hn
      go_enter Tryz.func19, Tryz.ntmps19
      go_wp2_with fail
      go_ret
      exact ⟨rfl, Below.refl _ _⟩
    · rcases (show k = 1 ∨ k = 2 ∨ k = 3 by omega) with rfl | rfl | rfl
      all_goals
        clear h0 h1
        go_enter Tryz.func19, Tryz.ntmps19
        go_wp2_with fail
        go_ret
        exact ⟨rfl, HB.out⟩
end Go.Proofs.YtheaichiglfmjaaGreatDoor
