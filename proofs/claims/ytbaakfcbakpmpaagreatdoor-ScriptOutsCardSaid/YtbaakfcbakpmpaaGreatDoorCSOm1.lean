/- Texts of this claim, one behind the other: RA, Uk, Ul, Um, Uo, LSO. -/
import Derived.Test.YtbaakfcbakpmpaaGreatDoorUjm1
import Derived.Laws.OwnMore
import Derived.Test.YtbaakfcbakpmpaaGreatDoorUjm7
import Derived.WideShapes
import Derived.ChangeSlices
import Derived.OpenShut
import Derived.Deep.Cut
import Derived.Deep.DeepCutAuto
/- Slices of things of m cells each, wherever they lie: read, copied from, owned. No conditions but those that each law states. -/
namespace Go.Proofs.YtbaakfcbakpmpaaGreatDoor
set_option linter.unusedVariables false
set_option linter.unusedSimpArgs false
open Go.RowKit
set_option maxHeartbeats 4000000
set_option maxRecDepth 100000
section
variable {α : Type}
/-- a slice of such things: f tells a thing's cells -/
def Rin (f : α → List Value) (m : Nat) (d : α) (w : World) (v : Value) (qs : List α) : Prop := ∃ p c, v = .slice p qs.length c ∧ (qs.length = 0 ∨ ∃ g o, p = some ⟨g, o, none⟩ ∧ ∀ j, j < qs.length → ∀ i x, (f (qs.getD j d))[i]? = some x → w.cell? ⟨g, o + j * m + i, none⟩ = some x)
theorem Rin.below {f : α → List Value} {m : Nat} {d : α} {w w' : World} {v : Value} {qs : List α} (h : Rin f m d w v qs) (hb : Below w.heap.size w w') : Rin f m d w' v qs := by
  obtain ⟨p, c, h1, h2⟩ := h
  exact ⟨p, c, h1, h2.imp id (fun ⟨g, o, a1, a2⟩ => ⟨g, o, a1, fun j hj i x hx => cell_below hb (a2 j hj i x hx)⟩)⟩
theorem Rin.slice {f : α → List Value} {m : Nat} {d : α} {w : World} {v : Value} {qs : List α} (h : Rin f m d w v qs) : ∃ p c, v = .slice p qs.length c := by
  obtain ⟨p, c, h1, _⟩ := h
  exact ⟨p, c, h1⟩
theorem Rin.nil {f : α → List Value} {m : Nat} {d : α} (w : World) : Rin f m d w (.slice none 0 0) [] := ⟨none, 0, rfl, .inl rfl⟩
/-- the j-th thing's cells -/
theorem Rin.at {f : α → List Value} {m : Nat} {d : α} {w : World} {v : Value} {qs : List α} (h : Rin f m d w v qs) {j : Nat} (hj : j < qs.length) :
    ∃ g o c, v = .slice (some ⟨g, o, none⟩) qs.length c ∧ ∀ i x, (f (qs.getD j d))[i]? = some x → w.cell? ⟨g, o + j * m + i, none⟩ = some x := by
  obtain ⟨p, c, rfl, h2⟩ := h
  rcases h2 with h2 | ⟨g, o, rfl, h2⟩
  · omega
  · exact ⟨g, o, c, rfl, h2 j hj⟩
theorem flat_len (f : α → List Value) (m : Nat) (hf : ∀ q, (f q).length = m) (qs : List α) : (qs.flatMap f).length = qs.length * m := by
  induction qs with
  | nil => simp
  | cons q qs ih => rw [List.flatMap_cons, List.length_append, ih, hf, List.length_cons, Nat.add_mul]; omega
theorem flat_get (f : α → List Value) (m : Nat) (d : α) (hf : ∀ q, (f q).length = m) : ∀ (qs : List α) (j i : Nat) (x : Value), j < qs.length → i < m → (f (qs.getD j d))[i]? = some x → (qs.flatMap f)[j * m + i]? = some x
  | [], j, i, x, hj, _, _ => by simp at hj
  | q :: qs, 0, i, x, hj, hi, hx => by
    rw [List.flatMap_cons, List.getElem?_append_left (by rw [hf]; omega), Nat.zero_mul, Nat.zero_add]
    exact hx
  | q :: qs, j + 1, i, x, hj, hi, hx => by
    rw [List.flatMap_cons, List.getElem?_append_right (by rw [hf, Nat.add_mul]; omega), hf, show (j + 1) * m + i - m = j * m + i by rw [Nat.add_mul]; omega]
    exact flat_get f m d hf qs j i x (by simpa using hj) hi hx
theorem flat_at (f : α → List Value) (m : Nat) (d : α) (hf : ∀ q, (f q).length = m) (hm : 0 < m) {qs : List α} {k : Nat} {u : Value} (h : (qs.flatMap f)[k]? = some u) : ∃ j i, k = j * m + i ∧ j < qs.length ∧ i < m ∧ (f (qs.getD j d))[i]? = some u := by
  have hlt : k < qs.length * m := by rw [← flat_len f m hf]; exact (List.getElem?_eq_some_iff.1 h).1
  have hj : k / m < qs.length := (Nat.div_lt_iff_lt_mul hm).2 hlt
  have hi : k % m < m := Nat.mod_lt _ hm
  have hk : k / m * m + k % m = k := by rw [Nat.mul_comm]; exact Nat.div_add_mod k m
  refine ⟨k / m, k % m, hk.symm, hj, hi, ?_⟩
  obtain ⟨y, hy⟩ : ∃ y, (f (qs.getD (k / m) d))[k % m]? = some y := ⟨_, List.getElem?_eq_getElem (by rw [hf]; exact hi)⟩
  have h2 := flat_get f m d hf qs (k / m) (k % m) y hj hi hy
  rw [hk, h] at h2
  cases h2
  exact hy
/-- as the source of an append -/
theorem Rin.src {f : α → List Value} {m : Nat} {d : α} (hf : ∀ q, (f q).length = m) (hm : 0 < m) {w : World} {v : Value} {qs : List α} (h : Rin f m d w v qs) : ∃ p c, v = .slice p qs.length c ∧ (qs.length = 0 ∨ ∃ ad, p = some ad ∧ ∀ j u, (qs.flatMap f)[j]? = some u → w.cell? (ad.add j) = some u) := by
  obtain ⟨p, c, h1, h2⟩ := h
  refine ⟨p, c, h1, h2.imp id (fun ⟨g, o, a1, a2⟩ => ⟨_, a1, fun k u hk => ?_⟩)⟩
  obtain ⟨j, i, rfl, hj, hi, hx⟩ := flat_at f m d hf hm hk
  have hadd : (⟨g, o, none⟩ : Addr).add (j * m + i) = ⟨g, o + (j * m + i), none⟩ := by unfold Addr.add; split <;> simp_all
  rw [hadd, ← Nat.add_assoc]
  exact a2 j hj i u hx
/-- what a call's own row holds -/
theorem Rin.of_own {f : α → List Value} {m : Nat} {d : α} (hf : ∀ q, (f q).length = m) (hm : 0 < m) {w : World} {C n : Nat} {e : TypeId} {v : Value} {qs : List α} (h : w.ownsRow C e m v n (qs.flatMap f)) : Rin f m d w v qs := by
  have hl : n = qs.length := by
    have h1 := h.1
    rw [flat_len f m hf] at h1
    exact (Nat.eq_of_mul_eq_mul_right hm h1).symm
  rcases h.2 with ⟨rfl, h0⟩ | ⟨g, cap, cur, rfl, _, hg, hc, _⟩
  · exact ⟨none, 0, by rw [← hl, h0], .inl (by rw [← hl, h0])⟩
  · refine ⟨some ⟨g, 0, none⟩, cap, by rw [← hl], .inr ⟨g, 0, rfl, fun j hj i x hx => ?_⟩⟩
    have hi : i < m := by
      rcases Nat.lt_or_ge i m with h | h
      · exact h
      · rw [List.getElem?_eq_none (by rw [hf]; exact h)] at hx; cases hx
    have h4 := h.cells (g := g) rfl (j * m + i) x (flat_get f m d hf qs j i x hj hi hx)
    have hadd : (⟨g, 0, none⟩ : Addr).add (j * m + i) = ⟨g, 0 + j * m + i, none⟩ := by unfold Addr.add; split <;> simp_all
    rw [hadd] at h4
    exact h4
theorem own_slA {w : World} {B : Nat} {e : TypeId} {s : Nat} {v : Value} {n : Nat} {xs : List Value} (h : w.ownsRow B e s v n xs) : ∃ p c, v = .slice p n c := by
  rcases h.2 with ⟨rfl, h0⟩ | ⟨g, cap, cur, rfl, _⟩
  · exact ⟨none, 0, by rw [h0]⟩
  · exact ⟨_, _, rfl⟩
theorem own_belA {w w' : World} {base : Nat} {e : TypeId} {size : Nat} {v : Value} {n : Nat} {xs : List Value} (h : w.ownsRow base e size v n xs) (k : Below w.heap.size w w') : w'.ownsRow base e size v n xs :=
  ⟨h.1, h.2.imp id (fun ⟨g, cap, cur, h1, h2, h3, h4⟩ => ⟨g, cap, cur, h1, h2, (k.block g (Array.getElem?_eq_some_iff.1 h3).1).trans h3, h4⟩)⟩
end
end Go.Proofs.YtbaakfcbakpmpaaGreatDoor

/- script: slices of outs; what went to a connection, what was asked. No conditions but those that each law states. -/
namespace Go.Proofs.YtbaakfcbakpmpaaGreatDoor
set_option linter.unusedVariables false
set_option linter.unusedSimpArgs false
open Go.RowKit Go.Shelf
set_option maxHeartbeats 8000000
set_option maxRecDepth 100000
theorem cell_belowA' {W w1 : World} (hb : Below W.heap.size W w1) {p : Addr} {v : Value} (h : W.cell? p = some v) : w1.cell? p = some v := by
  refine (hb.cell (p := p) ?_).trans h
  rcases Nat.lt_or_ge p.block W.heap.size with h' | h'
  · exact h'
  · simp [World.cell?, Array.getElem?_eq_none h'] at h
/-- an out: its kind, what it says, where its bytes lie -/
abbrev OQ := Int × Sc.St × Value
def otC (q : OQ) : List Value := [.int .i64 q.1, .int .u64 (q.2.1.conn : Int), .int .i64 q.2.1.topic, q.2.2]
theorem otC_len (q : OQ) : (otC q).length = 4 := rfl
def oqd : OQ := (0, Sc.St.zero, undef)
def OtsIn (w : World) (v : Value) (qs : List OQ) : Prop := Rin otC 4 oqd w v qs ∧ ∀ q ∈ qs, BR w q.2.2 q.2.1.bytes
theorem OtsIn.below {w w' : World} {v : Value} {qs : List OQ} (h : OtsIn w v qs) (hb : Below w.heap.size w w') : OtsIn w' v qs := ⟨h.1.below hb, fun q hq => (h.2 q hq).below hb⟩
structure OtC (w : World) (g o : Nat) (q : OQ) : Prop where
  c0 : w.cell? ⟨g, o, none⟩ = some (.int .i64 q.1)
  c1 : w.cell? ⟨g, o + 1, none⟩ = some (.int .u64 (q.2.1.conn : Int))
  c2 : w.cell? ⟨g, o + 2, none⟩ = some (.int .i64 q.2.1.topic)
  c3 : w.cell? ⟨g, o + 3, none⟩ = some q.2.2
theorem OtC.below {w w' : World} {g o : Nat} {q : OQ} (h : OtC w g o q) (hb : Below w.heap.size w w') : OtC w' g o q := ⟨cell_below hb h.c0, cell_below hb h.c1, cell_below hb h.c2, cell_below hb h.c3⟩
theorem OtsIn.at {w : World} {v : Value} {qs : List OQ} (h : OtsIn w v qs) {j : Nat} (hj : j < qs.length) :
    ∃ g o c, v = .slice (some ⟨g, o, none⟩) qs.length c ∧ OtC w g (o + j * 4) (qs.getD j oqd) ∧ BR w (qs.getD j oqd).2.2 (qs.getD j oqd).2.1.bytes := by
  obtain ⟨g, o, c, h1, h2⟩ := h.1.at hj
  refine ⟨g, o, c, h1, ⟨h2 0 _ rfl, h2 1 _ rfl, h2 2 _ rfl, h2 3 _ rfl⟩, h.2 _ ?_⟩
  rw [List.getD_eq_getElem?_getD, List.getElem?_eq_getElem hj]
  exact List.getElem_mem hj
theorem BR.src {w : World} {v : Value} {l : List UInt8} (h : BR w v l) : ∃ p c, v = .slice p l.length c ∧ (l.length = 0 ∨ ∃ ad, p = some ad ∧ ∀ j u, (l.map by8)[j]? = some u → w.cell? (ad.add j) = some u) := by
  obtain ⟨p, c, h1, h2⟩ := h
  refine ⟨p, c, h1, h2.imp (fun h => by rw [h]; rfl) (fun ⟨g, o, a1, a2⟩ => ⟨_, a1, fun j u hu => ?_⟩)⟩
  have hj : j < l.length := by have := (List.getElem?_eq_some_iff.1 hu).1; simpa using this
  rw [List.getElem?_map, List.getElem?_eq_getElem hj] at hu
  rw [Lib.add_plain, a2 j hj, List.getD_eq_getElem?_getD, List.getElem?_eq_getElem hj]
  exact hu
/-- the bytes of outs of which something is so -/
def sift (is : OQ → Bool) (qs : List OQ) : List UInt8 := qs.flatMap fun q => if is q then q.2.1.bytes else []
theorem sift_next (is : OQ → Bool) {qs : List OQ} {k : Nat} (hk : k < qs.length) : sift is (qs.take (k + 1)) = sift is (qs.take k) ++ (if is (qs.getD k oqd) then (qs.getD k oqd).2.1.bytes else []) := by
  unfold sift
  rw [List.take_succ_eq_append_getElem hk, List.flatMap_append, List.getD_eq_getElem?_getD, List.getElem?_eq_getElem hk]
  simp
theorem sift_len (is : OQ → Bool) (m : Nat) : ∀ (qs : List OQ), (∀ q ∈ qs, q.2.1.bytes.length ≤ m) → (sift is qs).length ≤ qs.length * m
  | [], _ => by simp [sift]
  | q :: qs, h => by
    have h1 := sift_len is m qs (fun x hx => h x (List.mem_cons_of_mem _ hx))
    have h2 := h q List.mem_cons_self
    unfold sift at h1 ⊢
    rw [List.flatMap_cons, List.length_append, List.length_cons, Nat.add_mul, Nat.one_mul]
    have h3 : (if is q = true then q.2.1.bytes else []).length ≤ m := by
      by_cases e : is q = true
      · rw [if_pos e]; exact h2
      · rw [if_neg e]; exact Nat.zero_le _
    omega
theorem sc_sifted (v : Value) (qs : List OQ) (f : Nat) (cap : Array Value) (is : OQ → Bool) (w : World) (hv : OtsIn w v qs) (hn : qs.length ≤ 1000) (hlen : ∀ q ∈ qs, q.2.1.bytes.length ≤ 1000)
    (eg : ∀ args W, (callFunc f args).run Tryz.prog W = .ok (.enter f args) W)
    (hf : ∀ q ∈ qs, ∀ W, Below w.heap.size w W → Calls Tryz.prog f (#[otVal q.1 q.2.1 q.2.2] ++ cap) W fun e w' => e = .returned (.bool (is q)) ∧ Below W.heap.size W w') :
    Calls Tryz.prog 59 #[v, .func (.func f) #[] cap] w fun e w' => ∃ u, e = .returned u ∧ BRow w' u (sift is qs) ∧ Below w.heap.size w w' := by
  obtain ⟨i0, hi, hz0, hz1, hz2⟩ := info_parts (show (Tryz.prog.info? 5).map (fun i => (i.zero, i.size, i.bytes)) = some (some (.int .u8 0), 1, 1) by kernel_rfl)
  obtain ⟨vp, vc, rfl⟩ := hv.1.slice
  obtain ⟨n, hnn⟩ : ∃ z, qs.length = z := ⟨_, rfl⟩
  obtain ⟨B, hB⟩ : ∃ z, w.heap.size = z := ⟨_, rfl⟩
  have HNN := Lib.hid hnn
  have HBB := Lib.hid hB
  have HV := Lib.hid hv
  have HF := Lib.hid hf
  have HLEN := Lib.hid hlen
  rw [hnn] at hn HV ⊢
  rw [hB]
  clear hv hf hlen hnn hB
  go_enter Tryz.func59, Tryz.ntmps59
  go_wp2_with fail
  go_loopw [4, 9] (fun b i wr => ∃ k : Nat, k ≤ n ∧ i = .int .i64 k ∧ wr.ownsRow B 5 1 b (sift is (qs.take k)).length ((sift is (qs.take k)).map by8) ∧ Below B w wr) (fun _ i _ => n - (intOf i).toNat)
  case atStart => exact ⟨0, Nat.zero_le _, rfl, World.ownsRow_nil _ _ _ _, Below.refl _ _⟩
  case round =>
    obtain ⟨k, hk, rfl, hown, hbl⟩ := hrel
    obtain ⟨l0, hl0⟩ : ∃ z, sift is (qs.take k) = z := ⟨_, rfl⟩
    rw [hl0] at hown
    have HO := Lib.hid hown
    have HL0 := Lib.hid hl0
    have HBL := Lib.hid hbl
    obtain ⟨bp, bc, rfl⟩ := own_slA hown
    clear hown hbl hl0
    by_cases hlt : k < n
    · have hI : (k : Int) < (n : Int) := by omega
      have hkl : k < qs.length := by rw [HNN.out]; exact hlt
      obtain ⟨g, o, c, hsl, hoc, hbr⟩ := (HV.out.below (by rw [HBB.out]; exact HBL.out)).at (j := k) hkl
      obtain ⟨rfl, rfl⟩ : vp = some ⟨g, o, none⟩ ∧ vc = c := by
        simp only [Value.slice.injEq] at hsl
        exact ⟨hsl.1, hsl.2.2⟩
      have hmem : qs.getD k oqd ∈ qs := by rw [List.getD_eq_getElem?_getD, List.getElem?_eq_getElem hkl]; exact List.getElem_mem hkl
      have HNX := Lib.hid (sift_next is hkl)
      have hql := HLEN.out _ hmem
      have KF0 := HF.out _ hmem
      obtain ⟨⟨kd, x, u⟩, hq⟩ : ∃ z, qs.getD k oqd = z := ⟨_, rfl⟩
      rw [hq] at hoc hbr HNX hql KF0
      simp only at hoc hbr HNX hql KF0
      obtain ⟨up, uc, rfl, husrc⟩ := hbr.src
      obtain ⟨N, hN⟩ : ∃ z, x.bytes.length = z := ⟨_, rfl⟩
      rw [hN] at hoc hbr husrc hql KF0
      obtain ⟨c0, c1, c2, c3⟩ := hoc
      simp only at c0 c1 c2 c3
      obtain ⟨b, hb⟩ : ∃ z, is (kd, x, .slice up N uc) = z := ⟨_, rfl⟩
      have hl0s : l0.length ≤ 1000 * 1000 := by
        rw [← HL0.out]
        have h1 := sift_len is 1000 (qs.take k) (fun q hq => HLEN.out q (List.mem_of_mem_take hq))
        have h2 : (qs.take k).length ≤ 1000 := by rw [List.length_take]; omega
        exact Nat.le_trans h1 (Nat.mul_le_mul_right _ h2)
      rw [HL0.out] at HNX
      rw [hN] at HNX
      rw [hb] at KF0 HNX
      obtain ⟨W4, hW4⟩ : ∃ z, wr.alloc (.cells #[.int .i64 kd, .int .u64 (x.conn : Int), .int .i64 x.topic, .slice up N uc] 29) = z := ⟨_, rfl⟩
      obtain ⟨R, hR⟩ : ∃ z, wr.heap.size = z := ⟨_, rfl⟩
      have hb4 : Below wr.heap.size wr W4 := by rw [← hW4]; exact (Below.refl _ _).alloc (Nat.le_refl _) _
      have hR4 : W4.heap[R]? = some (otObj kd x (.slice up N uc)) := by rw [← hW4, ← hR]; exact World.alloc_heap_new _ _
      have HB4 := Lib.hid (HBL.out.trans (hb4.mono (by have := HBL.out.size; have := HBB.out; omega)))
      have HR4 := Lib.hid hR4
      have HO4 := Lib.hid (own_belA HO.out hb4)
      have HSRC := Lib.hid (husrc.imp id (fun ⟨ad, h1, h2⟩ => ⟨ad, h1, fun j u hj => cell_belowA' hb4 (h2 j u hj)⟩) : N = 0 ∨ ∃ ad, up = some ad ∧ ∀ j u, (x.bytes.map by8)[j]? = some u → W4.cell? (ad.add j) = some u)
      have KF := KF0 W4 (by rw [HBB.out]; exact HB4.out)
      unfold otVal at KF
      have KF := Lib.hid KF
      obtain ⟨r0, r1, r2, r3, _⟩ := OR.of hR4
      have HXN := Lib.hid hN
      have HW4 := Lib.hid hW4
      have HR := Lib.hid hR
      clear hsl hbr husrc hq hb hb4 hR4 hW4 hR hN KF0 hmem
      go_upto_region 4 with (fail)
      rw [HR.out, HW4.out]
      clear c0 c1 c2 c3
      go_wp2_with fail
      refine KF.out.mono ?_
      rintro e w5 ⟨rfl, hb5⟩
      have HO5 := Lib.hid (own_belA HO4.out hb5)
      have HB5 := Lib.hid (HB4.out.trans (hb5.mono (by have := HB4.out.size; have := HBB.out; omega)))
      have HSRC5 := Lib.hid (HSRC.out.imp id (fun ⟨ad, h1, h2⟩ => ⟨ad, h1, fun j u hj => cell_belowA' hb5 (h2 j u hj)⟩) : N = 0 ∨ ∃ ad, up = some ad ∧ ∀ j u, (x.bytes.map by8)[j]? = some u → w5.cell? (ad.add j) = some u)
      have r3' := cell_below hb5 r3
      clear hb5 r0 r1 r2 r3 KF
      cases b with
      | false =>
        have HN2 := Lib.hid (show sift is (qs.take (k + 1)) = l0 by rw [HNX.out]; simp)
        go_wp2_with fail
        go_roundw
        case rel => exact ⟨k + 1, hlt, by go_num, by rw [HN2.out]; exact HO5.out, HB5.out⟩
        case measure => simp [intOf]; omega
      | true =>
        have HN2 := Lib.hid (show sift is (qs.take (k + 1)) = l0 ++ x.bytes by rw [HNX.out]; simp)
        go_wp2_with (at_builtin; refine wpList_append_from rfl _ _ 24 rfl B 5 i0 (.int .u8 0) 1 1 Tryz.underlying24 hi hz0 hz1 hz2 rfl (by decide) _ _ _ rfl HO5.out up N uc (x.bytes.map by8) rfl (by rw [List.length_map, HXN.out, Nat.mul_one]) HSRC5.out (fun u hu => by8_one u _ hu) (by unfold maxLen; omega) (by omega) (by have := HB5.out.size; have := HBB.out; omega) ?_)
        intro v' w6 hown6 hgrow6
        have HB6 := Lib.hid (Below.grown HB5.out hgrow6 (by have := HB5.out.size; have := HBB.out; omega) (own_ge HO5.out))
        have HO6 := Lib.hid (show w6.ownsRow B 5 1 v' (sift is (qs.take (k + 1))).length ((sift is (qs.take (k + 1))).map by8) by
          rw [HN2.out, List.length_append, HXN.out, List.map_append]; exact hown6)
        clear hown6 hgrow6
        go_wp2
        go_roundw
        case rel => exact ⟨k + 1, hlt, by go_num, HO6.out, HB6.out⟩
        case measure => simp [intOf]; omega
    · have hI : ¬ (k : Int) < (n : Int) := by omega
      have HE := Lib.hid (show l0 = sift is qs by rw [← HL0.out, List.take_of_length_le (by rw [HNN.out]; omega)])
      go_wp2_with fail
      go_ret
      exact ⟨_, rfl, BRow.of_own (by rw [← HE.out]; exact HO.out), HBL.out⟩
theorem sc_Bytes1 (q : OQ) (B : Nat) (c : Int) (w : World) (hu : isSl q.2.2) (hB : w.cell? ⟨B, 0, none⟩ = some (.int .u64 c)) :
    Calls Tryz.prog 60 #[otVal q.1 q.2.1 q.2.2, .pointer (some ⟨B, 0, none⟩)] w fun e w' => e = .returned (.bool (q.1 == 2 && ((q.2.1.conn : Int) == c))) ∧ Below w.heap.size w w' := by
  obtain ⟨k, x, u⟩ := q
  obtain ⟨p, n, cc, rfl⟩ := hu
  obtain ⟨W4, hW4⟩ : ∃ z, w.alloc (.cells #[.int .i64 k, .int .u64 (x.conn : Int), .int .i64 x.topic, .slice p n cc] 29) = z := ⟨_, rfl⟩
  obtain ⟨R, hR⟩ : ∃ z, w.heap.size = z := ⟨_, rfl⟩
  have hb4 : Below w.heap.size w W4 := by rw [← hW4]; exact (Below.refl _ _).alloc (Nat.le_refl _) _
  have hR4 : W4.heap[R]? = some (otObj k x (.slice p n cc)) := by rw [← hW4, ← hR]; exact World.alloc_heap_new _ _
  obtain ⟨r0, r1, r2, r3, _⟩ := OR.of hR4
  have hc := cell_below hb4 hB
  have HB4 := Lib.hid hb4
  have HW4 := Lib.hid hW4
  have HR := Lib.hid hR
  clear hb4 hR4 hW4 hR hB
  unfold otVal
  simp only
  obtain ⟨cn, hcn⟩ : ∃ z : Int, (x.conn : Int) = z := ⟨_, rfl⟩
  rw [hcn] at r1 HW4 ⊢
  clear hcn
  cases h1 : (k == 2) with
  | true =>
    cases h2 : (cn == c) with
    | true =>
      go_enter Tryz.func60, Tryz.ntmps60
      go_upto_region 1 with (fail)
      rw [HR.out, HW4.out]
      go_wp2_with fail
      go_ret
      exact ⟨rfl, HB4.out⟩
    | false =>
      go_enter Tryz.func60, Tryz.ntmps60
      go_upto_region 1 with (fail)
      rw [HR.out, HW4.out]
      go_wp2_with fail
      go_ret
      exact ⟨rfl, HB4.out⟩
  | false =>
    go_enter Tryz.func60, Tryz.ntmps60
    go_upto_region 1 with (fail)
    rw [HR.out, HW4.out]
    go_wp2_with fail
    go_ret
    exact ⟨rfl, HB4.out⟩
theorem sc_Asked1 (q : OQ) (B : Nat) (c : Int) (w : World) (hu : isSl q.2.2) (hB : w.cell? ⟨B, 0, none⟩ = some (.int .i64 c)) :
    Calls Tryz.prog 61 #[otVal q.1 q.2.1 q.2.2, .pointer (some ⟨B, 0, none⟩)] w fun e w' => e = .returned (.bool (q.1 == 5 && (q.2.1.topic == c))) ∧ Below w.heap.size w w' := by
  obtain ⟨k, x, u⟩ := q
  obtain ⟨p, n, cc, rfl⟩ := hu
  obtain ⟨W4, hW4⟩ : ∃ z, w.alloc (.cells #[.int .i64 k, .int .u64 (x.conn : Int), .int .i64 x.topic, .slice p n cc] 29) = z := ⟨_, rfl⟩
  obtain ⟨R, hR⟩ : ∃ z, w.heap.size = z := ⟨_, rfl⟩
  have hb4 : Below w.heap.size w W4 := by rw [← hW4]; exact (Below.refl _ _).alloc (Nat.le_refl _) _
  have hR4 : W4.heap[R]? = some (otObj k x (.slice p n cc)) := by rw [← hW4, ← hR]; exact World.alloc_heap_new _ _
  obtain ⟨r0, r1, r2, r3, _⟩ := OR.of hR4
  have hc := cell_below hb4 hB
  have HB4 := Lib.hid hb4
  have HW4 := Lib.hid hW4
  have HR := Lib.hid hR
  clear hb4 hR4 hW4 hR hB
  unfold otVal
  simp only
  obtain ⟨cn, hcn⟩ : ∃ z : Int, x.topic = z := ⟨_, rfl⟩
  rw [hcn] at r2 HW4 ⊢
  clear hcn
  cases h1 : (k == 5) with
  | true =>
    cases h2 : (cn == c) with
    | true =>
      go_enter Tryz.func61, Tryz.ntmps61
      go_upto_region 1 with (fail)
      rw [HR.out, HW4.out]
      go_wp2_with fail
      go_ret
      exact ⟨rfl, HB4.out⟩
    | false =>
      go_enter Tryz.func61, Tryz.ntmps61
      go_upto_region 1 with (fail)
      rw [HR.out, HW4.out]
      go_wp2_with fail
      go_ret
      exact ⟨rfl, HB4.out⟩
  | false =>
    go_enter Tryz.func61, Tryz.ntmps61
    go_upto_region 1 with (fail)
    rw [HR.out, HW4.out]
    go_wp2_with fail
    go_ret
    exact ⟨rfl, HB4.out⟩
def isB (c : Int) (q : OQ) : Bool := q.1 == 2 && ((q.2.1.conn : Int) == c)
def isA (c : Int) (q : OQ) : Bool := q.1 == 5 && (q.2.1.topic == c)
theorem sc_Bytes (v : Value) (qs : List OQ) (c : Int) (w : World) (hv : OtsIn w v qs) (hn : qs.length ≤ 1000) (hlen : ∀ q ∈ qs, q.2.1.bytes.length ≤ 1000) :
    Calls Tryz.prog 34 #[v, .int .u64 c] w fun e w' => ∃ u, e = .returned u ∧ BRow w' u (sift (isB c) qs) ∧ Below w.heap.size w w' := by
  have hmf : ∀ (fn : Fn) (first cap : Array Value) (w : World), (Instr.makeFunc fn first cap).run Tryz.prog w = .ok (.func fn first cap) w := fun _ _ _ _ => rfl
  obtain ⟨W1, hW1⟩ : ∃ z, w.alloc (.cells #[.int .u64 c] 23) = z := ⟨_, rfl⟩
  obtain ⟨B, hB⟩ : ∃ z, w.heap.size = z := ⟨_, rfl⟩
  have hb1 : Below w.heap.size w W1 := by rw [← hW1]; exact (Below.refl _ _).alloc (Nat.le_refl _) _
  have hc : W1.cell? ⟨B, 0, none⟩ = some (.int .u64 c) := by
    have h : W1.heap[B]? = some (.cells #[.int .u64 c] 23 (0, 0)) := by rw [← hW1, ← hB]; exact World.alloc_heap_new _ _
    simp [World.cell?, h]
  have K := Lib.hid (sc_sifted v qs 60 #[.pointer (some ⟨B, 0, none⟩)] (isB c) W1 (hv.below hb1) hn hlen (enters_of Tryz.func60 (by kernel_rfl) rfl)
    (fun q hq W hb => sc_Bytes1 q B c W (hv.2 q hq).sl (cell_below hb hc)))
  obtain ⟨vp, vc, rfl⟩ := hv.1.slice
  have HB1 := Lib.hid hb1
  have HW1 := Lib.hid hW1
  have HBB := Lib.hid hB
  clear hv hn hlen hb1 hW1 hB hc
  go_enter Tryz.func34, Tryz.ntmps34
  go_upto_region 1 with (fail)
  rw [HBB.out, HW1.out]
  go_wp2_with fail
  refine K.out.mono ?_
  rintro e w2 ⟨u, rfl, hu, hb2⟩
  have HU := Lib.hid hu
  have HB2 := Lib.hid (HB1.out.trans (hb2.mono HB1.out.size))
  obtain ⟨p, n, c', rfl⟩ := hu.sl
  clear hu hb2
  go_wp2_with fail
  go_ret
  exact ⟨_, rfl, HU.out, HB2.out⟩
theorem sc_Asked (v : Value) (qs : List OQ) (c : Int) (w : World) (hv : OtsIn w v qs) (hn : qs.length ≤ 1000) (hlen : ∀ q ∈ qs, q.2.1.bytes.length ≤ 1000) :
    Calls Tryz.prog 35 #[v, .int .i64 c] w fun e w' => ∃ u, e = .returned u ∧ BRow w' u (sift (isA c) qs) ∧ Below w.heap.size w w' := by
  have hmf : ∀ (fn : Fn) (first cap : Array Value) (w : World), (Instr.makeFunc fn first cap).run Tryz.prog w = .ok (.func fn first cap) w := fun _ _ _ _ => rfl
  obtain ⟨W1, hW1⟩ : ∃ z, w.alloc (.cells #[.int .i64 c] 3) = z := ⟨_, rfl⟩
  obtain ⟨B, hB⟩ : ∃ z, w.heap.size = z := ⟨_, rfl⟩
  have hb1 : Below w.heap.size w W1 := by rw [← hW1]; exact (Below.refl _ _).alloc (Nat.le_refl _) _
  have hc : W1.cell? ⟨B, 0, none⟩ = some (.int .i64 c) := by
    have h : W1.heap[B]? = some (.cells #[.int .i64 c] 3 (0, 0)) := by rw [← hW1, ← hB]; exact World.alloc_heap_new _ _
    simp [World.cell?, h]
  have K := Lib.hid (sc_sifted v qs 61 #[.pointer (some ⟨B, 0, none⟩)] (isA c) W1 (hv.below hb1) hn hlen (enters_of Tryz.func61 (by kernel_rfl) rfl)
    (fun q hq W hb => sc_Asked1 q B c W (hv.2 q hq).sl (cell_below hb hc)))
  obtain ⟨vp, vc, rfl⟩ := hv.1.slice
  have HB1 := Lib.hid hb1
  have HW1 := Lib.hid hW1
  have HBB := Lib.hid hB
  clear hv hn hlen hb1 hW1 hB hc
  go_enter Tryz.func35, Tryz.ntmps35
  go_upto_region 1 with (fail)
  rw [HBB.out, HW1.out]
  go_wp2_with fail
  refine K.out.mono ?_
  rintro e w2 ⟨u, rfl, hu, hb2⟩
  have HU := Lib.hid hu
  have HB2 := Lib.hid (HB1.out.trans (hb2.mono HB1.out.size))
  obtain ⟨p, n, c', rfl⟩ := hu.sl
  clear hu hb2
  go_wp2_with fail
  go_ret
  exact ⟨_, rfl, HU.out, HB2.out⟩
end Go.Proofs.YtbaakfcbakpmpaaGreatDoor

/- script: Outs; the reference's SameOuts. No conditions but those that each law states. Printed by genUl.py. -/
namespace Go.Proofs.YtbaakfcbakpmpaaGreatDoor
set_option linter.unusedVariables false
set_option linter.unusedSimpArgs false
open Go.RowKit Go.Shelf
set_option maxHeartbeats 8000000
set_option maxRecDepth 100000
def okey (q : OQ) : Int × Sc.St := (q.1, q.2.1)
theorem br_keep {X Y : World} {v : Value} {l : List UInt8} (h : BR X v l) (hk : l ≠ [] → ∀ g, v.ownBlock = some g → g < X.heap.size → Y.heap[g]? = X.heap[g]?) : BR Y v l := by
  obtain ⟨ao, cap, rfl, h⟩ := h
  refine ⟨ao, cap, rfl, ?_⟩
  rcases h with h | ⟨g, o, rfl, h⟩
  · exact .inl h
  · refine .inr ⟨g, o, rfl, fun j hj => ?_⟩
    have h1 := h j hj
    rw [← h1]
    exact World.cell?_of_block (a := ⟨g, o + j, none⟩) (hk (fun e => by rw [e] at hj; simp at hj) g rfl (lt_of_cell h1))
theorem br_blk {X : World} {v : Value} {l : List UInt8} (h : BR X v l) (hl : l ≠ []) : ∃ g, v.ownBlock = some g ∧ g < X.heap.size := by
  obtain ⟨ao, cap, rfl, h⟩ := h
  rcases h with h | ⟨g, o, rfl, h⟩
  · exact absurd h hl
  · exact ⟨g, rfl, lt_of_cell (h 0 (List.length_pos_iff.2 hl))⟩
/-- a row of outs of the call's own, whose bytes lie elsewhere -/
structure OtS (C : Nat) (X : World) (lv : Value) (ps : List OQ) : Prop where
  own : X.ownsRow C 29 4 lv ps.length (ps.flatMap otC)
  br : ∀ q ∈ ps, BR X q.2.2 q.2.1.bytes
  sep : ∀ q ∈ ps, q.2.1.bytes ≠ [] → ∀ g, q.2.2.ownBlock = some g → lv.ownBlock ≠ some g
theorem OtS.below {C : Nat} {X Y : World} {lv : Value} {ps : List OQ} (h : OtS C X lv ps) (hb : Below X.heap.size X Y) : OtS C Y lv ps := ⟨own_belA h.own hb, fun q hq => (h.br q hq).below hb, h.sep⟩
theorem OtS.nil (C : Nat) (X : World) : OtS C X (.slice none 0 0) [] := ⟨World.ownsRow_nil _ _ _ _, (fun q hq => by cases hq), (fun q hq => by cases hq)⟩
theorem OtS.otsIn {C : Nat} {X : World} {lv : Value} {ps : List OQ} (h : OtS C X lv ps) : OtsIn X lv ps := ⟨Rin.of_own otC_len (by decide) h.own, h.br⟩
theorem OtS.push {C : Nat} {W Y : World} {lv lv' : Value} {ps : List OQ} {q : OQ} (h : OtS C W lv ps) (hbr : BR W q.2.2 q.2.1.bytes) (hsep : q.2.1.bytes ≠ [] → ∀ g, q.2.2.ownBlock = some g → lv.ownBlock ≠ some g)
    (hown : Y.ownsRow C 29 4 lv' (ps.length + 1) (ps.flatMap otC ++ otC q)) (hg : W.grownBy Y lv.ownBlock) (hblk : lv'.ownBlock = lv.ownBlock ∨ lv'.ownBlock = some W.heap.size) : OtS C Y lv' (ps ++ [q]) := by
  have one : ∀ p : OQ, BR W p.2.2 p.2.1.bytes → (p.2.1.bytes ≠ [] → ∀ g, p.2.2.ownBlock = some g → lv.ownBlock ≠ some g) → BR Y p.2.2 p.2.1.bytes ∧ (p.2.1.bytes ≠ [] → ∀ g, p.2.2.ownBlock = some g → lv'.ownBlock ≠ some g) := fun p h1 h2 => by
    refine ⟨br_keep h1 (fun hl g hg' hlt => hg.block g hlt (fun e => h2 hl g hg' e.symm)), fun hl g hg' e => ?_⟩
    rcases hblk with e2 | e2
    · rw [e2] at e; exact h2 hl g hg' e
    · obtain ⟨g2, e3, e4⟩ := br_blk h1 hl
      rw [hg'] at e3
      cases e3
      rw [e2] at e
      cases e
      omega
  refine ⟨?_, fun p hp => ?_, fun p hp => ?_⟩
  · rw [List.length_append, List.length_singleton, List.flatMap_append, List.flatMap_cons, List.flatMap_nil, List.append_nil]
    exact hown
  · rcases List.mem_append.1 hp with hp | hp
    · exact (one p (h.br p hp) (h.sep p hp)).1
    · rw [List.mem_singleton] at hp; subst hp
      exact (one _ hbr hsep).1
  · rcases List.mem_append.1 hp with hp | hp
    · exact (one p (h.br p hp) (h.sep p hp)).2
    · rw [List.mem_singleton] at hp; subst hp
      exact (one _ hbr hsep).2
/-- what is done: its outs, the slice of them, its error -/
abbrev DQ := List OQ × Value × Int
def dnC (q : DQ) : List Value := [q.2.1, .int .i64 q.2.2]
theorem dnC_len (q : DQ) : (dnC q).length = 2 := rfl
def dqd : DQ := ([], undef, 0)
def DnIn (w : World) (v : Value) (ds : List DQ) : Prop := Rin dnC 2 dqd w v ds ∧ ∀ q ∈ ds, OtsIn w q.2.1 q.1
theorem DnIn.below {w w' : World} {v : Value} {ds : List DQ} (h : DnIn w v ds) (hb : Below w.heap.size w w') : DnIn w' v ds := ⟨h.1.below hb, fun q hq => (h.2 q hq).below hb⟩
theorem DnIn.at {w : World} {v : Value} {ds : List DQ} (h : DnIn w v ds) {j : Nat} (hj : j < ds.length) :
    ∃ g o c, v = .slice (some ⟨g, o, none⟩) ds.length c ∧ w.cell? ⟨g, o + j * 2, none⟩ = some (ds.getD j dqd).2.1 ∧ w.cell? ⟨g, o + j * 2 + 1, none⟩ = some (.int .i64 (ds.getD j dqd).2.2) ∧ OtsIn w (ds.getD j dqd).2.1 (ds.getD j dqd).1 ∧ ds.getD j dqd ∈ ds := by
  obtain ⟨g, o, c, h1, h2⟩ := h.1.at hj
  have hm : ds.getD j dqd ∈ ds := by rw [List.getD_eq_getElem?_getD, List.getElem?_eq_getElem hj]; exact List.getElem_mem hj
  exact ⟨g, o, c, h1, h2 0 _ rfl, h2 1 _ rfl, h.2 _ hm, hm⟩
def allO (ds : List DQ) : List OQ := ds.flatMap (·.1)
theorem allO_next {ds : List DQ} {k : Nat} (hk : k < ds.length) : allO (ds.take (k + 1)) = allO (ds.take k) ++ (ds.getD k dqd).1 := by
  unfold allO
  rw [List.take_succ_eq_append_getElem hk, List.flatMap_append, List.getD_eq_getElem?_getD, List.getElem?_eq_getElem hk]
  simp
theorem allO_len : ∀ (ds : List DQ) (m : Nat), (∀ q ∈ ds, q.1.length ≤ m) → (allO ds).length ≤ ds.length * m
  | [], m, _ => by simp [allO]
  | q :: ds, m, h => by
    have h1 := allO_len ds m (fun x hx => h x (List.mem_cons_of_mem _ hx))
    have h2 := h q List.mem_cons_self
    unfold allO at h1 ⊢
    rw [List.flatMap_cons, List.length_append, List.length_cons, Nat.add_mul, Nat.one_mul]
    omega
theorem takeO_next {qs : List OQ} {j : Nat} (hj : j < qs.length) : qs.take (j + 1) = qs.take j ++ [qs.getD j oqd] := by
  rw [List.take_succ_eq_append_getElem hj, List.getD_eq_getElem?_getD, List.getElem?_eq_getElem hj]; rfl
def OutsOut (C : Nat) (ds : List DQ) (w : World) (e : Ending) (w' : World) : Prop := ∃ v' ps, e = .returned v' ∧ OtsIn w' v' ps ∧ ps.map okey = (allO ds).map okey ∧ Below C w w'
theorem own_geA {w : World} {B : Nat} {e : TypeId} {s : Nat} {v : Value} {n : Nat} {xs : List Value} (h : w.ownsRow B e s v n xs) : ∀ g, v.ownBlock = some g → B ≤ g := fun g hg => (h.lt g hg).1
theorem sc_Outs (v : Value) (ds : List DQ) (w : World) (hv : DnIn w v ds) (hn : ds.length ≤ 100) (hm : ∀ q ∈ ds, q.1.length ≤ 100) (hl : ∀ q ∈ ds, ∀ p ∈ q.1, p.2.1.bytes.length ≤ 1000) :
    Calls Tryz.prog 33 #[v] w (OutsOut w.heap.size ds w) := by
  obtain ⟨i0, hi, hz0, hz1, hz2⟩ := info_parts (show (Tryz.prog.info? 5).map (fun i => (i.zero, i.size, i.bytes)) = some (some (.int .u8 0), 1, 1) by kernel_rfl)
  obtain ⟨j0, hj, hy0, hy1, hy2⟩ := info_parts (show (Tryz.prog.info? 29).map (fun i => (i.zero, i.size, i.bytes)) = some (some (.agg #[.int .i64 0, .int .u64 0, .int .i64 0, .slice none 0 0]), 4, 48) by kernel_rfl)
  obtain ⟨vp, vc, rfl⟩ := hv.1.slice
  obtain ⟨n, hnn⟩ : ∃ z, ds.length = z := ⟨_, rfl⟩
  obtain ⟨C, hC⟩ : ∃ z, w.heap.size = z := ⟨_, rfl⟩
  have HNN := Lib.hid hnn
  have HCC := Lib.hid hC
  have HV := Lib.hid hv
  have HM := Lib.hid hm
  have HL := Lib.hid hl
  rw [hnn] at hn HV ⊢
  rw [hC]
  clear hv hm hl hnn hC
  go_enter Tryz.func33, Tryz.ntmps33
  go_wp2_with fail
  go_loopw [2, 9] (fun lv i wr => ∃ (k : Nat) (ps : List OQ), k ≤ n ∧ i = .int .i64 k ∧ OtS C wr lv ps ∧ ps.map okey = (allO (ds.take k)).map okey ∧ Below C w wr) (fun _ i _ => n - (intOf i).toNat)
  case atStart => exact ⟨0, [], Nat.zero_le _, rfl, OtS.nil _ _, rfl, Below.refl _ _⟩
  case round =>
    obtain ⟨k, ps, hk, rfl, hot, hps, hbl⟩ := hrel
    obtain ⟨wo, hwo⟩ : ∃ wo : World, wo = wr := ⟨_, rfl⟩
    rw [← hwo] at hot hbl ⊢
    clear hwo
    obtain ⟨lp, lc, rfl⟩ := own_slA hot.own
    have HOT := Lib.hid hot
    have HPS := Lib.hid hps
    have HBL := Lib.hid hbl
    clear hot hps hbl
    by_cases hlt : k < n
    · have hI : (k : Int) < (n : Int) := by omega
      have hkl : k < ds.length := by rw [HNN.out]; exact hlt
      obtain ⟨g, o, c, hsl, c0, c1, hin, hmem⟩ := (HV.out.below (by rw [HCC.out]; exact HBL.out)).at (j := k) hkl
      obtain ⟨_, _, _, _, _, _, hin0, _⟩ := HV.out.at (j := k) hkl
      obtain ⟨rfl, rfl⟩ : vp = some ⟨g, o, none⟩ ∧ vc = c := by
        simp only [Value.slice.injEq] at hsl
        exact ⟨hsl.1, hsl.2.2⟩
      have HNX := Lib.hid (allO_next hkl)
      have hml := HM.out _ hmem
      have hbl1 := HL.out _ hmem
      have htl : (allO (ds.take k)).length ≤ 10000 := by
        have h1 := allO_len (ds.take k) 100 (fun q hq => HM.out q (List.mem_of_mem_take hq))
        have h2 : (ds.take k).length ≤ 100 := by rw [List.length_take]; omega
        exact Nat.le_trans h1 (Nat.mul_le_mul_right _ h2)
      have hpl : ps.length ≤ 10000 := by
        have h1 := congrArg List.length HPS.out
        rw [List.length_map, List.length_map] at h1
        omega
      obtain ⟨⟨os, ov, er⟩, hq⟩ : ∃ z, ds.getD k dqd = z := ⟨_, rfl⟩
      rw [hq] at c0 c1 hin hin0 HNX hml hbl1
      simp only at c0 c1 hin hin0 HNX hml hbl1
      obtain ⟨op, oc, rfl⟩ := hin.1.slice
      obtain ⟨m, hmm⟩ : ∃ z, os.length = z := ⟨_, rfl⟩
      rw [hmm] at hml hin hin0 c0
      obtain ⟨W4, hW4⟩ : ∃ z, wo.alloc (.cells #[.slice op m oc, .int .i64 er] 75) = z := ⟨_, rfl⟩
      obtain ⟨R, hR⟩ : ∃ z, wo.heap.size = z := ⟨_, rfl⟩
      have hb4 : Below wo.heap.size wo W4 := by rw [← hW4]; exact (Below.refl _ _).alloc (Nat.le_refl _) _
      have hR4 : W4.heap[R]? = some (.cells #[.slice op m oc, .int .i64 er] 75 (0, 0)) := by rw [← hW4, ← hR]; exact World.alloc_heap_new _ _
      have r0 : W4.cell? ⟨R, 0, none⟩ = some (.slice op m oc) := by simp [World.cell?, hR4]
      have HOT4 := Lib.hid (HOT.out.below hb4)
      have HB4 := Lib.hid (HBL.out.trans (hb4.mono (by have := HBL.out.size; have := HCC.out; omega)))
      have HIN4 := Lib.hid hin0
      have HMM := Lib.hid hmm
      have HBY := Lib.hid hbl1
      have HW4 := Lib.hid hW4
      have HR := Lib.hid hR
      clear hsl hin hin0 hmem hq hmm hW4 hR hb4 hR4 hbl1
      go_upto_region 4 with (fail)
      rw [HR.out, HW4.out]
      clear c0 c1
      go_wp2_with fail
      go_loopw [2, 16] (fun lv i wr => ∃ (j : Nat) (p2 : List OQ), j ≤ m ∧ i = .int .i64 j ∧ OtS C wr lv p2 ∧ p2.map okey = (allO (ds.take k) ++ os.take j).map okey ∧ Below C w wr) (fun _ i _ => m - (intOf i).toNat)
      case atStart => exact ⟨0, ps, Nat.zero_le _, rfl, HOT4.out, by rw [List.take_zero, List.append_nil]; exact HPS.out, HB4.out⟩
      case round =>
        obtain ⟨j, p2, hjm, rfl, hot, hp2, hbl⟩ := hrel
        obtain ⟨lp2, lc2, rfl⟩ := own_slA hot.own
        have hp2l : p2.length ≤ 20000 := by
          have h1 := congrArg List.length hp2
          rw [List.length_map, List.length_map, List.length_append, List.length_take] at h1
          omega
        have HOT2 := Lib.hid hot
        have HP2 := Lib.hid hp2
        have HBL2 := Lib.hid hbl
        clear hot hp2 hbl
        by_cases hjt : j < m
        · have hJ : (j : Int) < (m : Int) := by omega
          have hjl : j < os.length := by rw [HMM.out]; exact hjt
          obtain ⟨g2, o2, c2, hsl, hoc, hbr⟩ := (HIN4.out.below (by rw [HCC.out]; exact HBL2.out)).at (j := j) hjl
          obtain ⟨rfl, rfl⟩ : op = some ⟨g2, o2, none⟩ ∧ oc = c2 := by
            simp only [Value.slice.injEq] at hsl
            exact ⟨hsl.1, hsl.2.2⟩
          have hbq := HBY.out (os.getD j oqd) (by rw [List.getD_eq_getElem?_getD, List.getElem?_eq_getElem hjl]; exact List.getElem_mem hjl)
          have HTN := Lib.hid (takeO_next hjl)
          obtain ⟨⟨kd, x, u⟩, hq⟩ : ∃ z, os.getD j oqd = z := ⟨_, rfl⟩
          rw [hq] at hoc hbr hbq HTN
          simp only at hoc hbr hbq
          obtain ⟨up, uc, rfl, husrc⟩ := hbr.src
          obtain ⟨N, hN⟩ : ∃ z, x.bytes.length = z := ⟨_, rfl⟩
          rw [hN] at hoc hbr husrc hbq HTN
          obtain ⟨k0, k1, k2, k3⟩ := hoc
          simp only at k0 k1 k2 k3
          obtain ⟨W5, hW5⟩ : ∃ z, wr.alloc (.cells #[.int .i64 kd, .int .u64 (x.conn : Int), .int .i64 x.topic, .slice up N uc] 29) = z := ⟨_, rfl⟩
          obtain ⟨R5, hR5⟩ : ∃ z, wr.heap.size = z := ⟨_, rfl⟩
          have hb5 : Below wr.heap.size wr W5 := by rw [← hW5]; exact (Below.refl _ _).alloc (Nat.le_refl _) _
          have hR5' : W5.heap[R5]? = some (otObj kd x (.slice up N uc)) := by rw [← hW5, ← hR5]; exact World.alloc_heap_new _ _
          have HR5 := Lib.hid hR5'
          have HOT5 := Lib.hid (HOT2.out.below hb5)
          have HC5 := Lib.hid hb5
          have HB5 := Lib.hid (HBL2.out.trans (hb5.mono (by have := HBL2.out.size; have := HCC.out; omega)))
          have HSRC := Lib.hid (husrc.imp id (fun ⟨ad, h1, h2⟩ => ⟨ad, h1, fun j u hj => cell_belowA' hb5 (h2 j u hj)⟩) : N = 0 ∨ ∃ ad, up = some ad ∧ ∀ j u, (x.bytes.map by8)[j]? = some u → W5.cell? (ad.add j) = some u)
          obtain ⟨r0, r1, r2, r3, rz⟩ := OR.of hR5'
          have rz3 := rz 3
          have HXN := Lib.hid hN
          have HW5 := Lib.hid hW5
          have HRR := Lib.hid hR5
          obtain ⟨Z, hZ⟩ : ∃ z, W5.heap.size = z := ⟨_, rfl⟩
          have HZ := Lib.hid hZ
          clear hsl hbr husrc hq hb5 hR5' hW5 hR5 hN rz hZ
          go_upto_region 7 with (fail)
          rw [HRR.out, HW5.out]
          clear k0 k1 k2 k3
          have HNI := Lib.hid (World.ownsRow_nil W5 Z 5 1)
          go_wp2_with (at_builtin; refine wpList_append_from rfl _ _ 24 rfl Z 5 i0 (.int .u8 0) 1 1 Tryz.underlying24 hi hz0 hz1 hz2 rfl (by decide) (.slice none 0 0) 0 [] rfl HNI.out up N uc (x.bytes.map by8) rfl (by rw [List.length_map, HXN.out, Nat.mul_one]) HSRC.out (fun u hu => by8_one u _ hu) (by unfold maxLen; omega) (by omega) (by rw [HZ.out]; exact Nat.le_refl _) ?_)
          intro v6 w6 hown6 hgrow6
          (try rw [List.nil_append] at hown6)
          (try rw [Nat.zero_add] at hown6)
          have hb6 : Below W5.heap.size W5 w6 := (Below.refl _ _).grown hgrow6 (Nat.le_refl _) (fun g hg => by simp [Value.ownBlock] at hg)
          have hbr6 : BRow w6 v6 x.bytes := BRow.of_own (by rw [← HXN.out] at hown6; exact hown6)
          have HGE := Lib.hid (own_ge hown6)
          obtain ⟨p6, c6, rfl⟩ := own_slA hown6
          have HBR6 := Lib.hid hbr6
          have HOT6 := Lib.hid (HOT5.out.below hb6)
          have HB6 := Lib.hid (HB5.out.trans (hb6.mono (by have := HB5.out.size; have := HCC.out; omega)))
          have HR6 := Lib.hid ((hb6.block _ (Array.getElem?_eq_some_iff.1 HR5.out).1).trans HR5.out)
          have HC6 := Lib.hid (HC5.out.trans (hb6.mono HC5.out.size))
          obtain ⟨s0, s1, s2, s3, sz⟩ := OR.of HR6.out
          have sz3 := sz 3
          obtain ⟨w7, hw7⟩ : ∃ z, w6.setCell ⟨R5, 3, none⟩ (.slice p6 N c6) = z := ⟨_, rfl⟩
          have hR7 : w7.heap[R5]? = some (otObj kd x (.slice p6 N c6)) := by
            rw [← hw7]
            have h := HR6.out
            unfold otObj at h ⊢
            rw [heap_setCell_same w6 R5 3 _ _ _ h]; simp
          have hRC : C ≤ R5 := by have := HBL2.out.size; have := HCC.out; have := HRR.out; omega
          have HC7 := Lib.hid (show Below wr.heap.size wr w7 by rw [← hw7]; exact HC6.out.setCell (p := ⟨R5, 3, none⟩) (Nat.le_of_eq HRR.out) _)
          have HB7 := Lib.hid (show Below C w w7 by rw [← hw7]; exact HB6.out.setCell (p := ⟨R5, 3, none⟩) hRC _)
          have HBR7 := Lib.hid (show BRow w7 (.slice p6 N c6) x.bytes by rw [← hw7]; exact brow_otherO HBR6.out HR6.out ⟨_, _, _, rfl⟩ (KeepM.setCell _ _ _ _))
          have HOT7 := Lib.hid (HOT2.out.below HC7.out)
          have HW7 := Lib.hid hw7
          have HR7 := Lib.hid hR7
          have hZw : wr.heap.size ≤ Z := by rw [← HZ.out]; exact HC5.out.size
          have HSEP := Lib.hid (show x.bytes ≠ [] → ∀ g, (Value.slice p6 N c6).ownBlock = some g → (Value.slice lp2 p2.length lc2).ownBlock ≠ some g from fun _ g hg e => by
            have h1 := HGE.out g hg
            have h2 := (HOT2.out.own.lt g e).2
            omega)
          clear hown6 hgrow6 hb6 hbr6 sz r0 r1 r2 r3 rz3 hw7 hR7 hRC hZw
          go_upto_region 8 with (fail)
          rw [HW7.out]
          clear s0 s1 s2 s3 sz3
          obtain ⟨t0, t1, t2, t3, _⟩ := OR.of HR7.out
          go_wp2_with (at_builtin; refine wpList_append_blk rfl _ _ 73 rfl C 29 j0 (.agg #[.int .i64 0, .int .u64 0, .int .i64 0, .slice none 0 0]) 4 48 Tryz.underlying73 hj hy0 hy1 hy2 rfl (by decide) _ _ _ rfl (own_belA HOT7.out.own ((Below.refl _ _).alloc (Nat.le_refl _) _)) ⟨w7.heap.size, 0, none⟩ 1 1 (otC (kd, x, .slice p6 N c6)) rfl rfl ?c1 ?c2 (by unfold maxLen; omega) (by omega) (by have := HB7.out.size; have := HCC.out; simp; omega) ?_)
          case c1 =>
            intro i u hi
            match i, hi with
            | 0, hi => simp [otC] at hi; subst hi; simp [Addr.add]
            | 1, hi => simp [otC] at hi; subst hi; simp [Addr.add]
            | 2, hi => simp [otC] at hi; subst hi; simp [Addr.add]
            | 3, hi => simp [otC] at hi; subst hi; simp [Addr.add]
          case c2 => intro u hu; simp [otC] at hu; rcases hu with rfl | rfl | rfl | rfl <;> rfl
          intro v9 w9 hown9 hgrow9 hblk9
          have HOT9 := Lib.hid (OtS.push (q := (kd, x, .slice p6 N c6)) (HOT7.out.below ((Below.refl _ _).alloc (Nat.le_refl _) _)) (HBR7.out.br.below ((Below.refl _ _).alloc (Nat.le_refl _) _)) HSEP.out hown9 hgrow9 (by simpa using hblk9))
          have hb9 : Below C w w9 := Below.grown (HB7.out.alloc (by have := HB7.out.size; have := HCC.out; omega) _) hgrow9 (by have := HB7.out.size; have := HCC.out; simp; omega) (own_geA HOT7.out.own)
          have HB9 := Lib.hid hb9
          have HK9 := Lib.hid (show (p2 ++ [((kd, x, .slice p6 N c6) : OQ)]).map okey = (allO (ds.take k) ++ os.take (j + 1)).map okey by
            rw [List.map_append, HP2.out, HTN.out, ← List.append_assoc, List.map_append (l₂ := [_])]; rfl)
          clear hown9 hgrow9 hblk9 hb9 t0 t1 t2 t3
          go_wp2
          go_roundw
          case rel => exact ⟨j + 1, _, hjt, by go_num, HOT9.out, HK9.out, HB9.out⟩
          case measure => simp [intOf]; omega
        · have hJ : ¬ (j : Int) < (m : Int) := by omega
          have HK2 := Lib.hid (show p2.map okey = (allO (ds.take (k + 1))).map okey by
            rw [HP2.out, HNX.out, show os.take j = os from List.take_of_length_le (by rw [HMM.out]; omega)])
          go_wp2_with fail
          go_roundw
          case rel => exact ⟨k + 1, p2, hlt, by go_num, HOT2.out, HK2.out, HBL2.out⟩
          case measure => simp [intOf]; omega
    · have hI : ¬ (k : Int) < (n : Int) := by omega
      have HE := Lib.hid (show ps.map okey = (allO ds).map okey by rw [HPS.out, List.take_of_length_le (by rw [HNN.out]; omega)])
      go_wp2_with fail
      go_ret
      exact ⟨_, ps, rfl, HOT.out.otsIn, HE.out, HBL.out⟩
end Go.Proofs.YtbaakfcbakpmpaaGreatDoor

/- script: the reference's SameOuts of outs that are alike. No conditions but those that each law states. Printed by genUm.py. -/
namespace Go.Proofs.YtbaakfcbakpmpaaGreatDoor
set_option linter.unusedVariables false
set_option linter.unusedSimpArgs false
open Go.RowKit Go.Shelf
set_option maxHeartbeats 8000000
set_option maxRecDepth 100000
def soF (g o g4 o4 n k vc c4 : Nat) (kd : Int) (x : Sc.St) (up up4 : Option Addr) (un uc un4 uc4 : Nat) : Nat → World → Value → Prop
  | 0, _, v => v = .slice (some ⟨g, o, none⟩) n vc
  | 1, _, v => v = .int .i64 (k : Int)
  | 2, _, v => v = .pointer (some ⟨g, o + k * 4, none⟩)
  | 3, _, v => v = .agg #[.int .i64 kd, .int .u64 (x.conn : Int), .int .i64 x.topic, .slice up un uc]
  | 4, _, v => v = .slice (some ⟨g4, o4, none⟩) n c4
  | 5, _, v => v = .int .i64 (k : Int)
  | 6, _, v => v = .pointer (some ⟨g4, o4 + k * 4, none⟩)
  | 7, _, v => v = .agg #[.int .i64 kd, .int .u64 (x.conn : Int), .int .i64 x.topic, .slice up4 un4 uc4]
  | 8, _, v => v = .bool true
  | 9, _, v => v = .bool false
  | _, _, _ => False
theorem okey_at {ps qs : List OQ} (h : ps.map okey = qs.map okey) (k : Nat) : okey (ps.getD k oqd) = okey (qs.getD k oqd) := by
  have h1 : (ps.map okey).getD k (okey oqd) = (qs.map okey).getD k (okey oqd) := by rw [h]
  rw [List.getD_eq_getElem?_getD, List.getD_eq_getElem?_getD, List.getElem?_map, List.getElem?_map] at h1
  rw [List.getD_eq_getElem?_getD, List.getD_eq_getElem?_getD]
  cases h2 : ps[k]? <;> cases h3 : qs[k]? <;> rw [h2, h3] at h1 <;> simpa using h1
theorem rf_SameOuts (v v4 : Value) (ps qs : List OQ) (w : World) (hv : OtsIn w v ps) (hv4 : OtsIn w v4 qs) (hk : ps.map okey = qs.map okey) (hn : ps.length ≤ 100000) :
    Calls Tryz.prog 32 #[v, v4] w fun e w' => e = .returned (.bool true) ∧ Below w.heap.size w w' := by
  obtain ⟨vp, vc, rfl⟩ := hv.1.slice
  obtain ⟨p4, c4, rfl⟩ := hv4.1.slice
  obtain ⟨n, hnn⟩ : ∃ z, ps.length = z := ⟨_, rfl⟩
  have hnq : qs.length = n := by
    have h1 := congrArg List.length hk
    rw [List.length_map, List.length_map] at h1
    omega
  have HNN := Lib.hid hnn
  have HNQ := Lib.hid hnq
  rw [hnn] at hv hn ⊢
  rw [hnq] at hv4 ⊢
  have HV := Lib.hid hv
  have HV4 := Lib.hid hv4
  have HK := Lib.hid hk
  have e1 : ((n : Int) != (n : Int)) = false := by simp
  clear hv hv4 hnn hnq hk
  go_enter Tryz.func32, Tryz.ntmps32
  go_wp2_with fail
  go_loopw [5] (fun i wr => ∃ k : Nat, k ≤ n ∧ i = .int .i64 k ∧ Below w.heap.size w wr) (fun i _ => n - (intOf i).toNat)
  case atStart => exact ⟨0, Nat.zero_le _, rfl, Below.refl _ _⟩
  case round =>
    obtain ⟨k, hk, rfl, hbw⟩ := hrel
    have HBW := Lib.hid hbw
    clear hbw
    by_cases hlt : k < n
    · have hI : (k : Int) < (n : Int) := by omega
      obtain ⟨g, o, c, hsl, hsc, hbr⟩ := (HV.out.below HBW.out).at (j := k) (by rw [HNN.out]; exact hlt)
      obtain ⟨rfl, rfl⟩ : vp = some ⟨g, o, none⟩ ∧ vc = c := by
        simp only [Value.slice.injEq] at hsl
        exact ⟨hsl.1, hsl.2.2⟩
      obtain ⟨g4, o4, c', hsl4, hsc4, hbr4⟩ := (HV4.out.below HBW.out).at (j := k) (by rw [HNQ.out]; exact hlt)
      obtain ⟨rfl, rfl⟩ : p4 = some ⟨g4, o4, none⟩ ∧ c4 = c' := by
        simp only [Value.slice.injEq] at hsl4
        exact ⟨hsl4.1, hsl4.2.2⟩
      have hsame := okey_at HK.out k
      obtain ⟨⟨kd, x, u⟩, hq⟩ : ∃ z, ps.getD k oqd = z := ⟨_, rfl⟩
      obtain ⟨⟨kd4, x4, u4⟩, hq4⟩ : ∃ z, qs.getD k oqd = z := ⟨_, rfl⟩
      rw [hq] at hsc hbr hsame
      rw [hq4] at hsc4 hbr4 hsame
      simp only [okey, Prod.mk.injEq] at hsame
      obtain ⟨rfl, rfl⟩ := hsame
      simp only at hbr hbr4
      obtain ⟨up, un, uc, rfl⟩ := hbr.sl
      obtain ⟨up4, un4, uc4, rfl⟩ := hbr4.sl
      have HSC := Lib.hid hsc
      have HSC4 := Lib.hid hsc4
      have KS := Lib.hid (show ∀ W, Below wr.heap.size wr W → Calls Tryz.prog 22 #[.agg #[.int .i64 kd, .int .u64 (x.conn : Int), .int .i64 x.topic, .slice up un uc], .agg #[.int .i64 kd, .int .u64 (x.conn : Int), .int .i64 x.topic, .slice up4 un4 uc4]] W fun e w' => e = .returned (.bool true) ∧ Below W.heap.size W w' from fun W hb => by
        have h := rf_SameOut kd (x.conn : Int) x.topic kd (x.conn : Int) x.topic (.slice up un uc) (.slice up4 un4 uc4) x.bytes x.bytes W (hbr.below hb) (hbr4.below hb)
        rwa [decide_eq_true (show kd = kd ∧ (x.conn : Int) = (x.conn : Int) ∧ x.topic = x.topic ∧ x.bytes = x.bytes from ⟨rfl, rfl, rfl, rfl⟩)] at h)
      clear hsl hsl4 hsc hsc4 hbr hbr4 hq hq4
      go_wp2_with fail
      refine region_slotsG (fun i => 17 + min i 9) (soF g o g4 o4 n k vc c4 kd x up up4 un uc un4 uc4) (fun _ => true) (by kernel_rfl) (by kernel_rfl) (fun i => by show 17 + min i 9 < _; simp; omega) (fun i j hi hj h => by have hi : i < 10 := hi; have hj : j < 10 := hj; omega) ?mono ?dst ?gu ?ng ?skip ?step ?done
      case mono =>
        intro i W W' v h hbw
        match i, h with
        | 0, h | 1, h | 2, h | 3, h | 4, h | 5, h | 6, h | 7, h | 8, h | 9, h => exact h
        | n + 10, h => exact h.elim
      case dst =>
        intro i o ho
        match i, ho with
        | 0, ho | 1, ho | 2, ho | 3, ho | 4, ho | 5, ho | 6, ho | 7, ho | 8, ho | 9, ho => cases ho; rfl
        | n + 10, ho => exact absurd ho (by simp)
      case gu =>
        intro i o g b ho hgd W v hv
        match i, ho with
        | 0, ho => cases ho; cases hgd
        | 1, ho => cases ho; cases hgd
        | 2, ho => cases ho; cases hgd
        | 3, ho => cases ho; cases hgd
        | 4, ho => cases ho; cases hgd
        | 5, ho => cases ho; cases hgd
        | 6, ho => cases ho; cases hgd
        | 7, ho => cases ho; cases hgd
        | 8, ho => cases ho; cases hgd
        | 9, ho => cases ho; cases hgd
        | n + 10, ho => exact absurd ho (by simp)
      case ng =>
        intro i o ho hgd
        match i, ho with
        | 0, ho => cases ho; first | rfl | cases hgd
        | 1, ho => cases ho; first | rfl | cases hgd
        | 2, ho => cases ho; first | rfl | cases hgd
        | 3, ho => cases ho; first | rfl | cases hgd
        | 4, ho => cases ho; first | rfl | cases hgd
        | 5, ho => cases ho; first | rfl | cases hgd
        | 6, ho => cases ho; first | rfl | cases hgd
        | 7, ho => cases ho; first | rfl | cases hgd
        | 8, ho => cases ho; first | rfl | cases hgd
        | 9, ho => cases ho; first | rfl | cases hgd
        | n + 10, ho => exact absurd ho (by simp)
      case skip =>
        intro i W hi hsel
        match i, hi, hsel with
        | 0, _, hsel => first | exact absurd hsel (by decide) | rfl
        | 1, _, hsel => first | exact absurd hsel (by decide) | rfl
        | 2, _, hsel => first | exact absurd hsel (by decide) | rfl
        | 3, _, hsel => first | exact absurd hsel (by decide) | rfl
        | 4, _, hsel => first | exact absurd hsel (by decide) | rfl
        | 5, _, hsel => first | exact absurd hsel (by decide) | rfl
        | 6, _, hsel => first | exact absurd hsel (by decide) | rfl
        | 7, _, hsel => first | exact absurd hsel (by decide) | rfl
        | 8, _, hsel => first | exact absurd hsel (by decide) | rfl
        | 9, _, hsel => first | exact absurd hsel (by decide) | rfl
        | n + 10, hi, _ => exact absurd hi (by simp)
      case step =>
        intro f a' W i o ho hsel hpre hbel hrest
        match i, ho, hsel with
        | 0, ho, _ =>
          cases ho
          have q0 : a'.tmps.getD 0 undef = .slice (some ⟨g, o, none⟩) n vc := (hrest 0 (by intro i hi; have hi : i < 10 := hi; show 17 + min i 9 ≠ _; omega))
          have e0 := rg_ev q0
          exact rg_same (.slice (some ⟨g, o, none⟩) n vc) (by unfold Oper.wp execOp; go_simp; all_goals ((try simp only [e0]); (try go_simp); (try rw [if_pos (by omega)]); (try rw [if_neg (by omega)]); first | done | rfl | exact ⟨rfl, rfl⟩ | trivial)) rfl
        | 1, ho, _ =>
          cases ho
          have q5 : a'.tmps.getD 5 undef = .int .i64 (k : Int) := (hrest 5 (by intro i hi; have hi : i < 10 := hi; show 17 + min i 9 ≠ _; omega))
          have e5 := rg_ev q5
          exact rg_same (.int .i64 (k : Int)) (by unfold Oper.wp execOp; go_simp; all_goals ((try simp only [e5]); (try go_simp); (try rw [if_pos (by omega)]); (try rw [if_neg (by omega)]); first | done | rfl | exact ⟨rfl, rfl⟩ | trivial)) rfl
        | 2, ho, _ =>
          cases ho
          have q17 : a'.tmps.getD 17 undef = .slice (some ⟨g, o, none⟩) n vc := (hpre { on := 0, ground := .data } (by simp) rfl)
          have q18 : a'.tmps.getD 18 undef = .int .i64 (k : Int) := (hpre { on := 1, ground := .data } (by simp) rfl)
          have e17 := rg_ev q17
          have e18 := rg_ev q18
          exact rg_same (.pointer (some ⟨g, o + k * 4, none⟩)) (by unfold Oper.wp execOp; go_simp; all_goals ((try simp only [e17, e18]); (try go_simp); (try rw [if_pos (by omega)]); (try rw [if_neg (by omega)]); first | done | rfl | exact ⟨rfl, rfl⟩ | trivial)) rfl
        | 3, ho, _ =>
          cases ho
          have q19 : a'.tmps.getD 19 undef = .pointer (some ⟨g, o + k * 4, none⟩) := (hpre { on := 2, ground := .data } (by simp) rfl)
          obtain ⟨y0, y1, y2, y3⟩ := HSC.out.below hbel
          simp only at y0 y1 y2 y3
          have e19 := rg_ev q19
          exact rg_same (.agg #[.int .i64 kd, .int .u64 (x.conn : Int), .int .i64 x.topic, .slice up un uc]) (by unfold Oper.wp execOp; go_simp; all_goals ((try simp only [e19]); (try go_simp); (try rw [if_pos (by omega)]); (try rw [if_neg (by omega)]); first | done | rfl | exact ⟨rfl, rfl⟩ | trivial)) rfl
        | 4, ho, _ =>
          cases ho
          have q1 : a'.tmps.getD 1 undef = .slice (some ⟨g4, o4, none⟩) n c4 := (hrest 1 (by intro i hi; have hi : i < 10 := hi; show 17 + min i 9 ≠ _; omega))
          have e1 := rg_ev q1
          exact rg_same (.slice (some ⟨g4, o4, none⟩) n c4) (by unfold Oper.wp execOp; go_simp; all_goals ((try simp only [e1]); (try go_simp); (try rw [if_pos (by omega)]); (try rw [if_neg (by omega)]); first | done | rfl | exact ⟨rfl, rfl⟩ | trivial)) rfl
        | 5, ho, _ =>
          cases ho
          have q5 : a'.tmps.getD 5 undef = .int .i64 (k : Int) := (hrest 5 (by intro i hi; have hi : i < 10 := hi; show 17 + min i 9 ≠ _; omega))
          have e5 := rg_ev q5
          exact rg_same (.int .i64 (k : Int)) (by unfold Oper.wp execOp; go_simp; all_goals ((try simp only [e5]); (try go_simp); (try rw [if_pos (by omega)]); (try rw [if_neg (by omega)]); first | done | rfl | exact ⟨rfl, rfl⟩ | trivial)) rfl
        | 6, ho, _ =>
          cases ho
          have q21 : a'.tmps.getD 21 undef = .slice (some ⟨g4, o4, none⟩) n c4 := (hpre { on := 4, ground := .data } (by simp) rfl)
          have q22 : a'.tmps.getD 22 undef = .int .i64 (k : Int) := (hpre { on := 5, ground := .data } (by simp) rfl)
          have e21 := rg_ev q21
          have e22 := rg_ev q22
          exact rg_same (.pointer (some ⟨g4, o4 + k * 4, none⟩)) (by unfold Oper.wp execOp; go_simp; all_goals ((try simp only [e21, e22]); (try go_simp); (try rw [if_pos (by omega)]); (try rw [if_neg (by omega)]); first | done | rfl | exact ⟨rfl, rfl⟩ | trivial)) rfl
        | 7, ho, _ =>
          cases ho
          have q23 : a'.tmps.getD 23 undef = .pointer (some ⟨g4, o4 + k * 4, none⟩) := (hpre { on := 6, ground := .data } (by simp) rfl)
          obtain ⟨y0, y1, y2, y3⟩ := HSC4.out.below hbel
          simp only at y0 y1 y2 y3
          have e23 := rg_ev q23
          exact rg_same (.agg #[.int .i64 kd, .int .u64 (x.conn : Int), .int .i64 x.topic, .slice up4 un4 uc4]) (by unfold Oper.wp execOp; go_simp; all_goals ((try simp only [e23]); (try go_simp); (try rw [if_pos (by omega)]); (try rw [if_neg (by omega)]); first | done | rfl | exact ⟨rfl, rfl⟩ | trivial)) rfl
        | 8, ho, _ =>
          cases ho
          have q20 : a'.tmps.getD 20 undef = .agg #[.int .i64 kd, .int .u64 (x.conn : Int), .int .i64 x.topic, .slice up un uc] := (hpre { on := 3, ground := .data } (by simp) rfl)
          have q24 : a'.tmps.getD 24 undef = .agg #[.int .i64 kd, .int .u64 (x.conn : Int), .int .i64 x.topic, .slice up4 un4 uc4] := (hpre { on := 7, ground := .data } (by simp) rfl)
          exact rg_call2 20 24 22 _ _ _ _ rfl q20 q24 (enters_of Tryz.func22 (by kernel_rfl) rfl) (KS.out W hbel) (fun e w' h => ⟨_, h.1, _, rfl, rfl, h.2⟩)
        | 9, ho, _ =>
          cases ho
          have q25 : a'.tmps.getD 25 undef = .bool true := (hpre { on := 8, ground := .data } (by simp) rfl)
          have e25 := rg_ev q25
          exact rg_same (.bool false) (by unfold Oper.wp execOp; go_simp; all_goals ((try simp only [e25]); (try go_simp); (try rw [if_pos (by omega)]); (try rw [if_neg (by omega)]); first | done | rfl | exact ⟨rfl, rfl⟩ | trivial)) rfl
        | n + 10, ho, _ => exact absurd ho (by simp)
      case done =>
        intro vs W hbel hvs
        have v0 : vs 0 = .slice (some ⟨g, o, none⟩) n vc := hvs 0 (by decide)
        have v1 : vs 1 = .int .i64 (k : Int) := hvs 1 (by decide)
        have v2 : vs 2 = .pointer (some ⟨g, o + k * 4, none⟩) := hvs 2 (by decide)
        have v3 : vs 3 = .agg #[.int .i64 kd, .int .u64 (x.conn : Int), .int .i64 x.topic, .slice up un uc] := hvs 3 (by decide)
        have v4 : vs 4 = .slice (some ⟨g4, o4, none⟩) n c4 := hvs 4 (by decide)
        have v5 : vs 5 = .int .i64 (k : Int) := hvs 5 (by decide)
        have v6 : vs 6 = .pointer (some ⟨g4, o4 + k * 4, none⟩) := hvs 6 (by decide)
        have v7 : vs 7 = .agg #[.int .i64 kd, .int .u64 (x.conn : Int), .int .i64 x.topic, .slice up4 un4 uc4] := hvs 7 (by decide)
        have v8 : vs 8 = .bool true := hvs 8 (by decide)
        have v9 : vs 9 = .bool false := hvs 9 (by decide)
        have HBR := Lib.hid hbel
        simp only [fillN, List.size_toArray, List.length_cons, List.length_nil, Nat.reduceAdd, show List.range 10 = [0, 1, 2, 3, 4, 5, 6, 7, 8, 9] from rfl, List.foldl_cons, List.foldl_nil, show 17 + min 0 9 = 17 from rfl, show 17 + min 1 9 = 18 from rfl, show 17 + min 2 9 = 19 from rfl, show 17 + min 3 9 = 20 from rfl, show 17 + min 4 9 = 21 from rfl, show 17 + min 5 9 = 22 from rfl, show 17 + min 6 9 = 23 from rfl, show 17 + min 7 9 = 24 from rfl, show 17 + min 8 9 = 25 from rfl, show 17 + min 9 9 = 26 from rfl, v0, v1, v2, v3, v4, v5, v6, v7, v8, v9]
        clear v0 v1 v2 v3 v4 v5 v6 v7 v8 v9 hvs hbel
        go_simp
        have HBW2 := Lib.hid (HBW.out.trans (HBR.out.mono HBW.out.size))
        clear HBR
        go_wp2_with fail
        go_roundw
        case rel => exact ⟨k + 1, hlt, by go_num, HBW2.out⟩
        case measure => simp [intOf]; omega
    · have hI : ¬ (k : Int) < (n : Int) := by omega
      go_wp2_with fail
      go_ret
      exact ⟨rfl, HBW.out⟩
end Go.Proofs.YtbaakfcbakpmpaaGreatDoor

/- script: what came of steps, coming in. No conditions but those that each law states. -/
namespace Go.Proofs.YtbaakfcbakpmpaaGreatDoor
set_option linter.unusedVariables false
set_option linter.unusedSimpArgs false
open Go.RowKit Go.Shelf Go.WideShapes Go.ChangeShapes Go.ChangeAt
set_option maxHeartbeats 8000000
set_option maxRecDepth 100000
section
variable {H : Type} {enc : TypeId × Value → H} {w : World} {base : Nat} {spare : Nat → Bool} {held : Bool}
/-- a slice that reads: each of its elements is of some kind, so it is a slice of such ones -/
theorem rin_of {α : Type} (f : α → List Value) (m : Nat) (d : α) (hm : 0 < m) (hf : ∀ q, (f q).length = m) (P : α → Prop) (a : Addr) (len cap : Nat)
    (each : ∀ j, j < len → ∃ q : α, (∀ i x, (f q)[i]? = some x → w.cell? ((a.add (j * m)).add i) = some x) ∧ P q) : ∃ qs : List α, Rin f m d w (.slice (some a) len cap) qs ∧ qs.length = len ∧ ∀ q ∈ qs, P q := by
  obtain ⟨qs, hql, hqs⟩ := list_of_all d _ len each
  refine ⟨qs, ⟨some a, cap, by rw [hql], ?_⟩, hql, fun q hq => ?_⟩
  · by_cases h0 : len = 0
    · exact .inl (by omega)
    · obtain ⟨b, off, spot⟩ := a
      obtain ⟨x, hx⟩ : ∃ x, (f (qs.getD 0 d))[0]? = some x := ⟨_, List.getElem?_eq_getElem (by rw [hf]; exact hm)⟩
      have hc0 := (hqs 0 (by omega)).1 0 x hx
      have hadd : ((⟨b, off, spot⟩ : Addr).add (0 * m)).add 0 = ⟨b, off, spot⟩ := by rw [Nat.zero_mul]; rfl
      rw [hadd] at hc0
      obtain rfl : spot = none := spot_of_cell hc0
      refine .inr ⟨b, off, rfl, fun j hj i x hx => ?_⟩
      have h1 := (hqs j (by omega)).1 i x hx
      rw [Lib.add_plain, Lib.add_plain] at h1
      exact h1
  · obtain ⟨j, hj, rfl⟩ := List.getElem_of_mem hq
    have h := (hqs j (by omega)).2
    rwa [List.getD_eq_getElem?_getD, List.getElem?_eq_getElem hj] at h
theorem outs_in {fuel : Nat} {v : Value} {y : DataW H × List MemPlace} (h : DataW.trod enc Tryz.prog w base spare held fuel 73 [v] = some y) :
    ∃ qs, OtsIn w v qs ∧ qs.length ≤ maxLen ∧ ∀ q ∈ qs, q.2.1.bytes.length ≤ maxLen := by
  obtain ⟨hc6, hc4, hc1, hc2, hc3, hc5, hc7⟩ := step_cells
  rcases DataW.trod_slice Tryz.underlying73 h with ⟨hcs, _⟩ | ⟨a, len, cap, elems, rest, n, _, hcs, hyd, hb, hl, hm, hlen, hel, _, _⟩
  · simp only [List.cons.injEq, and_true] at hcs
    subst hcs
    exact ⟨[], ⟨Rin.nil w, fun q hq => by cases hq⟩, by simp, fun q hq => by cases hq⟩
  · simp only [List.cons.injEq, and_true] at hcs
    subst hcs
    have each : ∀ j, j < len → ∃ q : OQ, (∀ i x, (otC q)[i]? = some x → w.cell? ((a.add (j * 4)).add i) = some x) ∧ (BR w q.2.2 q.2.1.bytes ∧ q.2.1.bytes.length ≤ maxLen) := by
      intro j hj
      have h1 := hel j hj
      rw [List.getElem?_eq_getElem (by omega), Option.bind_eq_some_iff, hc4] at h1
      obtain ⟨cs, h2, h3⟩ := h1
      have h6 := (World.cells?_some h2).2
      match cs, h6.1, h3, h6.2 with
      | [c0, c1, c2, c3], _, h3, h6 =>
        obtain ⟨xs, n', _, hxe, hl', hlen', hx⟩ := DataW.trod_struct Tryz.underlying29 h3
        match xs, hlen' with
        | [y0, y1, y2, y3], _ =>
          have h0 := hx 0 _ rfl
          have h1 := hx 1 _ rfl
          have h2 := hx 2 _ rfl
          have h3 := hx 3 _ rfl
          simp [hc1, hc2, hc3, hc5, hc7] at h0 h1 h2 h3
          obtain ⟨l, hl5, hlm⟩ := br_in h3
          obtain ⟨a0, e0, _, w0⟩ := DataW.trod_int Tryz.underlying27 h0
          obtain ⟨a1, e1, _, w1⟩ := DataW.trod_int Tryz.underlying23 h1
          obtain ⟨a2, e2, _, w2⟩ := DataW.trod_int Tryz.underlying3 h2
          simp [Lit.wf, IntKind.min, IntKind.max, IntKind.signed, IntKind.bits] at w1
          simp at e0 e1 e2
          subst e0 e1 e2
          refine ⟨(a0, ⟨0, a1.toNat, a2, 0, 0, l⟩, c3), fun i x hx => ?_, hl5, hlm⟩
          unfold otC at hx
          simp only at hx
          rw [Int.toNat_of_nonneg (by omega)] at hx
          have hi : i < 4 := by
            rcases Nat.lt_or_ge i 4 with h | h
            · exact h
            · rw [List.getElem?_eq_none (by show 4 ≤ i; exact h)] at hx; cases hx
          have h7 := h6 i hi
          rw [hx] at h7
          exact h7
    obtain ⟨qs, h1, h2, h3⟩ := rin_of otC 4 oqd (by decide) otC_len _ a len cap each
    exact ⟨qs, ⟨h1, fun q hq => (h3 q hq).1⟩, by omega, fun q hq => (h3 q hq).2⟩
theorem dones_in {r : Reach} {b0 : Nat} {v : Value} {d : DataW H} {p : List MemPlace} (hv : Value.okWide Tryz.prog w r b0 72 v) (h : DataW.Trod enc Tryz.prog w base spare held 72 v d p) :
    ∃ ds, DnIn w v ds ∧ (∀ q ∈ ds, q.1.length ≤ maxLen ∧ ∀ p ∈ q.1, p.2.1.bytes.length ≤ maxLen) ∧ ds.length ≤ maxLen := by
  obtain ⟨a0, len0, cap0, rfl⟩ := okWide_slice Tryz.underlying72 hv
  obtain ⟨hc6, hc4, hc1, hc2, hc3, hc5, hc7⟩ := step_cells
  have hd2 : Tryz.prog.cellsOf 75 = 2 := by kernel_rfl
  have hd1 : Tryz.prog.cellsOf 73 = 1 := by kernel_rfl
  have hd0 : Tryz.prog.cellsOf 31 = 1 := by kernel_rfl
  obtain ⟨fuel, hf⟩ := h
  rcases DataW.trod_slice Tryz.underlying72 hf with ⟨hcs, _⟩ | ⟨a, len, cap, elems, rest, n, _, hcs, hyd, hb, hl, hm, hlen, hel, _, _⟩
  · simp [Value.cells] at hcs
    obtain ⟨rfl, rfl, rfl⟩ := hcs
    exact ⟨[], ⟨Rin.nil w, fun q hq => by cases hq⟩, (fun q hq => by cases hq), by simp⟩
  · simp [Value.cells] at hcs
    obtain ⟨rfl, rfl, rfl⟩ := hcs
    have each : ∀ j, j < len0 → ∃ q : DQ, (∀ i x, (dnC q)[i]? = some x → w.cell? ((a.add (j * 2)).add i) = some x) ∧ (OtsIn w q.2.1 q.1 ∧ q.1.length ≤ maxLen ∧ ∀ p ∈ q.1, p.2.1.bytes.length ≤ maxLen) := by
      intro j hj
      have h1 := hel j hj
      rw [List.getElem?_eq_getElem (by omega), Option.bind_eq_some_iff, hd2] at h1
      obtain ⟨cs, h2, h3⟩ := h1
      have h6 := (World.cells?_some h2).2
      match cs, h6.1, h3, h6.2 with
      | [c0, c1], _, h3, h6 =>
        obtain ⟨xs, n', _, hxe, hl', hlen', hx⟩ := DataW.trod_struct Tryz.underlying75 h3
        match xs, hlen' with
        | [y0, y1], _ =>
          have h0 := hx 0 _ rfl
          have h1 := hx 1 _ rfl
          simp [hd1, hd0] at h0 h1
          obtain ⟨qs, hq1, hq2, hq3⟩ := outs_in h0
          obtain ⟨a1, e1, _, w1⟩ := DataW.trod_int Tryz.underlying31 h1
          simp at e1
          subst e1
          refine ⟨(qs, c0, a1), fun i x hx => ?_, hq1, hq2, hq3⟩
          have hi : i < 2 := by
            rcases Nat.lt_or_ge i 2 with h | h
            · exact h
            · rw [List.getElem?_eq_none (by show 2 ≤ i; exact h)] at hx; cases hx
          have h7 := h6 i hi
          unfold dnC at hx
          rw [hx] at h7
          exact h7
    obtain ⟨ds, h1, h2, h3⟩ := rin_of dnC 2 dqd (by decide) dnC_len _ a len0 cap0 each
    exact ⟨ds, ⟨h1, fun q hq => (h3 q hq).1⟩, fun q hq => (h3 q hq).2, by omega⟩
end
end Go.Proofs.YtbaakfcbakpmpaaGreatDoor

/- ScriptOuts returns true for whatever came of steps: the walk. The tables of the library, and its cell of a bound, read as they are laid. Printed by genLSO.py. -/
namespace Go.Proofs.YtbaakfcbakpmpaaGreatDoor
set_option linter.unusedVariables false
set_option linter.unusedSimpArgs false
open Go.RowKit Go.Shelf
set_option maxHeartbeats 8000000
set_option maxRecDepth 100000
theorem sift_app (is : OQ → Bool) (a : List OQ) (q : OQ) : sift is (a ++ [q]) = sift is a ++ (if is q then q.2.1.bytes else []) := by
  unfold sift; rw [List.flatMap_append]; simp
theorem dnC_one {ds : List DQ} (h : ∀ q ∈ ds, isSl q.2.1) : ∀ u ∈ ds.flatMap dnC, u.oneCell' = true := by
  intro u hu
  obtain ⟨q, hq, hu⟩ := List.mem_flatMap.1 hu
  obtain ⟨p, n, c, hs⟩ := h q hq
  unfold dnC at hu
  rw [hs] at hu
  simp only [List.mem_cons, List.not_mem_nil, or_false] at hu
  rcases hu with rfl | rfl <;> rfl
theorem walkSO (v : Value) (ds : List DQ) (c t : Int) (w : World) (hv : DnIn w v ds) (hq : ∀ q ∈ ds, q.1.length ≤ maxLen ∧ ∀ p ∈ q.1, p.2.1.bytes.length ≤ maxLen) (hn : ds.length ≤ maxLen) (hc : (Lit.int .u64 c).wf = true) (ht : (Lit.int .i64 t).wf = true) (hk : KX w) :
    Calls Tryz.prog 10 #[v, .int .u64 c, .int .i64 t] w fun e w' => e = .returned (.bool true) ∧ Below w.heap.size w w' := by
  obtain ⟨j0, hj, hy0, hy1, hy2⟩ := info_parts (show (Tryz.prog.info? 29).map (fun i => (i.zero, i.size, i.bytes)) = some (some (.agg #[.int .i64 0, .int .u64 0, .int .i64 0, .slice none 0 0]), 4, 48) by kernel_rfl)
  obtain ⟨i0, hi, hz0, hz1, hz2⟩ := info_parts (show (Tryz.prog.info? 75).map (fun i => (i.zero, i.size, i.bytes)) = some (some (.agg #[.slice none 0 0, .int .i64 0]), 2, 32) by kernel_rfl)
  clear hc ht
  obtain ⟨C, hC⟩ : ∃ z, w.heap.size = z := ⟨_, rfl⟩
  have HCC := Lib.hid hC
  have HK := Lib.hid hk
  have HV := Lib.hid hv
  have HQ := Lib.hid hq
  obtain ⟨vp, vc, rfl, hsrc⟩ := hv.1.src dnC_len (by decide)
  have HSRC := Lib.hid hsrc
  obtain ⟨n, hnn⟩ : ∃ z, ds.length = z := ⟨_, rfl⟩
  have HNN := Lib.hid hnn
  rw [hnn] at hn HSRC HV ⊢
  unfold maxLen at hn HQ
  clear hk hv hq hnn hsrc hC
  go_enter Tryz.func10, Tryz.ntmps10
  by_cases h8 : 8 < n
  · have q1 : (8 : Int) < (n : Int) := by omega
    have HB := Lib.hid (Below.refl w.heap.size w)
    have KWK := Lib.hid (sc_works w (HK.out).tabs (HK.out).ml)
    go_wp2_with fail
    refine KWK.out.mono ?_
    rintro e wz ⟨rfl, hb⟩
    have HBZ := Lib.hid ((HB.out).trans (hb.mono (HB.out).size))
    clear hb
    go_wp2_with fail
    go_ret
    exact ⟨rfl, HBZ.out⟩
  have q1 : ¬ (8 : Int) < (n : Int) := by omega
  go_wp2_with fail
  go_loopw [7, 8, 9, 10] (fun lv a b i wr => ∃ (k : Nat) (ab bb : ByteArray), k ≤ n ∧ i = .int .i64 k ∧ OtS C wr lv (allO (ds.take k)) ∧ a = .string ab ∧ ab.data.toList = sift (isB c) (allO (ds.take k)) ∧ b = .string bb ∧ bb.data.toList = sift (isA t) (allO (ds.take k)) ∧ (∀ q ∈ ds.take k, q.1.length ≤ 8 ∧ ∀ p ∈ q.1, p.2.1.bytes.length ≤ 60) ∧ Below C w wr) (fun _ _ _ i _ => n - (intOf i).toNat)
  case atStart => exact ⟨0, ⟨#[]⟩, ⟨#[]⟩, Nat.zero_le _, rfl, OtS.nil _ _, rfl, rfl, rfl, rfl, (fun q hq => by simp at hq), Below.refl _ _⟩
  case round =>
    obtain ⟨k, ab, bb, hk, rfl, hot, rfl, hab, rfl, hbb, hall, hbl⟩ := hrel
    obtain ⟨wo, hwo⟩ : ∃ wo : World, wo = wr := ⟨_, rfl⟩
    rw [← hwo] at hot hbl ⊢
    clear hwo
    obtain ⟨ps, hps⟩ : ∃ z, allO (ds.take k) = z := ⟨_, rfl⟩
    rw [hps] at hot hab hbb
    have hpl : ps.length ≤ 64 := by
      have h1 := allO_len (ds.take k) 8 (fun q hq => (hall q hq).1)
      have h2 : (ds.take k).length ≤ 8 := by rw [List.length_take]; omega
      rw [hps] at h1
      have h3 : (ds.take k).length * 8 ≤ 8 * 8 := Nat.mul_le_mul_right _ h2
      omega
    have hpb : ∀ p ∈ ps, p.2.1.bytes.length ≤ 60 := fun p hp => by
      rw [← hps] at hp
      obtain ⟨q, h1, h2⟩ := List.mem_flatMap.1 hp
      exact (hall q h1).2 p h2
    obtain ⟨lp, lc, rfl⟩ := own_slA hot.own
    have HOT := Lib.hid hot
    have HAB := Lib.hid hab
    have HBB := Lib.hid hbb
    have HALL := Lib.hid hall
    have HBL := Lib.hid hbl
    have HPS := Lib.hid hps
    have HPB := Lib.hid hpb
    clear hot hab hbb hall hbl hps hpb
    by_cases hlt : k < n
    · have hI : (k : Int) < (n : Int) := by omega
      have hkl : k < ds.length := by rw [HNN.out]; exact hlt
      obtain ⟨g, o, c', hsl, c0, c1, hin, hmem⟩ := (HV.out.below (by rw [HCC.out]; exact HBL.out)).at (j := k) hkl
      obtain ⟨_, _, _, _, _, _, hin0, _⟩ := HV.out.at (j := k) hkl
      obtain ⟨rfl, rfl⟩ : vp = some ⟨g, o, none⟩ ∧ vc = c' := by
        simp only [Value.slice.injEq] at hsl
        exact ⟨hsl.1, hsl.2.2⟩
      have HNX := Lib.hid (allO_next hkl)
      have HTK := Lib.hid (show ∀ P : DQ → Prop, (∀ q ∈ ds.take k, P q) → P (ds.getD k dqd) → ∀ q ∈ ds.take (k + 1), P q from fun P h1 h2 q hq => by
        rw [List.take_succ_eq_append_getElem hkl, List.mem_append, List.mem_singleton] at hq
        rcases hq with hq | hq
        · exact h1 q hq
        · rw [List.getD_eq_getElem?_getD, List.getElem?_eq_getElem hkl] at h2
          rw [hq]; exact h2)
      have hqq := HQ.out _ hmem
      obtain ⟨⟨os, ov, er⟩, hq⟩ : ∃ z, ds.getD k dqd = z := ⟨_, rfl⟩
      rw [hq] at c0 c1 hin hin0 HNX HTK hqq
      simp only at c0 c1 hin hin0 HNX HTK hqq
      obtain ⟨op, oc, rfl⟩ := hin.1.slice
      obtain ⟨m, hmm⟩ : ∃ z, os.length = z := ⟨_, rfl⟩
      rw [hmm] at hin hin0 c0 hqq
      have hm63 := hqq.1
      have HBY := Lib.hid hqq.2
      have HMM := Lib.hid hmm
      have HIN0 := Lib.hid hin0
      have HC0 := Lib.hid (show w.cell? ⟨g, o + k * 2, none⟩ = some (.slice op m oc) by
        obtain ⟨g', o', c'', h1, h2, _⟩ := HV.out.at (j := k) hkl
        simp only [Value.slice.injEq, Option.some.injEq, Addr.mk.injEq] at h1
        obtain ⟨⟨rfl, rfl, _⟩, _, _⟩ := h1
        rw [hq] at h2
        simp only at h2
        rw [hmm] at h2
        exact h2)
      clear hsl hin hin0 hmem hq hmm hqq c1
      by_cases hm8 : 8 < m
      · have q2 : (8 : Int) < (m : Int) := by omega
        have HKW := Lib.hid (HK.out.below (show Below w.heap.size w _ by rw [HCC.out]; exact HBL.out))
        have KWK := Lib.hid (sc_works wo (HKW.out).tabs (HKW.out).ml)
        go_wp2_with fail
        refine KWK.out.mono ?_
        rintro e wz ⟨rfl, hb⟩
        have HBZ := Lib.hid ((show Below w.heap.size w _ by rw [HCC.out]; exact HBL.out).trans (hb.mono (show Below w.heap.size w _ by rw [HCC.out]; exact HBL.out).size))
        clear hb
        go_wp2_with fail
        go_ret
        exact ⟨rfl, HBZ.out⟩
      have q2 : ¬ (8 : Int) < (m : Int) := by omega
      go_wp2_with fail
      clear c0
      go_loopw [7, 8, 9, 11] (fun lv a b i wr => ∃ (j : Nat) (ab bb : ByteArray), j ≤ m ∧ i = .int .i64 j ∧ OtS C wr lv (ps ++ os.take j) ∧ a = .string ab ∧ ab.data.toList = sift (isB c) (ps ++ os.take j) ∧ b = .string bb ∧ bb.data.toList = sift (isA t) (ps ++ os.take j) ∧ (∀ p ∈ os.take j, p.2.1.bytes.length ≤ 60) ∧ Below C w wr) (fun _ _ _ i _ => m - (intOf i).toNat)
      case atStart => exact ⟨0, ab, bb, Nat.zero_le _, rfl, by rw [List.take_zero, List.append_nil]; exact HOT.out, rfl, by rw [List.take_zero, List.append_nil]; exact HAB.out, rfl, by rw [List.take_zero, List.append_nil]; exact HBB.out, (fun q hq => by simp at hq), HBL.out⟩
      case round =>
        obtain ⟨j, ab2, bb2, hjm, rfl, hot, rfl, hab, rfl, hbb, hall, hbl⟩ := hrel
        obtain ⟨p2, hp2⟩ : ∃ z, ps ++ os.take j = z := ⟨_, rfl⟩
        have hp2l : p2.length ≤ 200 := by rw [← hp2, List.length_append, List.length_take]; omega
        have hp2b : ∀ p ∈ p2, p.2.1.bytes.length ≤ 60 := fun p hp => by
          rw [← hp2] at hp
          rcases List.mem_append.1 hp with hp | hp
          · exact HPB.out p hp
          · exact hall p hp
        rw [hp2] at hot hab hbb
        obtain ⟨lp2, lc2, rfl⟩ := own_slA hot.own
        have has : ab2.size ≤ 20000 := by
          have h1 := sift_len (isB c) 60 p2 hp2b
          have h2 : ab2.data.toList.length = ab2.size := by simp
          rw [hab] at h2
          have h3 : p2.length * 60 ≤ 200 * 60 := Nat.mul_le_mul_right _ hp2l
          omega
        have hbs : bb2.size ≤ 20000 := by
          have h1 := sift_len (isA t) 60 p2 hp2b
          have h2 : bb2.data.toList.length = bb2.size := by simp
          rw [hbb] at h2
          have h3 : p2.length * 60 ≤ 200 * 60 := Nat.mul_le_mul_right _ hp2l
          omega
        have HOT2 := Lib.hid hot
        have HAB2 := Lib.hid hab
        have HBB2 := Lib.hid hbb
        have HALL2 := Lib.hid hall
        have HBL2 := Lib.hid hbl
        have HP2 := Lib.hid hp2
        have c0 := cell_below (show Below w.heap.size w wr by rw [HCC.out]; exact HBL2.out) HC0.out
        clear hot hab hbb hall hbl hp2 hp2b
        by_cases hjt : j < m
        · have hJ : (j : Int) < (m : Int) := by omega
          have hjl : j < os.length := by rw [HMM.out]; exact hjt
          obtain ⟨g2, o2, c2, hsl, hoc, hbr⟩ := (HIN0.out.below (by rw [HCC.out]; exact HBL2.out)).at (j := j) hjl
          obtain ⟨_, _, _, _, _, hbr0⟩ := HIN0.out.at (j := j) hjl
          obtain ⟨rfl, rfl⟩ : op = some ⟨g2, o2, none⟩ ∧ oc = c2 := by
            simp only [Value.slice.injEq] at hsl
            exact ⟨hsl.1, hsl.2.2⟩
          have hbq := HBY.out (os.getD j oqd) (by rw [List.getD_eq_getElem?_getD, List.getElem?_eq_getElem hjl]; exact List.getElem_mem hjl)
          have HTN := Lib.hid (takeO_next hjl)
          obtain ⟨⟨kd, x, u⟩, hq⟩ : ∃ z, os.getD j oqd = z := ⟨_, rfl⟩
          rw [hq] at hoc hbr hbr0 hbq HTN
          simp only at hoc hbr hbr0 hbq
          obtain ⟨up, uc, rfl, _⟩ := hbr.src
          obtain ⟨N, hN⟩ : ∃ z, x.bytes.length = z := ⟨_, rfl⟩
          rw [hN] at hoc hbr hbr0 hbq HTN
          obtain ⟨k0, k1, k2, k3⟩ := hoc
          simp only at k0 k1 k2 k3
          obtain ⟨W5, hW5⟩ : ∃ z, wr.alloc (.cells #[.int .i64 kd, .int .u64 (x.conn : Int), .int .i64 x.topic, .slice up N uc] 29) = z := ⟨_, rfl⟩
          obtain ⟨R5, hR5⟩ : ∃ z, wr.heap.size = z := ⟨_, rfl⟩
          have hb5 : Below wr.heap.size wr W5 := by rw [← hW5]; exact (Below.refl _ _).alloc (Nat.le_refl _) _
          have hR5' : W5.heap[R5]? = some (otObj kd x (.slice up N uc)) := by rw [← hW5, ← hR5]; exact World.alloc_heap_new _ _
          have HR5 := Lib.hid hR5'
          have HOT5 := Lib.hid (HOT2.out.below hb5)
          have HB5 := Lib.hid (HBL2.out.trans (hb5.mono (by have := HBL2.out.size; have := HCC.out; omega)))
          have HBR5 := Lib.hid (hbr.below hb5)
          have HSEP := Lib.hid (show x.bytes ≠ [] → ∀ g, (Value.slice up N uc).ownBlock = some g → (Value.slice lp2 p2.length lc2).ownBlock ≠ some g from fun hl g hg e => by
            obtain ⟨g', h1, h2⟩ := br_blk hbr0 hl
            rw [hg] at h1
            cases h1
            have h3 := (HOT2.out.own.lt g e).1
            have := HCC.out
            omega)
          have HRN := Lib.hid (show (Value.slice lp2 p2.length lc2).ownBlock ≠ some R5 from fun e => by
            have h3 := (HOT2.out.own.lt R5 e).2
            omega)
          obtain ⟨r0, r1, r2, r3, _⟩ := OR.of hR5'
          have HXN := Lib.hid hN
          have HW5 := Lib.hid hW5
          have HRR := Lib.hid hR5
          clear hsl hbr hbr0 hq hb5 hR5' hW5 hR5 hN
          go_upto_region 14 with (fail)
          rw [HRR.out, HW5.out]
          clear k0 k1 k2 k3 c0
          by_cases hN6 : 60 < N
          · have q3 : (60 : Int) < (N : Int) := by omega
            have HKW := Lib.hid (HK.out.below (show Below w.heap.size w _ by rw [HCC.out]; exact HB5.out))
            have KWK := Lib.hid (sc_works W5 (HKW.out).tabs (HKW.out).ml)
            go_wp2_with fail
            refine KWK.out.mono ?_
            rintro e wz ⟨rfl, hb⟩
            have HBZ := Lib.hid ((show Below w.heap.size w _ by rw [HCC.out]; exact HB5.out).trans (hb.mono (show Below w.heap.size w _ by rw [HCC.out]; exact HB5.out).size))
            clear hb
            go_wp2_with fail
            go_ret
            exact ⟨rfl, HBZ.out⟩
          have q3 : ¬ (60 : Int) < (N : Int) := by omega
          go_wp2_with (at_builtin; refine wpList_append_blk rfl _ _ 73 rfl C 29 j0 (.agg #[.int .i64 0, .int .u64 0, .int .i64 0, .slice none 0 0]) 4 48 Tryz.underlying73 hj hy0 hy1 hy2 rfl (by decide) _ _ _ rfl (own_belA HOT5.out.own ((Below.refl _ _).alloc (Nat.le_refl _) _)) ⟨W5.heap.size, 0, none⟩ 1 1 (otC (kd, x, .slice up N uc)) rfl rfl ?c1 ?c2 (by unfold maxLen; omega) (by omega) (by have := HB5.out.size; have := HCC.out; simp; omega) ?_)
          case c1 =>
            intro i u hi
            match i, hi with
            | 0, hi => simp [otC] at hi; subst hi; simp [Addr.add]
            | 1, hi => simp [otC] at hi; subst hi; simp [Addr.add]
            | 2, hi => simp [otC] at hi; subst hi; simp [Addr.add]
            | 3, hi => simp [otC] at hi; subst hi; simp [Addr.add]
          case c2 => intro u hu; simp [otC] at hu; rcases hu with rfl | rfl | rfl | rfl <;> rfl
          intro v9 w9 hown9 hgrow9 hblk9
          have hot9 := OtS.push (q := (kd, x, .slice up N uc)) (HOT5.out.below ((Below.refl _ _).alloc (Nat.le_refl _) _)) (HBR5.out.below ((Below.refl _ _).alloc (Nat.le_refl _) _)) HSEP.out hown9 hgrow9 (by simpa using hblk9)
          have hb9 : Below C w w9 := Below.grown (HB5.out.alloc (by have := HB5.out.size; have := HCC.out; omega) _) hgrow9 (by have := HB5.out.size; have := HCC.out; simp; omega) (own_geA HOT5.out.own)
          have hR9 : w9.heap[R5]? = some (otObj kd x (.slice up N uc)) := (hgrow9.block R5 (by have := (Array.getElem?_eq_some_iff.1 HR5.out).1; simp; omega) (fun e => HRN.out e.symm)).trans ((Below.heap_alloc _ _ _ (Array.getElem?_eq_some_iff.1 HR5.out).1).trans HR5.out)
          have hcv := conv_br (hot9.br _ (List.mem_append_right _ List.mem_cons_self))
          simp only at hcv
          obtain ⟨xb, hxb⟩ : ∃ z : ByteArray, (⟨x.bytes.toArray⟩ : ByteArray) = z := ⟨_, rfl⟩
          rw [hxb] at hcv
          have hxs : xb.size ≤ 60 := by
            have h2 : xb.data.toList.length = xb.size := by simp
            rw [← hxb] at h2 ⊢
            have h3 := HXN.out
            simp only at h2
            omega
          have HXB := Lib.hid (show xb.data.toList = x.bytes by rw [← hxb])
          have HP9 := Lib.hid (show ps ++ os.take (j + 1) = p2 ++ [(kd, x, .slice up N uc)] by rw [HTN.out, ← List.append_assoc, HP2.out])
          have HALL9 := Lib.hid (show ∀ p ∈ os.take (j + 1), p.2.1.bytes.length ≤ 60 from fun p hp => by
            rw [HTN.out] at hp
            rcases List.mem_append.1 hp with hp | hp
            · exact HALL2.out p hp
            · rw [List.mem_singleton] at hp; subst hp; show x.bytes.length ≤ 60; rw [HXN.out]; omega)
          obtain ⟨t0, t1, t2, t3, _⟩ := OR.of hR9
          obtain ⟨cn, hcn⟩ : ∃ z : Int, (x.conn : Int) = z := ⟨_, rfl⟩
          obtain ⟨tp, htp⟩ : ∃ z : Int, x.topic = z := ⟨_, rfl⟩
          rw [hcn] at t1
          rw [htp] at t2
          have HOT9 := Lib.hid hot9
          have HB9 := Lib.hid hb9
          have HCN := Lib.hid hcn
          have HTP := Lib.hid htp
          have HSA := Lib.hid (sift_app (isB c) p2 (kd, x, .slice up N uc))
          have HSB := Lib.hid (sift_app (isA t) p2 (kd, x, .slice up N uc))
          clear hown9 hgrow9 hblk9 hot9 hb9 hR9 hxb hcn htp r0 r1 r2 r3
          cases h1 : (kd == 2) with
          | true =>
            have h5 : (kd == 5) = false := by
              rw [beq_eq_false_iff_ne]
              rw [beq_iff_eq] at h1
              omega
            cases h2 : (cn == c) with
            | true =>
              have hB0 : isB c (kd, x, .slice up N uc) = true := by unfold isB; simp only; rw [HCN.out, h1, h2]; rfl
              have hA0 : isA t (kd, x, .slice up N uc) = false := by unfold isA; simp only; rw [HTP.out, h5]; rfl
              have HA1 := Lib.hid (show (ab2 ++ xb).data.toList = sift (isB c) (ps ++ os.take (j + 1)) by rw [HP9.out, HSA.out, hB0]; simp [HAB2.out, HXB.out])
              have HA2 := Lib.hid (show bb2.data.toList = sift (isA t) (ps ++ os.take (j + 1)) by rw [HP9.out, HSB.out, hA0]; simp [HBB2.out])
              clear hB0 hA0
              go_wp2_with fail
              go_roundw
              case rel => exact ⟨j + 1, _, _, hjt, by go_num, by rw [HP9.out]; exact HOT9.out, rfl, HA1.out, rfl, HA2.out, HALL9.out, HB9.out⟩
              case measure => simp [intOf]; omega
            | false =>
              have hB0 : isB c (kd, x, .slice up N uc) = false := by unfold isB; simp only; rw [HCN.out, h1, h2]; rfl
              have hA0 : isA t (kd, x, .slice up N uc) = false := by unfold isA; simp only; rw [HTP.out, h5]; rfl
              have HA1 := Lib.hid (show ab2.data.toList = sift (isB c) (ps ++ os.take (j + 1)) by rw [HP9.out, HSA.out, hB0]; simp [HAB2.out])
              have HA2 := Lib.hid (show bb2.data.toList = sift (isA t) (ps ++ os.take (j + 1)) by rw [HP9.out, HSB.out, hA0]; simp [HBB2.out])
              clear hB0 hA0
              go_wp2_with fail
              go_roundw
              case rel => exact ⟨j + 1, _, _, hjt, by go_num, by rw [HP9.out]; exact HOT9.out, rfl, HA1.out, rfl, HA2.out, HALL9.out, HB9.out⟩
              case measure => simp [intOf]; omega
          | false =>
            cases h5 : (kd == 5) with
            | true =>
              cases h4 : (tp == t) with
              | true =>
                have hB0 : isB c (kd, x, .slice up N uc) = false := by unfold isB; simp only; rw [HCN.out, h1]; rfl
                have hA0 : isA t (kd, x, .slice up N uc) = true := by unfold isA; simp only; rw [HTP.out, h5, h4]; rfl
                have HA1 := Lib.hid (show ab2.data.toList = sift (isB c) (ps ++ os.take (j + 1)) by rw [HP9.out, HSA.out, hB0]; simp [HAB2.out])
                have HA2 := Lib.hid (show (bb2 ++ xb).data.toList = sift (isA t) (ps ++ os.take (j + 1)) by rw [HP9.out, HSB.out, hA0]; simp [HBB2.out, HXB.out])
                clear hB0 hA0
                go_wp2_with fail
                go_roundw
                case rel => exact ⟨j + 1, _, _, hjt, by go_num, by rw [HP9.out]; exact HOT9.out, rfl, HA1.out, rfl, HA2.out, HALL9.out, HB9.out⟩
                case measure => simp [intOf]; omega
              | false =>
                have hB0 : isB c (kd, x, .slice up N uc) = false := by unfold isB; simp only; rw [HCN.out, h1]; rfl
                have hA0 : isA t (kd, x, .slice up N uc) = false := by unfold isA; simp only; rw [HTP.out, h5, h4]; rfl
                have HA1 := Lib.hid (show ab2.data.toList = sift (isB c) (ps ++ os.take (j + 1)) by rw [HP9.out, HSA.out, hB0]; simp [HAB2.out])
                have HA2 := Lib.hid (show bb2.data.toList = sift (isA t) (ps ++ os.take (j + 1)) by rw [HP9.out, HSB.out, hA0]; simp [HBB2.out])
                clear hB0 hA0
                go_wp2_with fail
                go_roundw
                case rel => exact ⟨j + 1, _, _, hjt, by go_num, by rw [HP9.out]; exact HOT9.out, rfl, HA1.out, rfl, HA2.out, HALL9.out, HB9.out⟩
                case measure => simp [intOf]; omega
            | false =>
              have hB0 : isB c (kd, x, .slice up N uc) = false := by unfold isB; simp only; rw [HCN.out, h1]; rfl
              have hA0 : isA t (kd, x, .slice up N uc) = false := by unfold isA; simp only; rw [HTP.out, h5]; rfl
              have HA1 := Lib.hid (show ab2.data.toList = sift (isB c) (ps ++ os.take (j + 1)) by rw [HP9.out, HSA.out, hB0]; simp [HAB2.out])
              have HA2 := Lib.hid (show bb2.data.toList = sift (isA t) (ps ++ os.take (j + 1)) by rw [HP9.out, HSB.out, hA0]; simp [HBB2.out])
              clear hB0 hA0
              go_wp2_with fail
              go_roundw
              case rel => exact ⟨j + 1, _, _, hjt, by go_num, by rw [HP9.out]; exact HOT9.out, rfl, HA1.out, rfl, HA2.out, HALL9.out, HB9.out⟩
              case measure => simp [intOf]; omega
        · have hJ : ¬ (j : Int) < (m : Int) := by omega
          have hoj : os.take j = os := List.take_of_length_le (by rw [HMM.out]; omega)
          have HE := Lib.hid (show p2 = allO (ds.take (k + 1)) by rw [HNX.out, HPS.out, ← HP2.out, hoj])
          have HAK := Lib.hid (HTK.out (fun q => q.1.length ≤ 8 ∧ ∀ p ∈ q.1, p.2.1.bytes.length ≤ 60) HALL.out ⟨by show os.length ≤ 8; rw [HMM.out]; omega, by have h := HALL2.out; rw [hoj] at h; exact h⟩)
          clear hoj
          go_wp2_with fail
          go_roundw
          case rel => exact ⟨k + 1, _, _, hlt, by go_num, by rw [← HE.out]; exact HOT2.out, rfl, by rw [← HE.out]; exact HAB2.out, rfl, by rw [← HE.out]; exact HBB2.out, HAK.out, HBL2.out⟩
          case measure => simp [intOf]; omega
    · have hI : ¬ (k : Int) < (n : Int) := by omega
      have hdk : ds.take k = ds := List.take_of_length_le (by rw [HNN.out]; omega)
      have HPE := Lib.hid (show allO ds = ps by rw [← HPS.out, hdk])
      have HAL := Lib.hid (show ∀ q ∈ ds, q.1.length ≤ 8 ∧ ∀ p ∈ q.1, p.2.1.bytes.length ≤ 60 by have h := HALL.out; rw [hdk] at h; exact h)
      clear hdk
      have HB := Lib.hid (show Below w.heap.size w _ by rw [HCC.out]; exact HBL.out)
      have HKW := Lib.hid (HK.out.below HB.out)
      have HV2 := Lib.hid (HV.out.below HB.out)
      have HSRC2 := Lib.hid (HSRC.out.imp id (fun ⟨ad, h1, h2⟩ => ⟨ad, h1, fun j u hj => cell_belowA' HB.out (h2 j u hj)⟩) : n = 0 ∨ ∃ ad, vp = some ad ∧ ∀ j u, (ds.flatMap dnC)[j]? = some u → wo.cell? (ad.add j) = some u)
      have HISL := Lib.hid (show ∀ q ∈ ds, isSl q.2.1 from fun q hq => by obtain ⟨p, c, h⟩ := (HV.out.2 q hq).1.slice; exact ⟨_, _, _, h⟩)
      obtain ⟨G, hG⟩ : ∃ z, wo.heap.size = z := ⟨_, rfl⟩
      have HG := Lib.hid hG
      have HO0 := Lib.hid (show (wo.alloc (.cells #[] 75)).ownsRow G 75 2 (.slice (some ⟨G, 0, none⟩) 0 0) 0 [] from ⟨rfl, .inr ⟨G, 0, #[], rfl, Nat.le_refl _, by rw [← hG]; exact World.alloc_heap_new _ _, Nat.le_refl _, by decide, rfl, rfl⟩⟩)
      clear hG
      go_wp2_with (at_builtin; (try rw [HG.out]); refine wpList_append_from rfl _ _ 72 rfl G 75 i0 (.agg #[.slice none 0 0, .int .i64 0]) 2 32 Tryz.underlying72 hi hz0 hz1 hz2 rfl (by decide) (.slice (some ⟨G, 0, none⟩) 0 0) 0 [] rfl HO0.out vp n vc (ds.flatMap dnC) rfl (by rw [flat_len dnC 2 dnC_len, HNN.out]) ?c1 (dnC_one HISL.out) (by unfold maxLen; omega) (by omega) (by simp; have := HG.out; omega) ?_)
      case c1 => exact HSRC2.out.imp id (fun ⟨ad, h1, h2⟩ => ⟨ad, h1, fun j u hj => cell_belowA' ((Below.refl wo.heap.size wo).alloc (Nat.le_refl _) _) (h2 j u hj)⟩)
      intro v1 w1 hown1 hgrow1
      (try rw [List.nil_append] at hown1)
      (try rw [Nat.zero_add] at hown1)
      have hb1 : Below wo.heap.size wo w1 := by
        rw [HG.out]
        exact Below.grown ((Below.refl _ _).alloc (by have := HG.out; omega) _) hgrow1 (by simp; have := HG.out; omega) (fun g hg => by simp [Value.ownBlock] at hg; omega)
      have hd1 : DnIn w1 v1 ds := ⟨Rin.of_own dnC_len (by decide) hown1, fun q hq => (HV2.out.2 q hq).below hb1⟩
      obtain ⟨p1, c1, rfl⟩ : ∃ p c, v1 = .slice p n c := by obtain ⟨p, c, h⟩ := own_slA hown1; exact ⟨p, c, h⟩
      have HOTA := Lib.hid (HOT.out.below hb1)
      have HKW := Lib.hid (HKW.out.below hb1)
      have HB := Lib.hid (HB.out.trans (hb1.mono HB.out.size))
      have K := Lib.hid (sc_Outs _ ds w1 hd1 (by rw [HNN.out]; omega) (fun q hq => by have := (HAL.out q hq).1; omega) (fun q hq p hp => by have := (HAL.out q hq).2 p hp; omega))
      clear hown1 hgrow1 hb1 hd1
      go_wp2_with fail
      refine K.out.mono ?_
      rintro e w2 ⟨v2, ps2, rfl, hot2, hkey, hb2⟩
      rw [HPE.out] at hkey
      have hp2l : ps2.length ≤ 64 := by
        have h1 := congrArg List.length hkey
        rw [List.length_map, List.length_map] at h1
        omega
      have HOTA := Lib.hid (HOTA.out.below hb2)
      have HKW := Lib.hid (HKW.out.below hb2)
      have HB := Lib.hid (HB.out.trans (hb2.mono HB.out.size))
      have K := Lib.hid (rf_SameOuts v2 _ ps2 ps w2 hot2 HOTA.out.otsIn hkey (by omega))
      obtain ⟨q2, d2, rfl⟩ := hot2.1.slice
      clear hot2 hkey hb2
      go_wp2_with fail
      refine K.out.mono ?_
      rintro e w3 ⟨rfl, hb3⟩
      have HOTA := Lib.hid (HOTA.out.below hb3)
      have HKW := Lib.hid (HKW.out.below hb3)
      have HB := Lib.hid (HB.out.trans (hb3.mono HB.out.size))
      have K := Lib.hid (sc_Bytes _ ps c w3 HOTA.out.otsIn (by omega) (fun p hp => by have := HPB.out p hp; omega))
      clear hb3
      go_wp2_with fail
      refine K.out.mono ?_
      rintro e w4 ⟨u4, rfl, hu4, hb4⟩
      have hcv := conv_brow hu4
      obtain ⟨pu, nu, cu, rfl⟩ := hu4.sl
      rw [show (⟨(sift (isB c) ps).toArray⟩ : ByteArray) = ab by rw [← HAB.out, ba_eta]] at hcv
      have e1 : (ab.toList == ab.toList) = true := beq_self_eq_true _
      have e2 : (bb.toList == bb.toList) = true := beq_self_eq_true _
      have HOTA := Lib.hid (HOTA.out.below hb4)
      have HKW := Lib.hid (HKW.out.below hb4)
      have HB := Lib.hid (HB.out.trans (hb4.mono HB.out.size))
      have K := Lib.hid (sc_Asked _ ps t w4 HOTA.out.otsIn (by omega) (fun p hp => by have := HPB.out p hp; omega))
      clear hb4 hu4
      go_wp2_with fail
      clear hcv
      refine K.out.mono ?_
      rintro e w5 ⟨u5, rfl, hu5, hb5⟩
      have hcv := conv_brow hu5
      obtain ⟨pv, nv, cv, rfl⟩ := hu5.sl
      rw [show (⟨(sift (isA t) ps).toArray⟩ : ByteArray) = bb by rw [← HBB.out, ba_eta]] at hcv
      have HKW := Lib.hid (HKW.out.below hb5)
      have HB := Lib.hid (HB.out.trans (hb5.mono HB.out.size))
      clear hb5 hu5
      have KWK := Lib.hid (sc_works w5 (HKW.out).tabs (HKW.out).ml)
      go_wp2_with fail
      refine KWK.out.mono ?_
      rintro e wz ⟨rfl, hb⟩
      have HBZ := Lib.hid ((HB.out).trans (hb.mono (HB.out).size))
      clear hb
      go_wp2_with fail
      go_ret
      exact ⟨rfl, HBZ.out⟩
end Go.Proofs.YtbaakfcbakpmpaaGreatDoor
