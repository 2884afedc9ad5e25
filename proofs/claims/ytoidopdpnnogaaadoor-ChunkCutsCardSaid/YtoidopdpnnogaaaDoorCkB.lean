/- Slices of bytes that come in; an append of bytes that may be nil. -/
import Derived.Test.YtoidopdpnnogaaaDoorCkA
import Derived.WideShapes
namespace Go.Proofs.YtoidopdpnnogaaaDoor
set_option linter.unusedVariables false
set_option linter.unusedSimpArgs false
open Go.RowKit Go.Shelf
set_option maxHeartbeats 2000000
theorem okWide_spot {P : Program} {w : World} {r : Reach} {base : Nat} {t e : TypeId} {a : Option Addr} {len cap : Nat} (ht : P.underlying t = some (.slice e)) (h : Value.okWide P w r base t (.slice a len cap)) : ∀ x, a = some x → x.spot = none := by
  rintro x rfl
  simp only [Value.okWide, ht, Cell.okWide, Cell.ok] at h
  exact h.2.2.2.1
/-- a slice of bytes that came in -/
def IsBytes (k : IntKind) (w : World) (a : Option Addr) (len cap : Nat) (zs : List Int) : Prop :=
  (a = none ∧ len = 0 ∧ cap = 0 ∧ zs = []) ∨
  ∃ x, a = some x ∧ x.spot = none ∧ len ≤ cap ∧ cap ≤ maxLen ∧ zs.length = cap ∧ (∀ i, i < zs.length → w.cell? (x.add i) = some (.int k (zs.getD i 0))) ∧ ∀ n ∈ zs, (Lit.int k n).wf = true
theorem IsBytes.brow {w : World} {a : Option Addr} {len cap : Nat} {zs : List Int} (h : IsBytes .u8 w a len cap zs) : ∃ l, BRow w (.slice a len cap) l ∧ l.length = len := by
  rcases h with ⟨rfl, rfl, rfl, rfl⟩ | ⟨x, rfl, hs, hl, hm, hz, hc, hw⟩
  · exact ⟨[], BRow.nil w, rfl⟩
  · obtain ⟨b, off, spot⟩ := x
    obtain rfl : spot = none := hs
    have hll : ((zs.take len).map (fun z => UInt8.ofNat z.toNat)).length = len := by rw [List.length_map, List.length_take]; omega
    refine ⟨(zs.take len).map (fun z => UInt8.ofNat z.toNat), ⟨some ⟨b, off, none⟩, cap, by rw [hll], by rw [hll]; exact hl, .inr ⟨b, off, rfl, fun j hj => ?_⟩⟩, hll⟩
    rw [hll] at hj
    have h1 := hc j (by omega)
    rw [Lib.add_plain] at h1
    rw [h1]
    have h2 : zs[j]? = some (zs.getD j 0) := by
      rw [List.getD_eq_getElem?_getD, List.getElem?_eq_getElem (by omega)]; rfl
    have h3 := hw _ (List.mem_of_getElem? h2)
    have h4 : 0 ≤ zs.getD j 0 ∧ zs.getD j 0 ≤ 255 := by simpa [Lit.wf, IntKind.min, IntKind.max, IntKind.signed, IntKind.bits] using h3
    have h5 : ((zs.take len).map (fun z => UInt8.ofNat z.toNat)).getD j 0 = UInt8.ofNat (zs.getD j 0).toNat := by
      rw [List.getD_eq_getElem?_getD, List.getElem?_map, List.getElem?_take_of_lt hj, h2]; rfl
    rw [h5]
    unfold by8
    congr 2
    rw [UInt8.toNat_ofNat']
    omega
theorem wpList_append_brow (w : World) {ops : Array Oper} {rest : List Oper} {o : Oper} {a : Act} {Q : Exit → Act → World → Prop} (hgd : o.guard = none) (s x : Operand)
    (ho : o.op = .call { callee := .builtin .append, args := #[s, x], argTypes := #[22, 22] })
    (base : Nat) (v : Value) (n : Nat) (xs : List Value) (hs : a.eval s = v) (hown : w.ownsRow base 5 1 v n xs)
    (xv : Value) (l : List UInt8) (hx : a.eval x = xv) (hb : BRow w xv l) (h63 : n + l.length ≤ 1000000) (hbase : base ≤ w.heap.size)
    (h : ∀ v' w', w'.ownsRow base 5 1 v' (n + l.length) (xs ++ l.map by8) → w.grownBy w' v.ownBlock → wpList Tryd.prog ops Q rest (a.put o.dst v') w') : wpList Tryd.prog ops Q (o :: rest) a w := by
  obtain ⟨i0, hi, hz0, hz1, hz2⟩ := info_parts info8
  obtain ⟨ao, cp, rfl, hc, hd⟩ := hb
  rcases hd with ⟨rfl, rfl, rfl⟩ | ⟨g, o2, rfl, hd⟩
  · exact wpList_append_own_none hgd s x 22 ho base 5 i0 1 Tryd.underlying22 hi v n xs hs hown hx (h v w (by simpa using hown) (grownBy_refl w))
  · refine wpList_append_own w hgd s x 22 ho base 5 i0 (.int .u8 0) 1 1 Tryd.underlying22 hi hz0 hz1 hz2 rfl (by decide) v n xs hs hown ⟨g, o2, none⟩ l.length cp (l.map by8) hx (by simp) (fun i u hu => BRow.news hd i u hu) (fun u hu => by8_one u l hu) (by unfold maxLen; omega) (by omega) hbase (fun v' w' h1 h2 _ => h v' w' h1 h2)
theorem own_head {w : World} {base n : Nat} {g cap : Nat} {l r : List UInt8} (h : w.ownsRow base 5 1 (.slice (some ⟨g, 0, none⟩) n cap) n ((l ++ r).map by8)) : l.length ≤ cap ∧ BRow w (.slice (some ⟨g, 0, none⟩) l.length cap) l ∧ (∀ x r', r = x :: r' → l.length + 1 ≤ cap ∧ w.cell? ⟨g, l.length, none⟩ = some (by8 x)) := by
  have hn : n = l.length + r.length := by have := h.1; simp at this; omega
  have hcap : n ≤ cap := by
    rcases h.2 with ⟨h0, _⟩ | ⟨g', cap', cur, e, _, _, h1, _⟩
    · cases h0
    · cases e; exact h1
  have hc := h.cells (g := g) rfl
  refine ⟨by omega, ⟨_, cap, rfl, by omega, .inr ⟨g, 0, rfl, fun j hj => ?_⟩⟩, fun x r' hr => ⟨by subst hr; simp at hn; omega, ?_⟩⟩
  · have h1 := hc j (by8 (l.getD j 0)) (by
      rw [List.getElem?_map, List.getElem?_append_left hj, List.getD_eq_getElem?_getD, List.getElem?_eq_getElem hj]; rfl)
    rw [Lib.add_plain] at h1
    exact h1
  · have h1 := hc l.length (by8 x) (by
      rw [hr, List.getElem?_map, List.getElem?_append_right (Nat.le_refl _), Nat.sub_self]; rfl)
    rw [Lib.add_plain, Nat.zero_add] at h1
    exact h1
theorem brows_two {w : World} {x y : Value} {l r : List UInt8} {B : Nat} (h : BRow w x l) (k : BRow w y r) (hB : B = w.heap.size) : BRows (w.alloc (.cells #[x, y] 22)) (.slice (some ⟨B, 0, none⟩) 2 2) [l, r] := by
  subst hB
  refine ⟨_, 2, rfl, Nat.le_refl _, .inr ⟨w.heap.size, 0, rfl, fun j hj => ?_⟩⟩
  rw [Nat.zero_add, World.cell?_alloc_new]
  match j, hj with
  | 0, _ => exact ⟨x, rfl, h.below ((Below.refl _ w).alloc (Nat.le_refl _) _)⟩
  | 1, _ => exact ⟨y, rfl, k.below ((Below.refl _ w).alloc (Nat.le_refl _) _)⟩
  | n + 2, h => exact absurd h (by simp)
theorem sz_enc (l : List UInt8) : szI (l.length : Int) = ((enc l).length : Int) := by
  unfold szI enc
  by_cases h : l = []
  · subst h; rfl
  · have h1 : 0 < l.length := List.length_pos_iff.2 h
    rw [if_neg (by omega), if_neg h, Int.toNat_natCast]
    simp only [List.length_append, List.length_cons, List.length_nil]
    omega
end Go.Proofs.YtoidopdpnnogaaaDoor
