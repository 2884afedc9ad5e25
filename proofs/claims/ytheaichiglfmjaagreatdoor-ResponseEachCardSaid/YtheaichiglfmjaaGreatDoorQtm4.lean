/- Texts of this claim, one behind the other: Qk, Ql, Qq, Qr, Qm, Qn, Qo, Qs, Qt. -/
import Derived.Test.YtheaichiglfmjaaGreatDoorQtm3
import Derived.Test.YtheaichiglfmjaaGreatDoorQtm2
import Derived.ChangeMaps4
import Derived.MapKept
import Derived.Maps.RangeRun
import Derived.Laws.IdiomRangeMap
import Derived.ProofKit
import Derived.Lib.SmallJoins
import Derived.WideShapes
/- response: the kit of heads put together; the reference's Same; num. No conditions but those that each law states. -/
namespace Go.Proofs.YtheaichiglfmjaaGreatDoor
set_option linter.unusedVariables false
set_option linter.unusedSimpArgs false
open Go.RowKit Go.Shelf
set_option maxHeartbeats 8000000
set_option maxRecDepth 100000
/-- headers' cells -/
def hds (l : List Hp.Hd) : List Value := l.flatMap fun p => [Hp.sx p.1, Hp.sx p.2]
theorem hds_snoc (l : List Hp.Hd) (p : Hp.Hd) : hds (l ++ [p]) = hds l ++ [Hp.sx p.1, Hp.sx p.2] := by unfold hds; rw [List.flatMap_append]; simp
theorem hds_get : ∀ (L : List Hp.Hd) (j : Nat), j < L.length → (hds L)[j * 2]? = some (Hp.sx (L.getD j ([], [])).1) ∧ (hds L)[j * 2 + 1]? = some (Hp.sx (L.getD j ([], [])).2)
  | p :: L, 0, _ => ⟨rfl, rfl⟩
  | p :: L, j + 1, h => by
    have := hds_get L j (by simpa using h)
    have e : hds (p :: L) = Hp.sx p.1 :: Hp.sx p.2 :: hds L := rfl
    rw [e, show (j + 1) * 2 = j * 2 + 1 + 1 by omega]
    simpa using this
theorem HS.own {w : World} {B : Nat} {v : Value} {fs : List Hp.Hd} (h : w.ownsRow B 56 2 v fs.length (hds fs)) : HS w v fs := by
  rcases h.2 with ⟨rfl, h0⟩ | ⟨g, cap, cur, rfl, hBg, hg, hnc, _, hcs, htk⟩
  · exact .inl ⟨none, 0, rfl, List.length_eq_zero_iff.1 h0⟩
  · refine .inr ⟨g, 0, cap, rfl, fun j hj => ?_⟩
    have hp := hds_get fs j hj
    rw [← htk] at hp
    rw [List.getElem?_take_of_lt (by omega), List.getElem?_take_of_lt (by omega)] at hp
    rw [Nat.zero_add]
    refine ⟨?_, ?_⟩
    · rw [← hp.1]; simp [World.cell?, hg]
    · rw [← hp.2]; simp [World.cell?, hg]
theorem heap_alloc_old' {w : World} {k : Nat} {x : Obj} (o : Obj) (h : w.heap[k]? = some x) : (w.alloc o).heap[k]? = some x := by
  rw [Below.heap_alloc _ _ _ (Array.getElem?_eq_some_iff.1 h).1]; exact h
theorem own_ne {w : World} {B n : Nat} {v : Value} {xs : List Value} (h : w.ownsRow B 56 2 v n xs) {k : Nat} {cs : Array Value} {t : TypeId} {fr : Nat × Nat} (hk : w.heap[k]? = some (.cells cs t fr)) (ht : t ≠ 56) : some k ≠ v.ownBlock := by
  rcases h.2 with ⟨rfl, h0⟩ | ⟨g, cap, cur, rfl, hBg, hg, hnc, _, hcs, htk⟩
  · intro e; cases e
  · intro e
    obtain rfl : k = g := by simpa [Value.ownBlock] using e
    rw [hk] at hg
    cases hg
    exact ht rfl
/-- a head that the reference puts together -/
def RSt (w0 : World) (A B : Nat) (F : ByteArray) (fs : List Hp.Hd) (w : World) : Prop := ∃ V, w.heap[A]? = some (.cells #[.string F, V] 28 (0, 0)) ∧ w.ownsRow B 56 2 V fs.length (hds fs) ∧ B ≤ w.heap.size ∧ w0.heap.size ≤ B ∧ w0.heap.size ≤ A ∧ Below w0.heap.size w0 w
theorem rst_put {w0 w w' : World} {A B : Nat} {F : ByteArray} {fs : List Hp.Hd} {V v' : Value} (hA : w.heap[A]? = some (.cells #[.string F, V] 28 (0, 0))) (hO : w.ownsRow B 56 2 V fs.length (hds fs)) (hB : B ≤ w.heap.size) (h0 : w0.heap.size ≤ B) (hA0 : w0.heap.size ≤ A) (hb : Below w0.heap.size w0 w)
    (p : Hp.Hd) (ob : Obj) (hown : w'.ownsRow B 56 2 v' (fs.length + 1) (hds fs ++ [Hp.sx p.1, Hp.sx p.2])) (hg : (w.alloc ob).grownBy w' V.ownBlock) :
    w'.heap[A]? = some (.cells #[.string F, V] 28 (0, 0)) ∧ RSt w0 A B F (fs ++ [p]) (w'.setCell ⟨A, 1, none⟩ v') := by
  have hA2 := heap_alloc_old' ob hA
  have h1 : w'.heap[A]? = some (.cells #[.string F, V] 28 (0, 0)) := (hg.block A (Array.getElem?_eq_some_iff.1 hA2).1 (own_ne hO hA (by decide))).trans hA2
  refine ⟨h1, v', heap_setCell_same _ _ 1 _ _ _ h1, ?_, ?_, h0, hA0, ?_⟩
  · rw [hds_snoc, List.length_append]
    refine ⟨hown.1, hown.2.imp id ?_⟩
    rintro ⟨g, cap, cur, e1, e2, e3, e4⟩
    refine ⟨g, cap, cur, e1, e2, ?_, e4⟩
    rw [Below.heap_setCell _ _ _ _ (fun e => by
      have e5 : g = A := e
      rw [e5, h1] at e3
      injection Option.some.inj e3 with _ h5 _
      exact absurd h5 (by decide))]
    exact e3
  · have := hg.size
    simp at this ⊢
    omega
  · exact (Below.grown (hb.alloc (Nat.le_trans h0 hB) _) hg (by simp; omega) (fun k hk => Nat.le_trans h0 (own_geH hO k hk))).setCell (p := ⟨A, 1, none⟩) hA0 _
theorem rs_num (n : Int) (w : World) : Calls Tryz.prog 12 #[.int .i64 n] w fun e w' => e = .returned (.int .i64 n) ∧ w' = w := by
  go_enter Tryz.func12, Tryz.ntmps12
  go_wp2
  go_ret
  exact ⟨rfl, rfl⟩
theorem HS.cellsN {w : World} {p : Option Addr} {n c : Nat} {L : List Hp.Hd} (h : HS w (.slice p n c) L) (hn : L.length = n) {k : Nat} (hk : k < L.length) : ∃ b off, p = some ⟨b, off, none⟩ ∧ ∀ j, j < L.length → w.cell? ⟨b, off + j * 2, none⟩ = some (Hp.sx (L.getD j ([], [])).1) ∧ w.cell? ⟨b, off + j * 2 + 1, none⟩ = some (Hp.sx (L.getD j ([], [])).2) := h.cells hk
theorem hd_in (a b : ByteArray) (W : World) : (Op.equalIn 10000 56 (.agg #[.string a, .string b]) (.agg #[.string a, .string b])).run Tryz.prog W = .ok true W := by
  have u9 := Tryz.underlying9
  have hS : Tryz.prog.underlying 56 = some (.struct (Tryz.prog.fieldsOf 56)) := by kernel_rfl
  have hp : Tryz.prog.stoodInHeld 56 = false := by kernel_rfl
  rw [show (10000 : Nat) = 9999 + 1 from rfl, run_equalIn_agg W 9999 56 _ _ hS hp]
  simp only [Program.fieldsOf, Tryz.underlying56]
  go_simp
theorem hd_neq (a b : ByteArray) : ∀ W : World, (binOp .neq 56 (.agg #[.string a, .string b]) (.agg #[.string a, .string b])).run Tryz.prog W = .ok (.bool false) W := by
  intro W
  rw [run_neq_struct, hd_in]
  rfl
theorem rf_Same (F : List UInt8) (v1 v2 : Value) (fs : List Hp.Hd) (w : World) (h1 : HS w v1 fs) (h2 : HS w v2 fs) (hl : fs.length ≤ 1000) :
    Calls Tryz.prog 17 #[.agg #[Hp.sx F, v1], .agg #[Hp.sx F, v2]] w fun e w' => e = .returned (.bool true) ∧ Below w.heap.size w w' := by
  obtain ⟨p1, c1, rfl⟩ := h1.slice
  obtain ⟨p2, c2, rfl⟩ := h2.slice
  obtain ⟨fb, hfb⟩ : ∃ z : ByteArray, (⟨F.toArray⟩ : ByteArray) = z := ⟨_, rfl⟩
  unfold Hp.sx
  rw [hfb]
  obtain ⟨n, hn⟩ : ∃ n, fs.length = n := ⟨_, rfl⟩
  obtain ⟨W2, hW2⟩ : ∃ z, (w.alloc (.cells #[.string fb, .slice p1 n c1] 28)).alloc (.cells #[.string fb, .slice p2 n c2] 28) = z := ⟨_, rfl⟩
  have hb : Below w.heap.size w W2 := by rw [← hW2]; exact ((Below.refl _ _).alloc (Nat.le_refl _) _).alloc (by simp) _
  have hA : W2.heap[w.heap.size]? = some (.cells #[.string fb, .slice p1 n c1] 28 (0, 0)) := by
    rw [← hW2, Below.heap_alloc _ _ _ (by simp)]; exact World.alloc_heap_new _ _
  have hB : W2.heap[w.heap.size + 1]? = some (.cells #[.string fb, .slice p2 n c2] 28 (0, 0)) := by
    have h := World.alloc_heap_new (w.alloc (.cells #[.string fb, .slice p1 n c1] 28)) (.cells #[.string fb, .slice p2 n c2] 28)
    rw [hW2] at h
    simpa using h
  have a0 : W2.cell? ⟨w.heap.size, 0, none⟩ = some (.string fb) := by simp [World.cell?, hA]
  have a1 : W2.cell? ⟨w.heap.size, 1, none⟩ = some (.slice p1 n c1) := by simp [World.cell?, hA]
  have b0 : W2.cell? ⟨w.heap.size + 1, 0, none⟩ = some (.string fb) := by simp [World.cell?, hB]
  have b1 : W2.cell? ⟨w.heap.size + 1, 1, none⟩ = some (.slice p2 n c2) := by simp [World.cell?, hB]
  have HB := Lib.hid hb
  have HW2 := Lib.hid hW2
  rw [hn] at h1 h2
  have H1 := Lib.hid (h1.below hb)
  have H2 := Lib.hid (h2.below hb)
  have HN := Lib.hid hn
  have hq : (fb.toList != fb.toList) = false := by simp
  rw [hn] at hl ⊢
  clear hb hA hB hW2 h1 h2 hn hfb
  go_enter Tryz.func17, Tryz.ntmps17
  go_upto_region 1 with (fail)
  rw [HW2.out]
  go_wp2_with fail
  go_loopw [5] (fun i wr => ∃ k : Nat, k ≤ n ∧ i = .int .i64 k ∧ Below W2.heap.size W2 wr) (fun i _ => n - (intOf i).toNat)
  case atStart => exact ⟨0, Nat.zero_le _, rfl, Below.refl _ _⟩
  case round =>
    obtain ⟨k, hk, rfl, hbr⟩ := hrel
    have HBR := Lib.hid hbr
    have A1 := cell_below hbr a1
    have B1 := cell_below hbr b1
    clear hbr a0 a1 b0 b1
    by_cases hlt : k < n
    · have hlt2 : k < fs.length := by rw [HN.out]; exact hlt
      obtain ⟨b1', o1, rfl, hc1⟩ := (H1.out.below HBR.out).cellsN HN.out hlt2
      obtain ⟨b2', o2, rfl, hc2⟩ := (H2.out.below HBR.out).cellsN HN.out hlt2
      obtain ⟨x0, x1⟩ := hc1 k hlt2
      obtain ⟨z0, z1⟩ := hc2 k hlt2
      obtain ⟨⟨xn, xv⟩, hq⟩ : ∃ q, fs.getD k ([], []) = q := ⟨_, rfl⟩
      rw [hq] at x0 x1 z0 z1
      unfold Hp.sx at x0 x1 z0 z1
      obtain ⟨nb, hnb⟩ : ∃ z : ByteArray, (⟨xn.toArray⟩ : ByteArray) = z := ⟨_, rfl⟩
      obtain ⟨vb, hvb⟩ : ∃ z : ByteArray, (⟨xv.toArray⟩ : ByteArray) = z := ⟨_, rfl⟩
      simp only [hnb, hvb] at x0 x1 z0 z1
      have HNE := Lib.hid (hd_neq nb vb)
      have hne := HNE.out
      clear hc1 hc2 hq hnb hvb
      go_upto_region 6 with (fail)
      go_region
      go_wp2_with fail
      go_roundw
      case rel => exact ⟨k + 1, hlt, by go_num, HBR.out.trans ⟨rfl, rfl, rfl, Nat.le_refl _, fun _ _ => rfl⟩⟩
      case measure => simp [intOf]; omega
    · obtain rfl : k = n := by omega
      go_wp2_with fail
      go_ret
      exact ⟨rfl, HB.out.trans (HBR.out.mono HB.out.size)⟩
end Go.Proofs.YtheaichiglfmjaaGreatDoor

/- response: Head. No conditions but those that each law states. -/
namespace Go.Proofs.YtheaichiglfmjaaGreatDoor
set_option linter.unusedVariables false
set_option linter.unusedSimpArgs false
open Go.RowKit Go.Shelf
set_option maxHeartbeats 8000000
set_option maxRecDepth 100000
namespace Rs
/-- may a reply be? -/
def okR (r : Rep) : Prop := (100 ≤ r.1 ∧ r.1 ≤ 599) ∧ ¬ (r.2.2.1 = true ∧ r.2.2.2.1 = true) ∧ ¬ (0 < r.2.2.2.2 ∧ r.2.2.2.1 = false)
instance (r : Rep) : Decidable (okR r) := by unfold okR; infer_instance
def line (r : Rep) : List UInt8 := Hp.http ++ Dp.digs 10 r.1.toNat ++ [32, 120]
def flds (r : Rep) : List Hp.Hd := (if r.2.1 then [(Hp.ct, Hp.es)] else []) ++ (if r.2.2.1 then [(Hp.te, Hp.ch)] else []) ++ (if r.2.2.2.1 then [(Hp.cl, Dp.digs 10 r.2.2.2.2.toNat)] else [])
/-- a reply's head -/
def head (r : Rep) : Option (List UInt8 × List Hp.Hd) := if okR r then some (line r, flds r) else none
end Rs
/-- what Head tells -/
def HdO (o : Option (List UInt8 × List Hp.Hd)) (e : Ending) (w : World) : Prop := match o with
  | some (F, fs) => ∃ v, e = .returned (.tuple #[.agg #[Hp.sx F, v], .int .i64 0]) ∧ HS w v fs
  | none => e = .returned (.tuple #[.agg #[.string ⟨#[]⟩, .slice none 0 0], .int .i64 2])
/-- the heads that may go in, laid out -/
def hdL (ev ck sz : Bool) (db : ByteArray) : List (Bool × Value × Value) := [(ev, .string ⟨#[99, 111, 110, 116, 101, 110, 116, 45, 116, 121, 112, 101]⟩, .string ⟨#[116, 101, 120, 116, 47, 101, 118, 101, 110, 116, 45, 115, 116, 114, 101, 97, 109]⟩), (ck, .string ⟨#[116, 114, 97, 110, 115, 102, 101, 114, 45, 101, 110, 99, 111, 100, 105, 110, 103]⟩, .string ⟨#[99, 104, 117, 110, 107, 101, 100]⟩), (sz, .string ⟨#[99, 111, 110, 116, 101, 110, 116, 45, 108, 101, 110, 103, 116, 104]⟩, .string db)]
def HdCells (w : World) (g : Nat) (L : List (Bool × Value × Value)) : Prop := ∀ k, k < 3 → w.cell? ⟨g, k * 3, none⟩ = some (.bool (L.getD k (false, undef, undef)).1) ∧ w.cell? ⟨g, k * 3 + 1, none⟩ = some (L.getD k (false, undef, undef)).2.1 ∧ w.cell? ⟨g, k * 3 + 2, none⟩ = some (L.getD k (false, undef, undef)).2.2
def hdO (ev ck sz : Bool) (db : ByteArray) : Obj := .cells #[.bool ev, .string ⟨#[99, 111, 110, 116, 101, 110, 116, 45, 116, 121, 112, 101]⟩, .string ⟨#[116, 101, 120, 116, 47, 101, 118, 101, 110, 116, 45, 115, 116, 114, 101, 97, 109]⟩, .bool ck, .string ⟨#[116, 114, 97, 110, 115, 102, 101, 114, 45, 101, 110, 99, 111, 100, 105, 110, 103]⟩, .string ⟨#[99, 104, 117, 110, 107, 101, 100]⟩, .bool sz, .string ⟨#[99, 111, 110, 116, 101, 110, 116, 45, 108, 101, 110, 103, 116, 104]⟩, .string db] 71 (0, 0)
def HdItems (B : Nat) (ev ck sz : Bool) (db : ByteArray) (w : World) (v : Value) : Prop := ∃ g, v = .slice (some ⟨g, 0, none⟩) 3 3 ∧ B ≤ g ∧ w.heap[g]? = some (hdO ev ck sz db)
theorem HdCells.below {w w' : World} {g : Nat} {L : List (Bool × Value × Value)} (h : HdCells w g L) (hb : Below w.heap.size w w') : HdCells w' g L :=
  fun k hk => ⟨cell_below hb (h k hk).1, cell_below hb (h k hk).2.1, cell_below hb (h k hk).2.2⟩
theorem HdItems.below {B : Nat} {ev ck sz : Bool} {db : ByteArray} {w w' : World} {v : Value} (h : HdItems B ev ck sz db w v) (hb : Below w.heap.size w w') : HdItems B ev ck sz db w' v := by
  obtain ⟨g, h1, h2, h3⟩ := h
  exact ⟨g, h1, h2, (hb.block _ (Array.getElem?_eq_some_iff.1 h3).1).trans h3⟩
theorem hdO_cells {w : World} {g : Nat} {ev ck sz : Bool} {db : ByteArray} (h : w.heap[g]? = some (hdO ev ck sz db)) : HdCells w g (hdL ev ck sz db) := by
  unfold hdO at h
  intro k hk
  match k, hk with
  | 0, _ => exact ⟨by simp [World.cell?, h, hdL], by simp [World.cell?, h, hdL], by simp [World.cell?, h, hdL]⟩
  | 1, _ => exact ⟨by simp [World.cell?, h, hdL], by simp [World.cell?, h, hdL], by simp [World.cell?, h, hdL]⟩
  | 2, _ => exact ⟨by simp [World.cell?, h, hdL], by simp [World.cell?, h, hdL], by simp [World.cell?, h, hdL]⟩
  | k + 3, hk => exact absurd hk (by omega)
theorem rst_alloc {w0 w : World} {A B : Nat} {F : ByteArray} {fs : List Hp.Hd} (h : RSt w0 A B F fs w) (ob : Obj) : RSt w0 A B F fs (w.alloc ob) := by
  obtain ⟨V, h1, h2, h3, h4, h5, h6⟩ := h
  exact ⟨V, heap_alloc_old' ob h1, h2.alloc _, by simp; omega, h4, h5, h6.alloc h6.size _⟩
theorem rst_keep {w w' : World} {D B n : Nat} {V : Value} {xs : List Value} (hO : w.ownsRow B 56 2 V n xs) (ob : Obj) (hg : (w.alloc ob).grownBy w' V.ownBlock) {b : Nat} {cs : Array Value} {t : TypeId} {fr : Nat × Nat} (hb : w.heap[b]? = some (.cells cs t fr)) (ht : t ≠ 56) (hbD : b ≠ D) (x : Value) :
    (w'.setCell ⟨D, 1, none⟩ x).heap[b]? = some (.cells cs t fr) :=
  (Below.heap_setCell _ _ _ _ hbD).trans ((hg.block b (Array.getElem?_eq_some_iff.1 (heap_alloc_old' ob hb)).1 (own_ne hO hb ht)).trans (heap_alloc_old' ob hb))
theorem own_set {w : World} {B A i s n : Nat} {e : TypeId} {v x : Value} {xs : List Value} (h : w.ownsRow B e s v n xs) (hA : A < B) : (w.setCell ⟨A, i, none⟩ x).ownsRow B e s v n xs := by
  refine ⟨h.1, h.2.imp id ?_⟩
  rintro ⟨g, cap, cur, e1, e2, e3, e4⟩
  exact ⟨g, cap, cur, e1, e2, (Below.heap_setCell _ _ _ _ (by show g ≠ A; omega)).trans e3, e4⟩
/-- the same, plainly -/
def hpL (ev ck sz : Bool) (ln : Nat) : List (Bool × Hp.Hd) := [(ev, (Hp.ct, Hp.es)), (ck, (Hp.te, Hp.ch)), (sz, (Hp.cl, Dp.digs 10 ln))]
def selL (L : List (Bool × Hp.Hd)) : List Hp.Hd := (L.filter (·.1)).map (·.2)
theorem hdL_at {ev ck sz : Bool} {ln : Nat} {db : ByteArray} (hdb : (⟨(Dp.digs 10 ln).toArray⟩ : ByteArray) = db) {k : Nat} (hk : k < 3) : ∃ (bb : Bool) (nb vb : ByteArray) (x y : List UInt8), (hdL ev ck sz db).getD k (false, undef, undef) = (bb, .string nb, .string vb) ∧ Hp.sx x = .string nb ∧ Hp.sx y = .string vb ∧
    selL ((hpL ev ck sz ln).take (k + 1)) = selL ((hpL ev ck sz ln).take k) ++ (if bb then [(x, y)] else []) := by
  match k, hk with
  | 0, _ => exact ⟨ev, _, _, Hp.ct, Hp.es, rfl, rfl, rfl, by cases ev <;> rfl⟩
  | 1, _ => exact ⟨ck, _, _, Hp.te, Hp.ch, rfl, rfl, rfl, by cases ev <;> cases ck <;> rfl⟩
  | 2, _ => exact ⟨sz, _, db, Hp.cl, Dp.digs 10 ln, rfl, rfl, by rw [← hdb]; rfl, by cases ev <;> cases ck <;> cases sz <;> rfl⟩
  | k + 3, hk => exact absurd hk (by omega)
theorem selL_all (ev ck sz : Bool) (ln : Nat) (st : Int) : selL ((hpL ev ck sz ln).take 3) = Rs.flds (st, ev, ck, sz, (ln : Int)) := by
  cases ev <;> cases ck <;> cases sz <;> rfl
def hdF (A B ln : Nat) (ev ck sz : Bool) (db : ByteArray) : Nat → World → Value → Prop
  | 0, _, v => v = .pointer (some ⟨A, 1, none⟩)
  | 1, _, v => v = .bool ev
  | 2, _, v => v = .agg #[.string ⟨#[99, 111, 110, 116, 101, 110, 116, 45, 116, 121, 112, 101]⟩, .string ⟨#[116, 101, 120, 116, 47, 101, 118, 101, 110, 116, 45, 115, 116, 114, 101, 97, 109]⟩]
  | 3, _, v => v = .agg #[.bool ev, .string ⟨#[99, 111, 110, 116, 101, 110, 116, 45, 116, 121, 112, 101]⟩, .string ⟨#[116, 101, 120, 116, 47, 101, 118, 101, 110, 116, 45, 115, 116, 114, 101, 97, 109]⟩]
  | 4, _, v => v = .pointer (some ⟨A, 2, none⟩)
  | 5, _, v => v = .bool ck
  | 6, _, v => v = .agg #[.string ⟨#[116, 114, 97, 110, 115, 102, 101, 114, 45, 101, 110, 99, 111, 100, 105, 110, 103]⟩, .string ⟨#[99, 104, 117, 110, 107, 101, 100]⟩]
  | 7, _, v => v = .agg #[.bool ck, .string ⟨#[116, 114, 97, 110, 115, 102, 101, 114, 45, 101, 110, 99, 111, 100, 105, 110, 103]⟩, .string ⟨#[99, 104, 117, 110, 107, 101, 100]⟩]
  | 8, _, v => v = .pointer (some ⟨A, 3, none⟩)
  | 9, _, v => v = .bool sz
  | 10, _, v => v = .pointer (some ⟨A, 4, none⟩)
  | 11, _, v => v = .int .u64 (ln : Int)
  | 12, _, v => v = .string db
  | 13, _, v => v = .agg #[.string ⟨#[99, 111, 110, 116, 101, 110, 116, 45, 108, 101, 110, 103, 116, 104]⟩, .string db]
  | 14, _, v => v = .agg #[.bool sz, .string ⟨#[99, 111, 110, 116, 101, 110, 116, 45, 108, 101, 110, 103, 116, 104]⟩, .string db]
  | 15, w, v => HdItems B ev ck sz db w v
  | 16, _, v => v = .int .i64 3
  | 17, _, v => v = .int .i64 0
  | _, _, _ => False
theorem hd_stored {w : World} {A : Nat} {a b : Value} (h : w.heap[A]? = some (.cells #[a, b] 28 (0, 0))) (x y : Value) :
    ((w.setCell ⟨A, 0, none⟩ x).setCell ⟨A, 1, none⟩ y).cell? ⟨A, 0, none⟩ = some x ∧ ((w.setCell ⟨A, 0, none⟩ x).setCell ⟨A, 1, none⟩ y).cell? ⟨A, 1, none⟩ = some y := by
  have h1 := heap_setCell_same w A 0 _ _ x h
  have h2 := heap_setCell_same _ A 1 _ _ y h1
  exact ⟨by simp [World.cell?, h2], by simp [World.cell?, h2]⟩
theorem rs_Head (st : Int) (ev ck sz : Bool) (ln : Nat) (w : World) (hst : -9223372036854775808 ≤ st ∧ st ≤ 9223372036854775807) (hln : ln < 18446744073709551616) (ht : Tabs w) :
    Calls Tryz.prog 11 #[repV (st, ev, ck, sz, (ln : Int))] w fun e w' => HdO (Rs.head (st, ev, ck, sz, (ln : Int))) e w' ∧ Below w.heap.size w w' := by
  obtain ⟨A, hA⟩ : ∃ z, w.heap.size = z := ⟨_, rfl⟩
  obtain ⟨W2, hW2⟩ : ∃ z, (w.alloc (repC (st, ev, ck, sz, (ln : Int)))).alloc (.cells #[.string ⟨#[]⟩, .slice none 0 0] 28) = z := ⟨_, rfl⟩
  have HB2 := Lib.hid (show Below w.heap.size w W2 by rw [← hW2]; exact ((Below.refl _ _).alloc (Nat.le_refl _) _).alloc (by simp) _)
  have HZ2 := Lib.hid (show W2.heap.size = A + 2 by rw [← hW2, ← hA]; simp)
  have hR : W2.heap[A]? = some (repC (st, ev, ck, sz, (ln : Int))) := by
    rw [← hW2, Below.heap_alloc _ _ _ (by simp [hA]), ← hA]; exact World.alloc_heap_new _ _
  have hH : W2.heap[A + 1]? = some (.cells #[.string ⟨#[]⟩, .slice none 0 0] 28 (0, 0)) := by
    have h := World.alloc_heap_new (w.alloc (repC (st, ev, ck, sz, (ln : Int)))) (.cells #[.string ⟨#[]⟩, .slice none 0 0] 28)
    rw [hW2] at h
    simpa [hA] using h
  have HR := Lib.hid hR
  have HH := Lib.hid hH
  have HW2 := Lib.hid hW2
  have HA := Lib.hid hA
  have HT := Lib.hid (ht.below HB2.out)
  have KV := Lib.hid (fun W => rs_valid st W)
  obtain ⟨o, ho⟩ : ∃ o, Rs.head (st, ev, ck, sz, (ln : Int)) = o := ⟨_, rfl⟩
  rw [ho]
  have HO := Lib.hid ho
  obtain ⟨ok, hok⟩ : ∃ z, decide (Rs.okR (st, ev, ck, sz, (ln : Int))) = z := ⟨_, rfl⟩
  have HOK := Lib.hid hok
  obtain ⟨c0, c1, c2, c3, c4⟩ := rep_cell hR
  simp only at c0 c1 c2 c3 c4
  clear hA hW2 hR hH ho hok ht
  unfold repV
  unfold repC at HW2
  go_enter Tryz.func11, Tryz.ntmps11
  go_upto_region 1 with (fail)
  rw [HW2.out, HA.out]
  go_cut [28] from 7 (fun s28 wx => s28 = .bool (!ok) ∧ wx = W2)
  case first =>
    by_cases hv : 100 ≤ st ∧ st ≤ 599
    · rw [decide_eq_true hv] at KV
      have HV := Lib.hid hv
      clear hv
      by_cases hln0 : ln = 0
      · subst hln0
        cases ck <;> cases sz
        all_goals
          go_wp2_with fail
          refine (KV.out W2).mono ?_
          rintro e w3 ⟨rfl, hw⟩
          subst hw
          go_wp2_with fail
          go_meet
          have hv := HV.out
          first
            | (have hk : ok = true := by rw [← HOK.out]; exact decide_eq_true (by unfold Rs.okR; simp; omega)
               subst hk; exact ⟨rfl, rfl⟩)
            | (have hk : ok = false := by rw [← HOK.out]; exact decide_eq_false (by unfold Rs.okR; simp)
               subst hk; exact ⟨rfl, rfl⟩)
      · have hq : (0 : Int) < (ln : Int) := by omega
        clear hln0
        cases ck <;> cases sz
        all_goals
          go_wp2_with fail
          refine (KV.out W2).mono ?_
          rintro e w3 ⟨rfl, hw⟩
          subst hw
          go_wp2_with fail
          go_meet
          have hv := HV.out
          first
            | (have hk : ok = true := by rw [← HOK.out]; exact decide_eq_true (by unfold Rs.okR; simp; omega)
               subst hk; exact ⟨rfl, rfl⟩)
            | (have hk : ok = false := by rw [← HOK.out]; exact decide_eq_false (by unfold Rs.okR; first | (simp [hq]; done) | (simp [hq]; omega))
               subst hk; exact ⟨rfl, rfl⟩)
    · rw [decide_eq_false hv] at KV
      have hk : ok = false := by rw [← HOK.out]; exact decide_eq_false (fun h => hv h.1)
      subst hk
      clear hv
      go_wp2_with fail
      refine (KV.out W2).mono ?_
      rintro e w3 ⟨rfl, hw⟩
      subst hw
      go_wp2_with fail
      go_meet
      exact ⟨rfl, rfl⟩
  case rest =>
    obtain ⟨rfl, hw⟩ := hcut
    have hw2 := hw.symm
    subst hw2
    cases ok with
    | false =>
      have hno : o = none := by rw [← HO.out]; unfold Rs.head; rw [if_neg (of_decide_eq_false HOK.out)]
      have hH := HH.out
      have z0 : W2.frozen? ⟨A + 1, 0, none⟩ = false := frozen_of_row _ _ _ _ _ hH
      have z1 : W2.frozen? ⟨A + 1, 1, none⟩ = false := frozen_of_row _ _ _ _ _ hH
      have d0 : W2.cell? ⟨A + 1, 0, none⟩ = some (.string ⟨#[]⟩) := by simp [World.cell?, hH]
      have d1 : W2.cell? ⟨A + 1, 1, none⟩ = some (.slice none 0 0) := by simp [World.cell?, hH]
      clear hH
      go_wp2_with fail
      subst hno
      have hbX := (HB2.out.setCell (p := ⟨A + 1, 0, none⟩) (by rw [HA.out]; exact Nat.le_succ _) (.string ⟨#[]⟩)).setCell (p := ⟨A + 1, 1, none⟩) (by rw [HA.out]; exact Nat.le_succ _) (.slice none 0 0)
      obtain ⟨x0, x1⟩ := hd_stored HH.out (.string ⟨#[]⟩) (.slice none 0 0)
      obtain ⟨X, hX⟩ : ∃ X, (W2.setCell ⟨A + 1, 0, none⟩ (.string ⟨#[]⟩)).setCell ⟨A + 1, 1, none⟩ (.slice none 0 0) = X := ⟨_, rfl⟩
      rw [hX] at hbX x0 x1 ⊢
      clear hX
      simp [bodyPost, results, Tryz.results11, go_sem, x0, x1]
      exact ⟨rfl, hbX⟩
    | true =>
      have hyes : o = some (Rs.line (st, ev, ck, sz, (ln : Int)), Rs.flds (st, ev, ck, sz, (ln : Int))) := by rw [← HO.out]; unfold Rs.head; rw [if_pos (of_decide_eq_true HOK.out)]
      have hok := of_decide_eq_true HOK.out
      have HYES := Lib.hid hyes
      obtain ⟨sn, rfl⟩ : ∃ m : Nat, st = (m : Int) := ⟨st.toNat, by have := hok.1.1; simp only at this; omega⟩
      have hsn : sn ≤ 1000000 := by have := hok.1.2; simp only at this; omega
      have KI2 := Lib.hid (rs_itoa sn hsn W2 HT.out)
      have hds' := (show (⟨(Dp.digs 10 sn).toArray⟩ : ByteArray).size = (Dp.digs 10 sn).length by simp [ByteArray.size])
      have hdl := Dp.digs_length_le (b := 10) (by omega) 20 sn (by omega) (by omega)
      have hfirst : (⟨#[72, 84, 84, 80, 47, 49, 46, 49, 32]⟩ : ByteArray) ++ ⟨(Dp.digs 10 sn).toArray⟩ ++ ⟨#[32, 120]⟩ = ⟨(Rs.line ((sn : Int), ev, ck, sz, (ln : Int))).toArray⟩ := by
        apply ByteArray.ext; apply Array.ext'; simp [Rs.line, Hp.http]
      obtain ⟨sb, hsb⟩ : ∃ z : ByteArray, (⟨(Dp.digs 10 sn).toArray⟩ : ByteArray) = z := ⟨_, rfl⟩
      obtain ⟨fb, hfb⟩ : ∃ z : ByteArray, (⟨(Rs.line ((sn : Int), ev, ck, sz, (ln : Int))).toArray⟩ : ByteArray) = z := ⟨_, rfl⟩
      rw [hsb] at KI2 hds' hfirst
      rw [hfb] at hfirst
      have hsb2 : sb.size ≤ 20 := by omega
      have HFB := Lib.hid hfb
      clear hyes hok hsn hst hds' hdl hsb hfb
      go_wp2_with fail
      refine KI2.out.mono ?_
      rintro e w4 ⟨rfl, hb⟩
      have HB4 := Lib.hid hb
      clear hb
      go_upto_region 4 with (fail)
      obtain ⟨D, hD⟩ : ∃ z, w4.heap.size = z := ⟨_, rfl⟩
      obtain ⟨V, hV⟩ : ∃ z, w4.alloc (.cells #[.string fb, .slice none 0 0] 28) = z := ⟨_, rfl⟩
      rw [hV, hD]
      have HBV := Lib.hid (show Below W2.heap.size W2 V by rw [← hV]; exact HB4.out.alloc HB4.out.size _)
      have HZV := Lib.hid (show V.heap.size = D + 1 by rw [← hV, ← hD]; simp)
      have HDB := Lib.hid (show V.heap[D]? = some (.cells #[.string fb, .slice none 0 0] 28 (0, 0)) by rw [← hV, ← hD]; exact World.alloc_heap_new _ _)
      have HAD := Lib.hid (show A + 2 ≤ D by rw [← hD, ← HZ2.out]; exact HB4.out.size)
      obtain ⟨db, hdb⟩ : ∃ z : ByteArray, (⟨(Dp.digs 10 ln).toArray⟩ : ByteArray) = z := ⟨_, rfl⟩
      have HDD := Lib.hid hdb
      have HTX := Lib.hid (fun W (h : Below V.heap.size V W) => dec_text ln W hln ((HT.out.below HBV.out).below h))
      rw [hdb] at HTX
      have HRV := Lib.hid (show ∀ W, Below V.heap.size V W → W.heap[A]? = some (repC ((sn : Int), ev, ck, sz, (ln : Int))) from fun W h => (h.block _ (by rw [HZV.out]; have := HAD.out; omega)).trans ((HBV.out.block _ (by rw [HZ2.out]; omega)).trans HR.out))
      have HC1 := Lib.hid (fun W h => (rep_cell (HRV.out W h)).2.1)
      have HC2 := Lib.hid (fun W h => (rep_cell (HRV.out W h)).2.2.1)
      have HC3 := Lib.hid (fun W h => (rep_cell (HRV.out W h)).2.2.2.1)
      have HC4 := Lib.hid (fun W h => (rep_cell (HRV.out W h)).2.2.2.2)
      simp only at HC1 HC2 HC3 HC4
      clear hV hD hdb c0 c1 c2 c3 c4
      refine region_slotsG (fun i => 36 + min i 17) (hdF A V.heap.size ln ev ck sz db) (fun _ => true) (by kernel_rfl) (by kernel_rfl) (fun i => by show 36 + min i 17 < _; simp; omega) (fun i j hi hj h => by have hi : i < 18 := hi; have hj : j < 18 := hj; omega) ?mono ?dst ?gu ?ng ?skip ?step ?done
      case mono =>
        intro i W W' v h hbw
        match i, h with
        | 0, h | 1, h | 2, h | 3, h | 4, h | 5, h | 6, h | 7, h | 8, h | 9, h | 10, h | 11, h | 12, h | 13, h | 14, h | 16, h | 17, h => exact h
        | 15, h => exact HdItems.below h hbw
        | n + 18, h => exact h.elim
      case dst =>
        intro i o ho
        match i, ho with
        | 0, ho | 1, ho | 2, ho | 3, ho | 4, ho | 5, ho | 6, ho | 7, ho | 8, ho | 9, ho | 10, ho | 11, ho | 12, ho | 13, ho | 14, ho | 15, ho | 16, ho | 17, ho => cases ho; rfl
        | n + 18, ho => exact absurd ho (by simp)
      case gu =>
        intro i o g b ho hgd W v hv
        match i, ho with
        | 0, ho => cases ho; cases hgd
        | 1, ho => cases ho; cases hgd
        | 2, ho => cases ho; cases hgd
        | 3, ho => cases ho; cases hgd
        | 4, ho => cases ho; cases hgd
        | 5, ho => cases ho; cases hgd
        | 6, ho => cases ho; cases hgd
        | 7, ho => cases ho; cases hgd
        | 8, ho => cases ho; cases hgd
        | 9, ho => cases ho; cases hgd
        | 10, ho => cases ho; cases hgd
        | 11, ho => cases ho; cases hgd
        | 12, ho => cases ho; cases hgd
        | 13, ho => cases ho; cases hgd
        | 14, ho => cases ho; cases hgd
        | 15, ho => cases ho; cases hgd
        | 16, ho => cases ho; cases hgd
        | 17, ho => cases ho; cases hgd
        | n + 18, ho => exact absurd ho (by simp)
      case ng =>
        intro i o ho hgd
        match i, ho with
        | 0, ho => cases ho; first | rfl | cases hgd
        | 1, ho => cases ho; first | rfl | cases hgd
        | 2, ho => cases ho; first | rfl | cases hgd
        | 3, ho => cases ho; first | rfl | cases hgd
        | 4, ho => cases ho; first | rfl | cases hgd
        | 5, ho => cases ho; first | rfl | cases hgd
        | 6, ho => cases ho; first | rfl | cases hgd
        | 7, ho => cases ho; first | rfl | cases hgd
        | 8, ho => cases ho; first | rfl | cases hgd
        | 9, ho => cases ho; first | rfl | cases hgd
        | 10, ho => cases ho; first | rfl | cases hgd
        | 11, ho => cases ho; first | rfl | cases hgd
        | 12, ho => cases ho; first | rfl | cases hgd
        | 13, ho => cases ho; first | rfl | cases hgd
        | 14, ho => cases ho; first | rfl | cases hgd
        | 15, ho => cases ho; first | rfl | cases hgd
        | 16, ho => cases ho; first | rfl | cases hgd
        | 17, ho => cases ho; first | rfl | cases hgd
        | n + 18, ho => exact absurd ho (by simp)
      case skip =>
        intro i W hi hsel
        match i, hi, hsel with
        | 0, _, hsel => first | exact absurd hsel (by decide) | rfl
        | 1, _, hsel => first | exact absurd hsel (by decide) | rfl
        | 2, _, hsel => first | exact absurd hsel (by decide) | rfl
        | 3, _, hsel => first | exact absurd hsel (by decide) | rfl
        | 4, _, hsel => first | exact absurd hsel (by decide) | rfl
        | 5, _, hsel => first | exact absurd hsel (by decide) | rfl
        | 6, _, hsel => first | exact absurd hsel (by decide) | rfl
        | 7, _, hsel => first | exact absurd hsel (by decide) | rfl
        | 8, _, hsel => first | exact absurd hsel (by decide) | rfl
        | 9, _, hsel => first | exact absurd hsel (by decide) | rfl
        | 10, _, hsel => first | exact absurd hsel (by decide) | rfl
        | 11, _, hsel => first | exact absurd hsel (by decide) | rfl
        | 12, _, hsel => first | exact absurd hsel (by decide) | rfl
        | 13, _, hsel => first | exact absurd hsel (by decide) | rfl
        | 14, _, hsel => first | exact absurd hsel (by decide) | rfl
        | 15, _, hsel => first | exact absurd hsel (by decide) | rfl
        | 16, _, hsel => first | exact absurd hsel (by decide) | rfl
        | 17, _, hsel => first | exact absurd hsel (by decide) | rfl
        | n + 18, hi, _ => exact absurd hi (by simp)
      case step =>
        intro f a' W i o ho hsel hpre hbel hrest
        match i, ho, hsel with
        | 0, ho, _ =>
          cases ho
          have q1 : a'.tmps.getD 1 undef = .pointer (some ⟨A, 0, none⟩) := (hrest 1 (by intro i hi; have hi : i < 18 := hi; show 36 + min i 17 ≠ _; omega))
          have e1 := rg_ev q1
          exact rg_same (.pointer (some ⟨A, 1, none⟩)) (by unfold Oper.wp execOp; go_simp; all_goals ((try simp only [e1]); (try go_simp); (try rw [if_pos (by omega)]); (try rw [if_neg (by omega)]); first | done | rfl | exact ⟨rfl, rfl⟩ | trivial)) rfl
        | 1, ho, _ =>
          cases ho
          have q36 : a'.tmps.getD 36 undef = .pointer (some ⟨A, 1, none⟩) := (hpre { on := 0, ground := .data } (by simp) rfl)
          have x1 := HC1.out W hbel
          have e36 := rg_ev q36
          exact rg_same (.bool ev) (by unfold Oper.wp execOp; go_simp; all_goals ((try simp only [e36]); (try go_simp); (try rw [if_pos (by omega)]); (try rw [if_neg (by omega)]); first | done | rfl | exact ⟨rfl, rfl⟩ | trivial)) rfl
        | 2, ho, _ =>
          cases ho
          exact rg_same (.agg #[.string ⟨#[99, 111, 110, 116, 101, 110, 116, 45, 116, 121, 112, 101]⟩, .string ⟨#[116, 101, 120, 116, 47, 101, 118, 101, 110, 116, 45, 115, 116, 114, 101, 97, 109]⟩]) (by unfold Oper.wp execOp; go_simp; all_goals ((try simp only []); (try go_simp); (try rw [if_pos (by omega)]); (try rw [if_neg (by omega)]); first | done | rfl | exact ⟨rfl, rfl⟩ | trivial)) rfl
        | 3, ho, _ =>
          cases ho
          have q37 : a'.tmps.getD 37 undef = .bool ev := (hpre { on := 1, ground := .data } (by simp) rfl)
          have q38 : a'.tmps.getD 38 undef = .agg #[.string ⟨#[99, 111, 110, 116, 101, 110, 116, 45, 116, 121, 112, 101]⟩, .string ⟨#[116, 101, 120, 116, 47, 101, 118, 101, 110, 116, 45, 115, 116, 114, 101, 97, 109]⟩] := (hpre { on := 2, ground := .data } (by simp) rfl)
          have e37 := rg_ev q37
          have e38 := rg_ev q38
          exact rg_same (.agg #[.bool ev, .string ⟨#[99, 111, 110, 116, 101, 110, 116, 45, 116, 121, 112, 101]⟩, .string ⟨#[116, 101, 120, 116, 47, 101, 118, 101, 110, 116, 45, 115, 116, 114, 101, 97, 109]⟩]) (by unfold Oper.wp execOp; go_simp; all_goals ((try simp only [e37, e38]); (try go_simp); (try rw [if_pos (by omega)]); (try rw [if_neg (by omega)]); first | done | rfl | exact ⟨rfl, rfl⟩ | trivial)) rfl
        | 4, ho, _ =>
          cases ho
          have q1 : a'.tmps.getD 1 undef = .pointer (some ⟨A, 0, none⟩) := (hrest 1 (by intro i hi; have hi : i < 18 := hi; show 36 + min i 17 ≠ _; omega))
          have e1 := rg_ev q1
          exact rg_same (.pointer (some ⟨A, 2, none⟩)) (by unfold Oper.wp execOp; go_simp; all_goals ((try simp only [e1]); (try go_simp); (try rw [if_pos (by omega)]); (try rw [if_neg (by omega)]); first | done | rfl | exact ⟨rfl, rfl⟩ | trivial)) rfl
        | 5, ho, _ =>
          cases ho
          have q40 : a'.tmps.getD 40 undef = .pointer (some ⟨A, 2, none⟩) := (hpre { on := 4, ground := .data } (by simp) rfl)
          have x2 := HC2.out W hbel
          have e40 := rg_ev q40
          exact rg_same (.bool ck) (by unfold Oper.wp execOp; go_simp; all_goals ((try simp only [e40]); (try go_simp); (try rw [if_pos (by omega)]); (try rw [if_neg (by omega)]); first | done | rfl | exact ⟨rfl, rfl⟩ | trivial)) rfl
        | 6, ho, _ =>
          cases ho
          exact rg_same (.agg #[.string ⟨#[116, 114, 97, 110, 115, 102, 101, 114, 45, 101, 110, 99, 111, 100, 105, 110, 103]⟩, .string ⟨#[99, 104, 117, 110, 107, 101, 100]⟩]) (by unfold Oper.wp execOp; go_simp; all_goals ((try simp only []); (try go_simp); (try rw [if_pos (by omega)]); (try rw [if_neg (by omega)]); first | done | rfl | exact ⟨rfl, rfl⟩ | trivial)) rfl
        | 7, ho, _ =>
          cases ho
          have q41 : a'.tmps.getD 41 undef = .bool ck := (hpre { on := 5, ground := .data } (by simp) rfl)
          have q42 : a'.tmps.getD 42 undef = .agg #[.string ⟨#[116, 114, 97, 110, 115, 102, 101, 114, 45, 101, 110, 99, 111, 100, 105, 110, 103]⟩, .string ⟨#[99, 104, 117, 110, 107, 101, 100]⟩] := (hpre { on := 6, ground := .data } (by simp) rfl)
          have e41 := rg_ev q41
          have e42 := rg_ev q42
          exact rg_same (.agg #[.bool ck, .string ⟨#[116, 114, 97, 110, 115, 102, 101, 114, 45, 101, 110, 99, 111, 100, 105, 110, 103]⟩, .string ⟨#[99, 104, 117, 110, 107, 101, 100]⟩]) (by unfold Oper.wp execOp; go_simp; all_goals ((try simp only [e41, e42]); (try go_simp); (try rw [if_pos (by omega)]); (try rw [if_neg (by omega)]); first | done | rfl | exact ⟨rfl, rfl⟩ | trivial)) rfl
        | 8, ho, _ =>
          cases ho
          have q1 : a'.tmps.getD 1 undef = .pointer (some ⟨A, 0, none⟩) := (hrest 1 (by intro i hi; have hi : i < 18 := hi; show 36 + min i 17 ≠ _; omega))
          have e1 := rg_ev q1
          exact rg_same (.pointer (some ⟨A, 3, none⟩)) (by unfold Oper.wp execOp; go_simp; all_goals ((try simp only [e1]); (try go_simp); (try rw [if_pos (by omega)]); (try rw [if_neg (by omega)]); first | done | rfl | exact ⟨rfl, rfl⟩ | trivial)) rfl
        | 9, ho, _ =>
          cases ho
          have q44 : a'.tmps.getD 44 undef = .pointer (some ⟨A, 3, none⟩) := (hpre { on := 8, ground := .data } (by simp) rfl)
          have x3 := HC3.out W hbel
          have e44 := rg_ev q44
          exact rg_same (.bool sz) (by unfold Oper.wp execOp; go_simp; all_goals ((try simp only [e44]); (try go_simp); (try rw [if_pos (by omega)]); (try rw [if_neg (by omega)]); first | done | rfl | exact ⟨rfl, rfl⟩ | trivial)) rfl
        | 10, ho, _ =>
          cases ho
          have q1 : a'.tmps.getD 1 undef = .pointer (some ⟨A, 0, none⟩) := (hrest 1 (by intro i hi; have hi : i < 18 := hi; show 36 + min i 17 ≠ _; omega))
          have e1 := rg_ev q1
          exact rg_same (.pointer (some ⟨A, 4, none⟩)) (by unfold Oper.wp execOp; go_simp; all_goals ((try simp only [e1]); (try go_simp); (try rw [if_pos (by omega)]); (try rw [if_neg (by omega)]); first | done | rfl | exact ⟨rfl, rfl⟩ | trivial)) rfl
        | 11, ho, _ =>
          cases ho
          have q46 : a'.tmps.getD 46 undef = .pointer (some ⟨A, 4, none⟩) := (hpre { on := 10, ground := .data } (by simp) rfl)
          have x4 := HC4.out W hbel
          have e46 := rg_ev q46
          exact rg_same (.int .u64 (ln : Int)) (by unfold Oper.wp execOp; go_simp; all_goals ((try simp only [e46]); (try go_simp); (try rw [if_pos (by omega)]); (try rw [if_neg (by omega)]); first | done | rfl | exact ⟨rfl, rfl⟩ | trivial)) rfl
        | 12, ho, _ =>
          cases ho
          have q47 : a'.tmps.getD 47 undef = .int .u64 (ln : Int) := (hpre { on := 11, ground := .data } (by simp) rfl)
          exact rg_call 47 31 _ _ _ rfl q47 (enters_of Tryz.func31 (by kernel_rfl) rfl) (HTX.out W hbel) (fun e w' h => by
            obtain ⟨rfl, hb⟩ := h
            exact ⟨_, rfl, _, rfl, rfl, hb⟩)
        | 13, ho, _ =>
          cases ho
          have q48 : a'.tmps.getD 48 undef = .string db := (hpre { on := 12, ground := .data } (by simp) rfl)
          have e48 := rg_ev q48
          exact rg_same (.agg #[.string ⟨#[99, 111, 110, 116, 101, 110, 116, 45, 108, 101, 110, 103, 116, 104]⟩, .string db]) (by unfold Oper.wp execOp; go_simp; all_goals ((try simp only [e48]); (try go_simp); (try rw [if_pos (by omega)]); (try rw [if_neg (by omega)]); first | done | rfl | exact ⟨rfl, rfl⟩ | trivial)) rfl
        | 14, ho, _ =>
          cases ho
          have q45 : a'.tmps.getD 45 undef = .bool sz := (hpre { on := 9, ground := .data } (by simp) rfl)
          have q49 : a'.tmps.getD 49 undef = .agg #[.string ⟨#[99, 111, 110, 116, 101, 110, 116, 45, 108, 101, 110, 103, 116, 104]⟩, .string db] := (hpre { on := 13, ground := .data } (by simp) rfl)
          have e45 := rg_ev q45
          have e49 := rg_ev q49
          exact rg_same (.agg #[.bool sz, .string ⟨#[99, 111, 110, 116, 101, 110, 116, 45, 108, 101, 110, 103, 116, 104]⟩, .string db]) (by unfold Oper.wp execOp; go_simp; all_goals ((try simp only [e45, e49]); (try go_simp); (try rw [if_pos (by omega)]); (try rw [if_neg (by omega)]); first | done | rfl | exact ⟨rfl, rfl⟩ | trivial)) rfl
        | 15, ho, _ =>
          cases ho
          have q39 : a'.tmps.getD 39 undef = .agg #[.bool ev, .string ⟨#[99, 111, 110, 116, 101, 110, 116, 45, 116, 121, 112, 101]⟩, .string ⟨#[116, 101, 120, 116, 47, 101, 118, 101, 110, 116, 45, 115, 116, 114, 101, 97, 109]⟩] := (hpre { on := 3, ground := .data } (by simp) rfl)
          have q43 : a'.tmps.getD 43 undef = .agg #[.bool ck, .string ⟨#[116, 114, 97, 110, 115, 102, 101, 114, 45, 101, 110, 99, 111, 100, 105, 110, 103]⟩, .string ⟨#[99, 104, 117, 110, 107, 101, 100]⟩] := (hpre { on := 7, ground := .data } (by simp) rfl)
          have q50 : a'.tmps.getD 50 undef = .agg #[.bool sz, .string ⟨#[99, 111, 110, 116, 101, 110, 116, 45, 108, 101, 110, 103, 116, 104]⟩, .string db] := (hpre { on := 14, ground := .data } (by simp) rfl)
          have e39 := rg_ev q39
          have e43 := rg_ev q43
          have e50 := rg_ev q50
          unfold Oper.wp execOp
          go_simp
          (try simp only [e39, e43, e50])
          (try go_simp)
          exact ⟨_, rfl, ⟨W.heap.size, rfl, hbel.size, World.alloc_heap_new W _⟩, (Below.refl _ W).alloc (Nat.le_refl _) _⟩
        | 16, ho, _ =>
          cases ho
          have h51 := hpre { on := 15, ground := .data } (by simp) rfl
          obtain ⟨g, hg, _, _⟩ := h51
          have hg2 : a'.tmps.getD 51 undef = .slice (some ⟨g, 0, none⟩) 3 3 := hg
          have e51 := rg_ev hg2
          exact rg_same (.int .i64 3) (by unfold Oper.wp execOp; go_simp; all_goals ((try simp only [e51]); (try go_simp); (try rw [if_pos (by omega)]); (try rw [if_neg (by omega)]); first | done | rfl | exact ⟨rfl, rfl⟩ | trivial)) rfl
        | 17, ho, _ =>
          cases ho
          exact rg_same (.int .i64 0) (by unfold Oper.wp execOp; go_simp; all_goals ((try simp only []); (try go_simp); (try rw [if_pos (by omega)]); (try rw [if_neg (by omega)]); first | done | rfl | exact ⟨rfl, rfl⟩ | trivial)) rfl
        | n + 18, ho, _ => exact absurd ho (by simp)
      case done =>
        intro vs W hbel hvs
        have v0 : vs 0 = .pointer (some ⟨A, 1, none⟩) := hvs 0 (by decide)
        have v1 : vs 1 = .bool ev := hvs 1 (by decide)
        have v2 : vs 2 = .agg #[.string ⟨#[99, 111, 110, 116, 101, 110, 116, 45, 116, 121, 112, 101]⟩, .string ⟨#[116, 101, 120, 116, 47, 101, 118, 101, 110, 116, 45, 115, 116, 114, 101, 97, 109]⟩] := hvs 2 (by decide)
        have v3 : vs 3 = .agg #[.bool ev, .string ⟨#[99, 111, 110, 116, 101, 110, 116, 45, 116, 121, 112, 101]⟩, .string ⟨#[116, 101, 120, 116, 47, 101, 118, 101, 110, 116, 45, 115, 116, 114, 101, 97, 109]⟩] := hvs 3 (by decide)
        have v4 : vs 4 = .pointer (some ⟨A, 2, none⟩) := hvs 4 (by decide)
        have v5 : vs 5 = .bool ck := hvs 5 (by decide)
        have v6 : vs 6 = .agg #[.string ⟨#[116, 114, 97, 110, 115, 102, 101, 114, 45, 101, 110, 99, 111, 100, 105, 110, 103]⟩, .string ⟨#[99, 104, 117, 110, 107, 101, 100]⟩] := hvs 6 (by decide)
        have v7 : vs 7 = .agg #[.bool ck, .string ⟨#[116, 114, 97, 110, 115, 102, 101, 114, 45, 101, 110, 99, 111, 100, 105, 110, 103]⟩, .string ⟨#[99, 104, 117, 110, 107, 101, 100]⟩] := hvs 7 (by decide)
        have v8 : vs 8 = .pointer (some ⟨A, 3, none⟩) := hvs 8 (by decide)
        have v9 : vs 9 = .bool sz := hvs 9 (by decide)
        have v10 : vs 10 = .pointer (some ⟨A, 4, none⟩) := hvs 10 (by decide)
        have v11 : vs 11 = .int .u64 (ln : Int) := hvs 11 (by decide)
        have v12 : vs 12 = .string db := hvs 12 (by decide)
        have v13 : vs 13 = .agg #[.string ⟨#[99, 111, 110, 116, 101, 110, 116, 45, 108, 101, 110, 103, 116, 104]⟩, .string db] := hvs 13 (by decide)
        have v14 : vs 14 = .agg #[.bool sz, .string ⟨#[99, 111, 110, 116, 101, 110, 116, 45, 108, 101, 110, 103, 116, 104]⟩, .string db] := hvs 14 (by decide)
        obtain ⟨y15, v15⟩ : ∃ z, vs 15 = z := ⟨_, rfl⟩
        have v16 : vs 16 = .int .i64 3 := hvs 16 (by decide)
        have v17 : vs 17 = .int .i64 0 := hvs 17 (by decide)
        have HBR := Lib.hid hbel
        simp only [fillN, List.size_toArray, List.length_cons, List.length_nil, Nat.reduceAdd, show List.range 18 = [0, 1, 2, 3, 4, 5, 6, 7, 8, 9, 10, 11, 12, 13, 14, 15, 16, 17] from rfl, List.foldl_cons, List.foldl_nil, show 36 + min 0 17 = 36 from rfl, show 36 + min 1 17 = 37 from rfl, show 36 + min 2 17 = 38 from rfl, show 36 + min 3 17 = 39 from rfl, show 36 + min 4 17 = 40 from rfl, show 36 + min 5 17 = 41 from rfl, show 36 + min 6 17 = 42 from rfl, show 36 + min 7 17 = 43 from rfl, show 36 + min 8 17 = 44 from rfl, show 36 + min 9 17 = 45 from rfl, show 36 + min 10 17 = 46 from rfl, show 36 + min 11 17 = 47 from rfl, show 36 + min 12 17 = 48 from rfl, show 36 + min 13 17 = 49 from rfl, show 36 + min 14 17 = 50 from rfl, show 36 + min 15 17 = 51 from rfl, show 36 + min 16 17 = 52 from rfl, show 36 + min 17 17 = 53 from rfl, v0, v1, v2, v3, v4, v5, v6, v7, v8, v9, v10, v11, v12, v13, v14, v15, v16, v17]
        have h15 : HdItems V.heap.size ev ck sz db W (vs 15) := hvs 15 (by decide)
        rw [v15] at h15
        obtain ⟨g, rfl, hg1, hg2⟩ := h15
        have HG := Lib.hid hg2
        have HG1 := Lib.hid hg1
        clear hg1 hg2
        clear v0 v1 v2 v3 v4 v5 v6 v7 v8 v9 v10 v11 v12 v13 v14 v15 v16 v17 hvs hbel
        go_simp
        have HSV := Lib.hid (show RSt w D V.heap.size fb [] W from ⟨.slice none 0 0, (HBR.out.block _ (by rw [HZV.out]; omega)).trans HDB.out, World.ownsRow_nil _ _ _ _, HBR.out.size, (by rw [HZV.out, HA.out]; have := HAD.out; omega), (by rw [HA.out]; have := HAD.out; omega), (HB2.out.trans (HBV.out.mono HB2.out.size)).trans (HBR.out.mono (by rw [HZV.out, HA.out]; have := HAD.out; omega))⟩)
        have HWA := Lib.hid (show W.heap[A + 1]? = some (.cells #[.string ⟨#[]⟩, .slice none 0 0] 28 (0, 0)) from (HBR.out.block _ (by rw [HZV.out]; have := HAD.out; omega)).trans ((HBV.out.block _ (by rw [HZ2.out]; omega)).trans HH.out))
        have HGD := Lib.hid (show g ≠ D by have h1 := HG1.out; have h2 := HZV.out; omega)
        have HAD2 := Lib.hid (show A + 1 ≠ D by have := HAD.out; omega)
        have HAV := Lib.hid (show A + 1 < V.heap.size by have h1 := HAD.out; have h2 := HZV.out; omega)
        obtain ⟨B, hBv⟩ : ∃ z, V.heap.size = z := ⟨_, rfl⟩
        rw [hBv] at HSV HAV
        clear HTX HC1 HC2 HC3 HC4 HRV hBv
        obtain ⟨i0, hi, hz0, hz1, hz2⟩ := info_parts (show (Tryz.prog.info? 56).map (fun i => (i.zero, i.size, i.bytes)) = some (some (.agg #[.string ByteArray.empty, .string ByteArray.empty]), 2, 32) by kernel_rfl)
        first | go_wp2_with fail | skip
        go_loopw [53] (fun i wr => ∃ k : Nat, k ≤ 3 ∧ i = .int .i64 k ∧ RSt w D B fb (selL ((hpL ev ck sz ln).take k)) wr ∧ wr.heap[g]? = some (hdO ev ck sz db) ∧ wr.heap[A + 1]? = some (.cells #[.string ⟨#[]⟩, .slice none 0 0] 28 (0, 0))) (fun i _ => 3 - (intOf i).toNat)
        case atStart => exact ⟨0, Nat.zero_le _, rfl, HSV.out, HG.out, HWA.out⟩
        case round =>
          obtain ⟨k, hk, rfl, hst, hg, hw⟩ := hrel
          by_cases hlt : k < 3
          · have hlt2 : (k : Int) < 3 := by omega
            obtain ⟨x0, x1, x2⟩ := hdO_cells hg k hlt
            obtain ⟨bb, nb, vb, x, y, hq, hx, hy, hsel⟩ := hdL_at (ev := ev) (ck := ck) (sz := sz) HDD.out hlt
            rw [hq] at x0 x1 x2
            simp only at x0 x1 x2
            have HX := Lib.hid hx
            have HY := Lib.hid hy
            have HSEL := Lib.hid hsel
            have H71 := Lib.hid hst
            have HGG := Lib.hid hg
            have HWW := Lib.hid hw
            have hfl : (selL ((hpL ev ck sz ln).take k)).length ≤ 3 := by
              unfold selL
              rw [List.length_map]
              refine Nat.le_trans (List.length_filter_le _ _) ?_
              rw [List.length_take]
              exact Nat.min_le_right _ _
            obtain ⟨fs, hfs⟩ : ∃ z, selL ((hpL ev ck sz ln).take k) = z := ⟨_, rfl⟩
            rw [hfs] at H71 HSEL hfl
            clear hq hx hy hsel hst hg hw hfs
            go_upto_region 7 with (fail)
            obtain ⟨T, hT⟩ : ∃ z, wr.heap.size = z := ⟨_, rfl⟩
            obtain ⟨wt, hwt⟩ : ∃ z, wr.alloc (.cells #[.bool bb, .string nb, .string vb] 71) = z := ⟨_, rfl⟩
            have htb : wt.heap[T]? = some (.cells #[.bool bb, .string nb, .string vb] 71 (0, 0)) := by rw [← hwt, ← hT]; exact World.alloc_heap_new _ _
            have HS1 := Lib.hid (show RSt w D B fb fs wt by rw [← hwt]; exact rst_alloc H71.out _)
            have HG2 := Lib.hid (show wt.heap[g]? = some (hdO ev ck sz db) by rw [← hwt]; exact heap_alloc_old' _ HGG.out)
            have HW2' := Lib.hid (show wt.heap[A + 1]? = some (.cells #[.string ⟨#[]⟩, .slice none 0 0] 28 (0, 0)) by rw [← hwt]; exact heap_alloc_old' _ HWW.out)
            rw [hwt, hT]
            have t0 : wt.cell? ⟨T, 0, none⟩ = some (.bool bb) := by simp [World.cell?, htb]
            have t1 : wt.cell? ⟨T, 1, none⟩ = some (.string nb) := by simp [World.cell?, htb]
            have t2 : wt.cell? ⟨T, 2, none⟩ = some (.string vb) := by simp [World.cell?, htb]
            clear x0 x1 x2 hwt hT htb
            cases bb with
            | false =>
              go_wp2_with fail
              go_roundw
              case rel => exact ⟨k + 1, hlt, by go_num, (by rw [HSEL.out]; simpa using HS1.out), HG2.out, HW2'.out⟩
              case measure => simp [intOf]; omega
            | true =>
              obtain ⟨V1, hA1, hO1, hB1, h01, hA01, hb1⟩ := HS1.out
              have cA1 : wt.cell? ⟨D, 1, none⟩ = some V1 := by simp [World.cell?, hA1]
              have HA1 := Lib.hid hA1
              have HO1 := Lib.hid hO1
              have HB1 := Lib.hid hB1
              have HQ1 := Lib.hid (And.intro h01 (And.intro hA01 hb1))
              clear hA1 hO1 hB1 h01 hA01 hb1
              go_wp2_with (at_builtin; refine wpList_append_own _ rfl _ _ 26 rfl B 56 i0 (.agg #[.string ByteArray.empty, .string ByteArray.empty]) 2 32 Tryz.underlying26 hi hz0 hz1 hz2 rfl (by decide) V1 _ _ rfl (HO1.out.alloc _) ⟨wt.heap.size, 0, none⟩ 1 1 [Hp.sx x, Hp.sx y] rfl rfl ?c11 ?c12 ?c13 ?c14 ?c15 ?_)
              case c11 =>
                intro j u hj
                match j, hj with
                | 0, hj => simp at hj; subst hj; rw [HX.out]; simp [Addr.add]
                | 1, hj => simp at hj; subst hj; rw [HY.out]; simp [Addr.add]
              case c12 => exact ⟨rfl, rfl⟩
              case c13 => unfold maxLen; omega
              case c14 => omega
              case c15 => have := HB1.out; simp; omega
              intro v' w' hown' hgrow _
              obtain ⟨hAn, hSn⟩ := rst_put HA1.out HO1.out HB1.out HQ1.out.1 HQ1.out.2.1 HQ1.out.2.2 (x, y) _ hown' hgrow
              have cB1 : w'.cell? ⟨D, 1, none⟩ = some V1 := by simp [World.cell?, hAn]
              have zB1 : w'.frozen? ⟨D, 1, none⟩ = false := frozen_of_row _ _ _ _ _ hAn
              have HG3 := Lib.hid (rst_keep (D := D) HO1.out _ hgrow (show wt.heap[g]? = some (.cells _ _ _) from HG2.out) (by decide) HGD.out v')
              have HW3 := Lib.hid (rst_keep (D := D) HO1.out _ hgrow HW2'.out (by decide) HAD2.out v')
              obtain ⟨w6, hw6⟩ : ∃ Z, w'.setCell ⟨D, 1, none⟩ v' = Z := ⟨_, rfl⟩
              rw [hw6] at hSn HG3 HW3
              have HW6 := Lib.hid hw6
              obtain ⟨g1, k1, rfl⟩ := Go.Joins.ownsRow_form hown' (by simp)
              have HS6 := Lib.hid hSn
              clear hown' hgrow hAn hSn cA1 hw6
              go_wp2_with fail
              go_roundw
              case rel => exact ⟨k + 1, hlt, by go_num, (by rw [HSEL.out, HW6.out]; simpa using HS6.out), (by rw [HW6.out]; exact HG3.out), (by rw [HW6.out]; exact HW3.out)⟩
              case measure => simp [intOf]; omega
          · obtain rfl : k = 3 := by omega
            obtain ⟨V1, hA1, hO1, hB1, h01, hA01, hb1⟩ := hst
            rw [selL_all ev ck sz ln (sn : Int)] at hO1
            obtain ⟨q1, c1, rfl⟩ := own_slQ hO1
            have d0 : wr.cell? ⟨D, 0, none⟩ = some (.string fb) := by simp [World.cell?, hA1]
            obtain ⟨n1, hn1⟩ : ∃ z, (Rs.flds ((sn : Int), ev, ck, sz, (ln : Int))).length = z := ⟨_, rfl⟩
            have d1 : wr.cell? ⟨D, 1, none⟩ = some (.slice q1 n1 c1) := by rw [← hn1]; simp [World.cell?, hA1]
            have z0 : wr.frozen? ⟨A + 1, 0, none⟩ = false := frozen_of_row _ _ _ _ _ hw
            have z1 : wr.frozen? ⟨A + 1, 1, none⟩ = false := frozen_of_row _ _ _ _ _ hw
            have e0 : wr.cell? ⟨A + 1, 0, none⟩ = some (.string ⟨#[]⟩) := by simp [World.cell?, hw]
            have e1 : wr.cell? ⟨A + 1, 1, none⟩ = some (.slice none 0 0) := by simp [World.cell?, hw]
            have hbX := (hb1.setCell (p := ⟨A + 1, 0, none⟩) (by rw [HA.out]; exact Nat.le_succ _) (.string fb)).setCell (p := ⟨A + 1, 1, none⟩) (by rw [HA.out]; exact Nat.le_succ _) (.slice q1 n1 c1)
            obtain ⟨x0, x1⟩ := hd_stored hw (.string fb) (.slice q1 n1 c1)
            have hOX := HS.own (own_set (own_set hO1 HAV.out (i := 0) (x := .string fb)) HAV.out (i := 1) (x := .slice q1 n1 c1))
            rw [hn1] at hOX
            have HFX := Lib.hid hOX
            have HBX := Lib.hid hbX
            have HX0 := Lib.hid x0
            have HX1 := Lib.hid x1
            clear hA1 hO1 hB1 h01 hA01 hb1 hw hg hn1 hOX hbX x0 x1
            go_wp2_with fail
            obtain ⟨X, hX⟩ : ∃ X, (wr.setCell ⟨A + 1, 0, none⟩ (.string fb)).setCell ⟨A + 1, 1, none⟩ (.slice q1 n1 c1) = X := ⟨_, rfl⟩
            rw [hX] at HFX HBX HX0 HX1 ⊢
            have x0 := HX0.out
            have x1 := HX1.out
            clear hX
            have hyes := HYES.out
            subst hyes
            simp [bodyPost, results, Tryz.results11, go_sem, x0, x1]
            exact ⟨⟨_, by unfold Hp.sx; rw [HFB.out], HFX.out⟩, HBX.out⟩
end Go.Proofs.YtheaichiglfmjaaGreatDoor

/- response: the reference's Head (UNDER WAY: region 9, drawn, is left open). No conditions but those that each law states. -/
namespace Go.Proofs.YtheaichiglfmjaaGreatDoor
set_option linter.unusedVariables false
set_option linter.unusedSimpArgs false
open Go.RowKit Go.Shelf
set_option maxHeartbeats 8000000
set_option maxRecDepth 100000
def hOpt (b : Bool) (x : Hp.Hd) : List Hp.Hd := if b then [x] else []
def rhF (A D B n ln : Nat) (db : ByteArray) (V1 : Value) (xs : List Value) : Nat → World → Value → Prop
  | 0, _, v => v = .pointer (some ⟨D, 1, none⟩)
  | 1, _, v => v = V1
  | 2, _, v => v = .pointer (some ⟨A, 4, none⟩)
  | 3, _, v => v = .int .u64 (ln : Int)
  | 4, _, v => v = .string db
  | 5, _, v => v = .agg #[.string ⟨#[99, 111, 110, 116, 101, 110, 116, 45, 108, 101, 110, 103, 116, 104]⟩, .string db]
  | 6, w, v => ∃ g, v = .slice (some ⟨g, 0, none⟩) 1 1 ∧ w.heap[g]? = some (.cells #[.string ⟨#[99, 111, 110, 116, 101, 110, 116, 45, 108, 101, 110, 103, 116, 104]⟩, .string db] 56 (0, 0)) ∧ some g ≠ V1.ownBlock
  | 7, w, v => w.ownsRow B 56 2 v (n + 1) (xs ++ [.string ⟨#[99, 111, 110, 116, 101, 110, 116, 45, 108, 101, 110, 103, 116, 104]⟩, .string db])
  | 8, _, v => v = .pointer (some ⟨D, 1, none⟩)
  | _, _, _ => False
theorem rhF_alloc {A D B n ln : Nat} {db : ByteArray} {V1 : Value} {xs : List Value} {w : World} (j : Nat) (ob : Obj) (v : Value) (h : rhF A D B n ln db V1 xs j w v) : rhF A D B n ln db V1 xs j (w.alloc ob) v := by
  match j, h with
  | 0, h | 1, h | 2, h | 3, h | 4, h | 5, h | 8, h => exact h
  | 6, ⟨g, h1, h2, h3⟩ => exact ⟨g, h1, heap_alloc_old' _ h2, h3⟩
  | 7, h => exact World.ownsRow.alloc h _
  | n + 9, h => exact h.elim
structure PuH (w0 : World) (D B n : Nat) (fb : ByteArray) (V0 : Value) (xs : List Value) (f : Nat → Bool) (w : World) : Prop where
  bel : Below B w0 w
  an : w.heap[D]? = some (.cells #[.string fb, V0] 28 (0, 0))
  oth : ∀ (k : Nat) (cs : Array Value) (t : TypeId), t ≠ 56 → w0.heap[k]? = some (.cells cs t (0, 0)) → w.heap[k]? = some (.cells cs t (0, 0))
  own : f 7 = false → w.ownsRow B 56 2 V0 n xs
  n1 : f 1 = false → f 7 = false
  n6 : f 6 = false → f 7 = false
theorem PuH.step {w0 w : World} {D B n : Nat} {fb : ByteArray} {V0 : Value} {xs : List Value} {f : Nat → Bool} {i : Nat} (h : PuH w0 D B n fb V0 xs f w) (h1 : i ≠ 7) : PuH w0 D B n fb V0 xs (fun j => if j = i then true else f j) w := by
  refine ⟨h.bel, h.an, h.oth, fun h3 => h.own (by simpa [Ne.symm h1] using h3), fun h3 => ?_, fun h3 => ?_⟩
  · have : f 1 = false := by by_cases e : 1 = i <;> simp_all
    simpa [Ne.symm h1] using h.n1 this
  · have : f 6 = false := by by_cases e : 6 = i <;> simp_all
    simpa [Ne.symm h1] using h.n6 this
theorem PuH.alloc {w0 w : World} {D B n : Nat} {fb : ByteArray} {V0 : Value} {xs : List Value} {f : Nat → Bool} (h : PuH w0 D B n fb V0 xs f w) (hB : B ≤ w.heap.size) (ob : Obj) : PuH w0 D B n fb V0 xs f (w.alloc ob) :=
  ⟨h.bel.alloc hB _, heap_alloc_old' _ h.an, fun k cs t ht hk => heap_alloc_old' _ (h.oth k cs t ht hk), fun h3 => (h.own h3).alloc _, h.n1, h.n6⟩
theorem rf_Head15 (st : Int) (ev ck sz : Bool) (ln : Nat) (w : World) (hst : -9223372036854775808 ≤ st ∧ st ≤ 9223372036854775807) (hln : ln < 18446744073709551616) :
    Calls Tryz.prog 16 #[repV (st, ev, ck, sz, (ln : Int))] w fun e w' => HdO (Rs.head (st, ev, ck, sz, (ln : Int))) e w' ∧ Below w.heap.size w w' := by
  obtain ⟨A, hA⟩ : ∃ z, w.heap.size = z := ⟨_, rfl⟩
  obtain ⟨W2, hW2⟩ : ∃ z, (w.alloc (repC (st, ev, ck, sz, (ln : Int)))).alloc (.cells #[.string ⟨#[]⟩, .slice none 0 0] 28) = z := ⟨_, rfl⟩
  have HB2 := Lib.hid (show Below w.heap.size w W2 by rw [← hW2]; exact ((Below.refl _ _).alloc (Nat.le_refl _) _).alloc (by simp) _)
  have HZ2 := Lib.hid (show W2.heap.size = A + 2 by rw [← hW2, ← hA]; simp)
  have hR : W2.heap[A]? = some (repC (st, ev, ck, sz, (ln : Int))) := by
    rw [← hW2, Below.heap_alloc _ _ _ (by simp [hA]), ← hA]; exact World.alloc_heap_new _ _
  have hH : W2.heap[A + 1]? = some (.cells #[.string ⟨#[]⟩, .slice none 0 0] 28 (0, 0)) := by
    have h := World.alloc_heap_new (w.alloc (repC (st, ev, ck, sz, (ln : Int)))) (.cells #[.string ⟨#[]⟩, .slice none 0 0] 28)
    rw [hW2] at h
    simpa [hA] using h
  have HR := Lib.hid hR
  have HH := Lib.hid hH
  have HW2 := Lib.hid hW2
  have HA := Lib.hid hA
  obtain ⟨o, ho⟩ : ∃ o, Rs.head (st, ev, ck, sz, (ln : Int)) = o := ⟨_, rfl⟩
  rw [ho]
  have HO := Lib.hid ho
  obtain ⟨ok, hok⟩ : ∃ z, decide (Rs.okR (st, ev, ck, sz, (ln : Int))) = z := ⟨_, rfl⟩
  have HOK := Lib.hid hok
  obtain ⟨c0, c1, c2, c3, c4⟩ := rep_cell hR
  simp only at c0 c1 c2 c3 c4
  clear hA hW2 hR hH ho hok
  unfold repV
  unfold repC at HW2
  go_enter Tryz.func16, Tryz.ntmps16
  go_upto_region 1 with (fail)
  rw [HW2.out, HA.out]
  go_cut [30] from 5 (fun s30 wx => s30 = .bool (!ok) ∧ wx = W2)
  case first =>
    by_cases h1 : st < 100
    · have hk : ok = false := by rw [← HOK.out]; exact decide_eq_false (fun h => by have := h.1.1; simp only at this; omega)
      subst hk
      go_wp2_with fail
      go_meet
      exact ⟨rfl, rfl⟩
    · by_cases h2 : 599 < st
      · have hk : ok = false := by rw [← HOK.out]; exact decide_eq_false (fun h => by have := h.1.2; simp only at this; omega)
        subst hk
        go_wp2_with fail
        go_meet
        exact ⟨rfl, rfl⟩
      · have HV := Lib.hid (show 100 ≤ st ∧ st ≤ 599 by omega)
        by_cases hln0 : ln = 0
        · subst hln0
          cases ck <;> cases sz
          all_goals
            go_wp2_with fail
            go_meet
            have hv := HV.out
            first
              | (have hk : ok = true := by rw [← HOK.out]; exact decide_eq_true (by unfold Rs.okR; simp; omega)
                 subst hk; exact ⟨rfl, rfl⟩)
              | (have hk : ok = false := by rw [← HOK.out]; exact decide_eq_false (by unfold Rs.okR; simp)
                 subst hk; exact ⟨rfl, rfl⟩)
        · have hq : (0 : Int) < (ln : Int) := by omega
          clear hln0
          cases ck <;> cases sz
          all_goals
            go_wp2_with fail
            go_meet
            have hv := HV.out
            first
              | (have hk : ok = true := by rw [← HOK.out]; exact decide_eq_true (by unfold Rs.okR; simp; omega)
                 subst hk; exact ⟨rfl, rfl⟩)
              | (have hk : ok = false := by rw [← HOK.out]; exact decide_eq_false (by unfold Rs.okR; first | (simp [hq]; done) | (simp [hq]; omega))
                 subst hk; exact ⟨rfl, rfl⟩)
  case rest =>
    obtain ⟨rfl, hw⟩ := hcut
    have hw2 := hw.symm
    subst hw2
    cases ok with
    | false =>
      have hno : o = none := by rw [← HO.out]; unfold Rs.head; rw [if_neg (of_decide_eq_false HOK.out)]
      have hH := HH.out
      have z0 : W2.frozen? ⟨A + 1, 0, none⟩ = false := frozen_of_row _ _ _ _ _ hH
      have z1 : W2.frozen? ⟨A + 1, 1, none⟩ = false := frozen_of_row _ _ _ _ _ hH
      have d0 : W2.cell? ⟨A + 1, 0, none⟩ = some (.string ⟨#[]⟩) := by simp [World.cell?, hH]
      have d1 : W2.cell? ⟨A + 1, 1, none⟩ = some (.slice none 0 0) := by simp [World.cell?, hH]
      clear hH
      go_wp2_with fail
      subst hno
      have hbX := (HB2.out.setCell (p := ⟨A + 1, 0, none⟩) (by rw [HA.out]; exact Nat.le_succ _) (.string ⟨#[]⟩)).setCell (p := ⟨A + 1, 1, none⟩) (by rw [HA.out]; exact Nat.le_succ _) (.slice none 0 0)
      obtain ⟨x0, x1⟩ := hd_stored HH.out (.string ⟨#[]⟩) (.slice none 0 0)
      obtain ⟨X, hX⟩ : ∃ X, (W2.setCell ⟨A + 1, 0, none⟩ (.string ⟨#[]⟩)).setCell ⟨A + 1, 1, none⟩ (.slice none 0 0) = X := ⟨_, rfl⟩
      rw [hX] at hbX x0 x1 ⊢
      clear hX
      simp [bodyPost, results, Tryz.results16, go_sem, x0, x1]
      exact ⟨rfl, hbX⟩
    | true =>
      have hyes : o = some (Rs.line (st, ev, ck, sz, (ln : Int)), Rs.flds (st, ev, ck, sz, (ln : Int))) := by rw [← HO.out]; unfold Rs.head; rw [if_pos (of_decide_eq_true HOK.out)]
      have hok := of_decide_eq_true HOK.out
      have HYES := Lib.hid hyes
      obtain ⟨sn, rfl⟩ : ∃ m : Nat, st = (m : Int) := ⟨st.toNat, by have := hok.1.1; simp only at this; omega⟩
      have hsn : sn ≤ 1000000 := by have := hok.1.2; simp only at this; omega
      have KI2 := Lib.hid (fun W => ref_text sn (by omega) W)
      have hds' := (show (⟨(Dp.digs 10 sn).toArray⟩ : ByteArray).size = (Dp.digs 10 sn).length by simp [ByteArray.size])
      have hdl := Dp.digs_length_le (b := 10) (by omega) 20 sn (by omega) (by omega)
      have hfirst : (⟨#[72, 84, 84, 80, 47, 49, 46, 49, 32]⟩ : ByteArray) ++ ⟨(Dp.digs 10 sn).toArray⟩ ++ ⟨#[32, 120]⟩ = ⟨(Rs.line ((sn : Int), ev, ck, sz, (ln : Int))).toArray⟩ := by
        apply ByteArray.ext; apply Array.ext'; simp [Rs.line, Hp.http]
      obtain ⟨sb, hsb⟩ : ∃ z : ByteArray, (⟨(Dp.digs 10 sn).toArray⟩ : ByteArray) = z := ⟨_, rfl⟩
      obtain ⟨fb, hfb⟩ : ∃ z : ByteArray, (⟨(Rs.line ((sn : Int), ev, ck, sz, (ln : Int))).toArray⟩ : ByteArray) = z := ⟨_, rfl⟩
      rw [hsb] at KI2 hds' hfirst
      rw [hfb] at hfirst
      have hsb2 : sb.size ≤ 20 := by omega
      have HFB := Lib.hid hfb
      clear hyes hok hst hds' hdl hsb hfb
      go_wp2_with fail
      refine (KI2.out _).mono ?_
      rintro e w4 ⟨rfl, hww⟩
      subst w4
      go_upto_region 4 with (fail)
      obtain ⟨D, hD⟩ : ∃ z, W2.heap.size = z := ⟨_, rfl⟩
      obtain ⟨wx, hV⟩ : ∃ z, W2.alloc (.cells #[.string fb, .slice none 0 0] 28) = z := ⟨_, rfl⟩
      rw [hV, hD]
      have hDA : D = A + 2 := by rw [← hD, HZ2.out]
      obtain ⟨B, hBv⟩ : ∃ z, wx.heap.size = z := ⟨_, rfl⟩
      have hBD : B = A + 3 := by rw [← hBv, ← hV]; simp [hD, hDA]
      have hst : RSt w D B fb [] wx := ⟨.slice none 0 0, by rw [← hV, ← hD]; exact World.alloc_heap_new _ _, World.ownsRow_nil _ _ _ _, by omega, by rw [HA.out]; omega, by rw [HA.out]; omega, by rw [← hV]; exact HB2.out.alloc HB2.out.size _⟩
      have hrx : wx.heap[A]? = some (repC ((sn : Int), ev, ck, sz, (ln : Int))) := by rw [← hV]; exact heap_alloc_old' _ HR.out
      have hhx : wx.heap[A + 1]? = some (.cells #[.string ⟨#[]⟩, .slice none 0 0] 28 (0, 0)) := by rw [← hV]; exact heap_alloc_old' _ HH.out
      have HAD2 := Lib.hid (show A + 1 ≠ D by omega)
      have HAD3 := Lib.hid (show A ≠ D by omega)
      have HAV := Lib.hid (show A + 1 < B by omega)
      have HDB2 := Lib.hid (show D < B by omega)
      obtain ⟨db, hdb⟩ : ∃ z : ByteArray, (⟨(Dp.digs 10 ln).toArray⟩ : ByteArray) = z := ⟨_, rfl⟩
      have HDD := Lib.hid hdb
      have HTX := Lib.hid (fun W => ref_text ln hln W)
      rw [hdb] at HTX
      clear hdb
      obtain ⟨i0, hi, hz0, hz1, hz2⟩ := info_parts (show (Tryz.prog.info? 56).map (fun i => (i.zero, i.size, i.bytes)) = some (some (.agg #[.string ByteArray.empty, .string ByteArray.empty]), 2, 32) by kernel_rfl)
      clear hV hD hDA hBv hBD c0 c1 c2 c3 c4
      obtain ⟨fs, hfs⟩ : ∃ z, ([] : List Hp.Hd) = z := ⟨_, rfl⟩
      have HFS := Lib.hid hfs
      have HS1 := Lib.hid (show RSt w D B fb fs wx by rw [← hfs]; exact hst)
      have HRX := Lib.hid hrx
      have HHX := Lib.hid hhx
      obtain ⟨c0, c1, c2, c3, c4⟩ := rep_cell hrx
      simp only at c0 c1 c2 c3 c4
      have hfl : fs.length ≤ 3 := by rw [← hfs]; cases ev <;> (try cases ck) <;> decide
      clear hst hrx hhx hfs
      go_upto_if 40 with (fail)
      go_cut [] from 41 (fun wy => RSt w D B fb ((hOpt ev (Hp.ct, Hp.es))) wy ∧ wy.heap[A]? = some (repC ((sn : Int), ev, ck, sz, (ln : Int))) ∧ wy.heap[A + 1]? = some (.cells #[.string ⟨#[]⟩, .slice none 0 0] 28 (0, 0)))
      case first =>
        cases ev with
        | false =>
          go_wp2_with fail
          go_meet
          exact ⟨by rw [show (hOpt false (Hp.ct, Hp.es)) = fs from by rw [← HFS.out]; simp [hOpt]]; exact HS1.out, HRX.out, HHX.out⟩
        | true =>
          obtain ⟨V1, hA1, hO1, hB1, h01, hA01, hb1⟩ := HS1.out
          have cA1 : wx.cell? ⟨D, 1, none⟩ = some V1 := by simp [World.cell?, hA1]
          have HA1 := Lib.hid hA1
          have HO1 := Lib.hid hO1
          have HBB := Lib.hid hB1
          have HQ1 := Lib.hid (And.intro h01 (And.intro hA01 hb1))
          clear hA1 hO1 hB1 h01 hA01 hb1
          go_wp2_with (at_builtin; refine wpList_append_own _ rfl _ _ 26 rfl B 56 i0 (.agg #[.string ByteArray.empty, .string ByteArray.empty]) 2 32 Tryz.underlying26 hi hz0 hz1 hz2 rfl (by decide) V1 _ _ rfl (HO1.out.alloc _) ⟨wx.heap.size, 0, none⟩ 1 1 [Hp.sx Hp.ct, Hp.sx Hp.es] rfl rfl ?c11 ?c12 ?c13 ?c14 ?c15 ?_)
          case c11 =>
            intro j u hj
            match j, hj with
            | 0, hj => simp at hj; subst hj; simp [Addr.add]; rfl
            | 1, hj => simp at hj; subst hj; simp [Addr.add]; rfl
          case c12 => intro u hu; simp at hu; rcases hu with rfl | rfl <;> rfl
          case c13 => unfold maxLen; omega
          (try case c14 => omega)
          (try case c15 => have := HBB.out; simp; omega)
          intro v' w' hown' hgrow _
          obtain ⟨hAn, hSn⟩ := rst_put HA1.out HO1.out HBB.out HQ1.out.1 HQ1.out.2.1 HQ1.out.2.2 (Hp.ct, Hp.es) _ hown' hgrow
          have cB1 : w'.cell? ⟨D, 1, none⟩ = some V1 := by simp [World.cell?, hAn]
          have zB1 : w'.frozen? ⟨D, 1, none⟩ = false := frozen_of_row _ _ _ _ _ hAn
          have HG3 := Lib.hid (rst_keep (D := D) HO1.out _ hgrow (show wx.heap[A]? = some (.cells _ _ _) from HRX.out) (by decide) HAD3.out v')
          have HW3 := Lib.hid (rst_keep (D := D) HO1.out _ hgrow HHX.out (by decide) HAD2.out v')
          obtain ⟨g1, k1, rfl⟩ := Go.Joins.ownsRow_form hown' (by simp)
          have HS6 := Lib.hid hSn
          clear hown' hgrow hAn hSn cA1
          go_wp2_with fail
          go_meet
          exact ⟨by rw [show (hOpt true (Hp.ct, Hp.es)) = fs ++ [(Hp.ct, Hp.es)] from by rw [← HFS.out]; rfl]; exact HS6.out, HG3.out, HW3.out⟩
      case rest =>
        obtain ⟨hst, hrx, hhx⟩ := hcut
        obtain ⟨wx, rfl⟩ : ∃ z, z = wc := ⟨_, rfl⟩
        obtain ⟨fs, hfs⟩ : ∃ z, (hOpt ev (Hp.ct, Hp.es)) = z := ⟨_, rfl⟩
        have HFS := Lib.hid hfs
        have HS1 := Lib.hid (show RSt w D B fb fs wx by rw [← hfs]; exact hst)
        have HRX := Lib.hid hrx
        have HHX := Lib.hid hhx
        obtain ⟨c0, c1, c2, c3, c4⟩ := rep_cell hrx
        simp only at c0 c1 c2 c3 c4
        have hfl : fs.length ≤ 3 := by rw [← hfs]; cases ev <;> (try cases ck) <;> decide
        clear hst hrx hhx hfs
        go_upto_if 48 with (fail)
        go_cut [] from 49 (fun wy => RSt w D B fb ((hOpt ev (Hp.ct, Hp.es) ++ hOpt ck (Hp.te, Hp.ch))) wy ∧ wy.heap[A]? = some (repC ((sn : Int), ev, ck, sz, (ln : Int))) ∧ wy.heap[A + 1]? = some (.cells #[.string ⟨#[]⟩, .slice none 0 0] 28 (0, 0)))
        case first =>
          cases ck with
          | false =>
            go_wp2_with fail
            go_meet
            exact ⟨by rw [show (hOpt ev (Hp.ct, Hp.es) ++ hOpt false (Hp.te, Hp.ch)) = fs from by rw [← HFS.out]; simp [hOpt]]; exact HS1.out, HRX.out, HHX.out⟩
          | true =>
            obtain ⟨V1, hA1, hO1, hB1, h01, hA01, hb1⟩ := HS1.out
            have cA1 : wx.cell? ⟨D, 1, none⟩ = some V1 := by simp [World.cell?, hA1]
            have HA1 := Lib.hid hA1
            have HO1 := Lib.hid hO1
            have HBB := Lib.hid hB1
            have HQ1 := Lib.hid (And.intro h01 (And.intro hA01 hb1))
            clear hA1 hO1 hB1 h01 hA01 hb1
            go_wp2_with (at_builtin; refine wpList_append_own _ rfl _ _ 26 rfl B 56 i0 (.agg #[.string ByteArray.empty, .string ByteArray.empty]) 2 32 Tryz.underlying26 hi hz0 hz1 hz2 rfl (by decide) V1 _ _ rfl (HO1.out.alloc _) ⟨wx.heap.size, 0, none⟩ 1 1 [Hp.sx Hp.te, Hp.sx Hp.ch] rfl rfl ?c11 ?c12 ?c13 ?c14 ?c15 ?_)
            case c11 =>
              intro j u hj
              match j, hj with
              | 0, hj => simp at hj; subst hj; simp [Addr.add]; rfl
              | 1, hj => simp at hj; subst hj; simp [Addr.add]; rfl
            case c12 => intro u hu; simp at hu; rcases hu with rfl | rfl <;> rfl
            case c13 => unfold maxLen; omega
            (try case c14 => omega)
            (try case c15 => have := HBB.out; simp; omega)
            intro v' w' hown' hgrow _
            obtain ⟨hAn, hSn⟩ := rst_put HA1.out HO1.out HBB.out HQ1.out.1 HQ1.out.2.1 HQ1.out.2.2 (Hp.te, Hp.ch) _ hown' hgrow
            have cB1 : w'.cell? ⟨D, 1, none⟩ = some V1 := by simp [World.cell?, hAn]
            have zB1 : w'.frozen? ⟨D, 1, none⟩ = false := frozen_of_row _ _ _ _ _ hAn
            have HG3 := Lib.hid (rst_keep (D := D) HO1.out _ hgrow (show wx.heap[A]? = some (.cells _ _ _) from HRX.out) (by decide) HAD3.out v')
            have HW3 := Lib.hid (rst_keep (D := D) HO1.out _ hgrow HHX.out (by decide) HAD2.out v')
            obtain ⟨g1, k1, rfl⟩ := Go.Joins.ownsRow_form hown' (by simp)
            have HS6 := Lib.hid hSn
            clear hown' hgrow hAn hSn cA1
            go_wp2_with fail
            go_meet
            exact ⟨by rw [show (hOpt ev (Hp.ct, Hp.es) ++ hOpt true (Hp.te, Hp.ch)) = fs ++ [(Hp.te, Hp.ch)] from by rw [← HFS.out]; rfl]; exact HS6.out, HG3.out, HW3.out⟩
        case rest =>
          obtain ⟨hst, hrx, hhx⟩ := hcut
          obtain ⟨wx, rfl⟩ : ∃ z, z = wc := ⟨_, rfl⟩
          obtain ⟨fs, hfs⟩ : ∃ z, (hOpt ev (Hp.ct, Hp.es) ++ hOpt ck (Hp.te, Hp.ch)) = z := ⟨_, rfl⟩
          have HFS := Lib.hid hfs
          have HS1 := Lib.hid (show RSt w D B fb fs wx by rw [← hfs]; exact hst)
          have HRX := Lib.hid hrx
          have HHX := Lib.hid hhx
          obtain ⟨c0, c1, c2, c3, c4⟩ := rep_cell hrx
          simp only at c0 c1 c2 c3 c4
          have hfl : fs.length ≤ 3 := by rw [← hfs]; cases ev <;> (try cases ck) <;> decide
          clear hst hrx hhx hfs
          go_upto_if 56 with (fail)
          go_cut [] from 57 (fun wy => RSt w D B fb ((hOpt ev (Hp.ct, Hp.es) ++ hOpt ck (Hp.te, Hp.ch) ++ hOpt sz (Hp.cl, Dp.digs 10 ln))) wy ∧ wy.heap[A]? = some (repC ((sn : Int), ev, ck, sz, (ln : Int))) ∧ wy.heap[A + 1]? = some (.cells #[.string ⟨#[]⟩, .slice none 0 0] 28 (0, 0)))
          case first =>
            cases sz with
            | false =>
              go_wp2_with fail
              go_meet
              exact ⟨by rw [show (hOpt ev (Hp.ct, Hp.es) ++ hOpt ck (Hp.te, Hp.ch) ++ hOpt false (Hp.cl, Dp.digs 10 ln)) = fs from by rw [← HFS.out]; simp [hOpt]]; exact HS1.out, HRX.out, HHX.out⟩
            | true =>
              go_upto_region 9 with (fail)
              obtain ⟨V1, hA1, hO1, hB1, h01, hA01, hb1⟩ := HS1.out
              have HA1 := Lib.hid hA1
              have HO1 := Lib.hid hO1
              have HBR0 := Lib.hid hB1
              have HQ1 := Lib.hid (And.intro h01 (And.intro hA01 hb1))
              clear hA1 hO1 hB1 h01 hA01 hb1
              refine region_last2 9 (fun i => 57 + min i 8) (rhF A D B fs.length ln db V1 (hds fs)) (PuH wx D B fs.length fb V1 (hds fs)) (by kernel_rfl) (by kernel_rfl) rfl (by kernel_rfl) (fun i => by show 57 + min i 8 < _; simp; omega) (fun i j hi hj h => by have h : 57 + min i 8 = 57 + min j 8 := h; omega) ?start ?dst ?step ?last
              case dst =>
                intro i o hi ho
                match i, hi, ho with
                | 0, _, ho => cases ho; rfl
                | 1, _, ho => cases ho; rfl
                | 2, _, ho => cases ho; rfl
                | 3, _, ho => cases ho; rfl
                | 4, _, ho => cases ho; rfl
                | 5, _, ho => cases ho; rfl
                | 6, _, ho => cases ho; rfl
                | 7, _, ho => cases ho; rfl
                | 8, _, ho => cases ho; rfl
                | n + 9, hi, _ => exact absurd hi (by omega)
              case step =>
                intro f a' W i o hib ho hfi hpre hT hrest
                match i, hib, ho with
                | 0, _, ho =>
                  cases ho
                  have q4 : a'.tmps.getD 4 undef = .pointer (some ⟨D, 0, none⟩) := (hrest 4 (by intro i hi; show 57 + min i 8 ≠ _; omega))
                  have e4 := rg_ev q4
                  exact rg_same2 (.pointer (some ⟨D, 1, none⟩)) (by unfold Oper.wp execOp; go_simp; all_goals ((try simp only [e4]); (try go_simp); (try rw [if_pos (by omega)]); (try rw [if_neg (by omega)]); first | done | rfl | exact ⟨rfl, rfl⟩ | trivial)) rfl (hT.step (by decide))
                | 1, _, ho =>
                  cases ho
                  have f57 := (hpre { on := 0, ground := .data } (by simp) rfl).1
                  have q57 : a'.tmps.getD 57 undef = .pointer (some ⟨D, 1, none⟩) := (hpre { on := 0, ground := .data } (by simp) rfl).2
                  have c1 : W.cell? ⟨D, 1, none⟩ = some V1 := by simp [World.cell?, hT.an]
                  have e57 := rg_ev q57
                  exact rg_same2 (V1) (by unfold Oper.wp execOp; go_simp; all_goals ((try simp only [e57]); (try go_simp); (try rw [if_pos (by omega)]); (try rw [if_neg (by omega)]); first | done | rfl | exact ⟨rfl, rfl⟩ | trivial)) rfl (hT.step (by decide))
                | 2, _, ho =>
                  cases ho
                  have q1 : a'.tmps.getD 1 undef = .pointer (some ⟨A, 0, none⟩) := (hrest 1 (by intro i hi; show 57 + min i 8 ≠ _; omega))
                  have e1 := rg_ev q1
                  exact rg_same2 (.pointer (some ⟨A, 4, none⟩)) (by unfold Oper.wp execOp; go_simp; all_goals ((try simp only [e1]); (try go_simp); (try rw [if_pos (by omega)]); (try rw [if_neg (by omega)]); first | done | rfl | exact ⟨rfl, rfl⟩ | trivial)) rfl (hT.step (by decide))
                | 3, _, ho =>
                  cases ho
                  have f59 := (hpre { on := 2, ground := .data } (by simp) rfl).1
                  have q59 : a'.tmps.getD 59 undef = .pointer (some ⟨A, 4, none⟩) := (hpre { on := 2, ground := .data } (by simp) rfl).2
                  have c4 := (rep_cell (show W.heap[A]? = some (repC ((sn : Int), ev, ck, true, (ln : Int))) from hT.oth A _ _ (by decide) HRX.out)).2.2.2.2
                  simp only at c4
                  have e59 := rg_ev q59
                  exact rg_same2 (.int .u64 (ln : Int)) (by unfold Oper.wp execOp; go_simp; all_goals ((try simp only [e59]); (try go_simp); (try rw [if_pos (by omega)]); (try rw [if_neg (by omega)]); first | done | rfl | exact ⟨rfl, rfl⟩ | trivial)) rfl (hT.step (by decide))
                | 4, _, ho =>
                  cases ho
                  have f60 := (hpre { on := 3, ground := .data } (by simp) rfl).1
                  have q60 : a'.tmps.getD 60 undef = .int .u64 (ln : Int) := (hpre { on := 3, ground := .data } (by simp) rfl).2
                  exact rg_call 60 46 _ _ _ rfl q60 (enters_of Tryz.func46 (by kernel_rfl) rfl) (HTX.out W) (fun e w' h => by
                    obtain ⟨rfl, rfl⟩ := h
                    exact ⟨_, rfl, _, rfl, rfl, hT.step (by decide), fun _ _ _ h => h⟩)
                | 5, _, ho =>
                  cases ho
                  have f61 := (hpre { on := 4, ground := .data } (by simp) rfl).1
                  have q61 : a'.tmps.getD 61 undef = .string db := (hpre { on := 4, ground := .data } (by simp) rfl).2
                  have e61 := rg_ev q61
                  exact rg_same2 (.agg #[.string ⟨#[99, 111, 110, 116, 101, 110, 116, 45, 108, 101, 110, 103, 116, 104]⟩, .string db]) (by unfold Oper.wp execOp; go_simp; all_goals ((try simp only [e61]); (try go_simp); (try rw [if_pos (by omega)]); (try rw [if_neg (by omega)]); first | done | rfl | exact ⟨rfl, rfl⟩ | trivial)) rfl (hT.step (by decide))
                | 6, _, ho =>
                  cases ho
                  have f62 := (hpre { on := 5, ground := .data } (by simp) rfl).1
                  have q62 : a'.tmps.getD 62 undef = .agg #[.string ⟨#[99, 111, 110, 116, 101, 110, 116, 45, 108, 101, 110, 103, 116, 104]⟩, .string db] := (hpre { on := 5, ground := .data } (by simp) rfl).2
                  have e62 := rg_ev q62
                  have hO := hT.own (hT.n6 hfi)
                  have hBW : B ≤ W.heap.size := Nat.le_trans HBR0.out hT.bel.size
                  unfold Oper.wp execOp
                  go_simp
                  (try simp only [e62])
                  (try go_simp)
                  refine ⟨_, rfl, ⟨W.heap.size, rfl, World.alloc_heap_new _ _, fun h => Nat.lt_irrefl _ (hO.lt _ h.symm).2⟩, ?_, fun j u _ h => rhF_alloc j _ u h⟩
                  first | exact (hT.step (i := 6) (by decide)).alloc hBW _ | (rw [show (fun j => decide (j = 6) || f j) = (fun j => if j = 6 then true else f j) by funext j; by_cases h : j = 6 <;> simp [h]]; exact (hT.step (i := 6) (by decide)).alloc hBW _)
                | 7, _, ho =>
                  cases ho
                  have f58 := (hpre { on := 1, ground := .data } (by simp) rfl).1
                  have q58 : a'.tmps.getD 58 undef = V1 := (hpre { on := 1, ground := .data } (by simp) rfl).2
                  have f63 := (hpre { on := 6, ground := .data } (by simp) rfl).1
                  have h63 := (hpre { on := 6, ground := .data } (by simp) rfl).2
                  obtain ⟨g, hg1, hg2, hg3⟩ := h63
                  have q23a : a'.eval (.tmp 58) = V1 := q58
                  have q23b : a'.eval (.tmp 63) = .slice (some ⟨g, 0, none⟩) 1 1 := hg1
                  have hO := hT.own hfi
                  have hBW : B ≤ W.heap.size := Nat.le_trans HBR0.out hT.bel.size
                  refine wp_append_own _ _ _ 26 rfl B 56 i0 (.agg #[.string ByteArray.empty, .string ByteArray.empty]) 2 32 Tryz.underlying26 hi hz0 hz1 hz2 rfl (by decide) V1 fs.length (hds fs) q23a hO ⟨g, 0, none⟩ 1 1 [.string ⟨#[99, 111, 110, 116, 101, 110, 116, 45, 108, 101, 110, 103, 116, 104]⟩, .string db] q23b rfl ?_ ?_ ?_ ?_ ?_ ?_
                  · intro j u hj
                    match j, hj with
                    | 0, hj => simp at hj; subst hj; simp [Addr.add, World.cell?, hg2]
                    | 1, hj => simp at hj; subst hj; simp [Addr.add, World.cell?, hg2]
                  · intro u hu; simp at hu; rcases hu with rfl | rfl <;> rfl
                  · unfold maxLen; omega
                  · omega
                  · exact hBW
                  · intro v' w' hown' hgrow _
                    have keep : ∀ (k : Nat) (cs : Array Value) (t : TypeId) (fr : Nat × Nat), t ≠ 56 → W.heap[k]? = some (.cells cs t fr) → w'.heap[k]? = some (.cells cs t fr) := fun k cs t fr ht hk => (hgrow.block k (Array.getElem?_eq_some_iff.1 hk).1 (own_ne hO hk ht)).trans hk
                    refine ⟨v', rfl, hown', ⟨Below.grown hT.bel hgrow hBW (own_geH hO), keep _ _ _ _ (by decide) hT.an, fun k cs t ht hk => keep _ _ _ _ ht (hT.oth k cs t ht hk), fun h => by simp at h, fun h => by simp [f58] at h, fun h => by simp [f63] at h⟩, fun j u hj hF => ?_⟩
                    match j, hF with
                    | 0, h | 1, h | 2, h | 3, h | 4, h | 5, h | 8, h => exact h
                    | 6, ⟨g', h1, h2, h3⟩ => exact ⟨g', h1, (hgrow.block g' (Array.getElem?_eq_some_iff.1 h2).1 h3).trans h2, h3⟩
                    | 7, h => rw [hfi] at hj; cases hj
                    | n + 9, h => exact h.elim
                | 8, _, ho =>
                  cases ho
                  have q4 : a'.tmps.getD 4 undef = .pointer (some ⟨D, 0, none⟩) := (hrest 4 (by intro i hi; show 57 + min i 8 ≠ _; omega))
                  have e4 := rg_ev q4
                  exact rg_same2 (.pointer (some ⟨D, 1, none⟩)) (by unfold Oper.wp execOp; go_simp; all_goals ((try simp only [e4]); (try go_simp); (try rw [if_pos (by omega)]); (try rw [if_neg (by omega)]); first | done | rfl | exact ⟨rfl, rfl⟩ | trivial)) rfl (hT.step (by decide))
                | n + 9, hib, _ => exact absurd hib (by omega)
              case last =>
                intro f vs W oL ho hall hT hvs
                have hopL : oL.op = Op.store 26 (.tmp 65) (.tmp 64) := by cases ho; rfl
                have hdsL : oL.dst = none := by cases ho; rfl
                clear ho hall
                have v0 : vs 0 = .pointer (some ⟨D, 1, none⟩) := hvs 0 (by decide)
                have v1 : vs 1 = V1 := hvs 1 (by decide)
                have v2 : vs 2 = .pointer (some ⟨A, 4, none⟩) := hvs 2 (by decide)
                have v3 : vs 3 = .int .u64 (ln : Int) := hvs 3 (by decide)
                have v4 : vs 4 = .string db := hvs 4 (by decide)
                have v5 : vs 5 = .agg #[.string ⟨#[99, 111, 110, 116, 101, 110, 116, 45, 108, 101, 110, 103, 116, 104]⟩, .string db] := hvs 5 (by decide)
                obtain ⟨y6, v6, w6⟩ : ∃ z, vs 6 = z ∧ rhF A D B fs.length ln db V1 (hds fs) 6 W z := ⟨_, rfl, hvs 6 (by decide)⟩
                obtain ⟨y7, v7, w7⟩ : ∃ z, vs 7 = z ∧ rhF A D B fs.length ln db V1 (hds fs) 7 W z := ⟨_, rfl, hvs 7 (by decide)⟩
                have v8 : vs 8 = .pointer (some ⟨D, 1, none⟩) := hvs 8 (by decide)
                simp only [fillN, List.size_toArray, List.length_cons, List.length_nil, Nat.reduceAdd, show List.range 9 = [0, 1, 2, 3, 4, 5, 6, 7, 8] from rfl, List.foldl_cons, List.foldl_nil, show 57 + min 0 8 = 57 from rfl, show 57 + min 1 8 = 58 from rfl, show 57 + min 2 8 = 59 from rfl, show 57 + min 3 8 = 60 from rfl, show 57 + min 4 8 = 61 from rfl, show 57 + min 5 8 = 62 from rfl, show 57 + min 6 8 = 63 from rfl, show 57 + min 7 8 = 64 from rfl, show 57 + min 8 8 = 65 from rfl, v0, v1, v2, v3, v4, v5, v6, v7, v8]
                clear v0 v1 v2 v3 v4 v5 v6 v7 v8 hvs
                obtain ⟨g14, c14, rfl⟩ := Go.Joins.ownsRow_form (show W.ownsRow B 56 2 y7 (fs.length + 1) (hds fs ++ [.string ⟨#[99, 111, 110, 116, 101, 110, 116, 45, 108, 101, 110, 103, 116, 104]⟩, .string db]) from w7) (by omega)
                have hAn := hT.an
                have hcA : W.cell? ⟨D, 1, none⟩ = some V1 := by simp [World.cell?, hAn]
                have hzA : W.frozen? ⟨D, 1, none⟩ = false := frozen_of_row _ _ _ _ _ hAn
                have HST := Lib.hid (show RSt w D B fb (fs ++ [(Hp.cl, Dp.digs 10 ln)]) (W.setCell ⟨D, 1, none⟩ (.slice (some ⟨g14, 0, none⟩) (fs.length + 1) c14)) from ⟨_, heap_setCell_same _ _ 1 _ _ _ hAn, by
                  rw [hds_snoc, List.length_append]
                  show World.ownsRow _ B _ 2 _ (fs.length + 1) (hds fs ++ [Hp.sx Hp.cl, Hp.sx (Dp.digs 10 ln)])
                  rw [show Hp.sx (Dp.digs 10 ln) = .string db from by rw [← HDD.out]; rfl]
                  exact own_set w7 HDB2.out, by simpa using Nat.le_trans HBR0.out hT.bel.size, HQ1.out.1, HQ1.out.2.1, (HQ1.out.2.2.trans (hT.bel.mono HQ1.out.1)).setCell (p := ⟨D, 1, none⟩) HQ1.out.2.1 _⟩)
                have HG3 := Lib.hid ((Below.heap_setCell _ _ _ _ HAD3.out).trans (hT.oth A _ _ (by decide) HRX.out) : (W.setCell ⟨D, 1, none⟩ (.slice (some ⟨g14, 0, none⟩) (fs.length + 1) c14)).heap[A]? = some (repC ((sn : Int), ev, ck, true, (ln : Int))))
                have HW3 := Lib.hid ((Below.heap_setCell _ _ _ _ HAD2.out).trans (hT.oth (A + 1) _ _ (by decide) HHX.out) : (W.setCell ⟨D, 1, none⟩ (.slice (some ⟨g14, 0, none⟩) (fs.length + 1) c14)).heap[A + 1]? = some (.cells #[.string ⟨#[]⟩, .slice none 0 0] 28 (0, 0)))
                clear hT hAn
                unfold Oper.wp execOp
                simp only [hopL]
                go_simp
                clear hcA hzA w6 w7 hopL hdsL
                go_wp2_with fail
                go_meet
                exact ⟨by rw [show (hOpt ev (Hp.ct, Hp.es) ++ hOpt ck (Hp.te, Hp.ch) ++ hOpt true (Hp.cl, Dp.digs 10 ln)) = fs ++ [(Hp.cl, Dp.digs 10 ln)] from by rw [← HFS.out]; rfl]; exact HST.out, HG3.out, HW3.out⟩
              case start =>
                exact ⟨(Below.refl _ _).drew, HA1.out, fun k cs t ht h => h, fun _ => own_bel HO1.out (Below.refl _ _).drew, fun _ => rfl, fun _ => rfl⟩
          case rest =>
            obtain ⟨hst, hrx, hhx⟩ := hcut
            obtain ⟨wx, rfl⟩ : ∃ z, z = wc := ⟨_, rfl⟩
            obtain ⟨V1, hA1, hO1, hB1, h01, hA01, hb1⟩ := hst
            have hO1 : wx.ownsRow B 56 2 V1 (Rs.flds ((sn : Int), ev, ck, sz, (ln : Int))).length (hds (Rs.flds ((sn : Int), ev, ck, sz, (ln : Int)))) := hO1
            have hw := hhx
            obtain ⟨q1, c1, rfl⟩ := own_slQ hO1
            have d0 : wx.cell? ⟨D, 0, none⟩ = some (.string fb) := by simp [World.cell?, hA1]
            obtain ⟨n1, hn1⟩ : ∃ z, (Rs.flds ((sn : Int), ev, ck, sz, (ln : Int))).length = z := ⟨_, rfl⟩
            have d1 : wx.cell? ⟨D, 1, none⟩ = some (.slice q1 n1 c1) := by rw [← hn1]; simp [World.cell?, hA1]
            have z0 : wx.frozen? ⟨A + 1, 0, none⟩ = false := frozen_of_row _ _ _ _ _ hw
            have z1 : wx.frozen? ⟨A + 1, 1, none⟩ = false := frozen_of_row _ _ _ _ _ hw
            have e0 : wx.cell? ⟨A + 1, 0, none⟩ = some (.string ⟨#[]⟩) := by simp [World.cell?, hw]
            have e1 : wx.cell? ⟨A + 1, 1, none⟩ = some (.slice none 0 0) := by simp [World.cell?, hw]
            have hbX := (hb1.setCell (p := ⟨A + 1, 0, none⟩) (by rw [HA.out]; exact Nat.le_succ _) (.string fb)).setCell (p := ⟨A + 1, 1, none⟩) (by rw [HA.out]; exact Nat.le_succ _) (.slice q1 n1 c1)
            obtain ⟨x0, x1⟩ := hd_stored hw (.string fb) (.slice q1 n1 c1)
            have hOX := HS.own (own_set (own_set hO1 HAV.out (i := 0) (x := .string fb)) HAV.out (i := 1) (x := .slice q1 n1 c1))
            rw [hn1] at hOX
            have HFX := Lib.hid hOX
            have HBX := Lib.hid hbX
            have HX0 := Lib.hid x0
            have HX1 := Lib.hid x1
            clear hrx hhx hA1 hO1 hB1 h01 hA01 hb1 hw hn1 hOX hbX x0 x1
            go_wp2_with fail
            obtain ⟨X, hX⟩ : ∃ X, (wx.setCell ⟨A + 1, 0, none⟩ (.string fb)).setCell ⟨A + 1, 1, none⟩ (.slice q1 n1 c1) = X := ⟨_, rfl⟩
            rw [hX] at HFX HBX HX0 HX1 ⊢
            have x0 := HX0.out
            have x1 := HX1.out
            clear hX
            have hyes := HYES.out
            subst hyes
            simp [bodyPost, results, Tryz.results16, go_sem, x0, x1]
            exact ⟨⟨_, by unfold Hp.sx; rw [HFB.out], HFX.out⟩, HBX.out⟩
end Go.Proofs.YtheaichiglfmjaaGreatDoor

/- response: the law's own heads. No conditions but those that each law states. -/
namespace Go.Proofs.YtheaichiglfmjaaGreatDoor
set_option linter.unusedVariables false
set_option linter.unusedSimpArgs false
open Go.RowKit Go.Shelf
set_option maxHeartbeats 8000000
set_option maxRecDepth 100000
def roF (D B m G n c k : Nat) (nb vb : ByteArray) (V1 : Value) (xs : List Value) : Nat → World → Value → Prop
  | 0, _, v => v = .pointer (some ⟨D, 1, none⟩)
  | 1, _, v => v = V1
  | 2, _, v => v = .slice (some ⟨G, 0, none⟩) n c
  | 3, _, v => v = .int .i64 (k : Int)
  | 4, _, v => v = .pointer (some ⟨G, k, none⟩)
  | 5, _, v => v = .string nb
  | 6, _, v => v = .slice (some ⟨G, 0, none⟩) n c
  | 7, _, v => v = .int .i64 (k : Int)
  | 8, _, v => v = .int .i64 ((k : Int) + 1)
  | 9, _, v => v = .pointer (some ⟨G, k + 1, none⟩)
  | 10, _, v => v = .string vb
  | 11, _, v => v = .agg #[.string nb, .string vb]
  | 12, w, v => ∃ g, v = .slice (some ⟨g, 0, none⟩) 1 1 ∧ w.heap[g]? = some (.cells #[.string nb, .string vb] 56 (0, 0)) ∧ some g ≠ V1.ownBlock
  | 13, w, v => w.ownsRow B 56 2 v (m + 1) (xs ++ [.string nb, .string vb])
  | 14, _, v => v = .pointer (some ⟨D, 1, none⟩)
  | _, _, _ => False
theorem roF_alloc {D B m G n c k : Nat} {nb vb : ByteArray} {V1 : Value} {xs : List Value} {w : World} (j : Nat) (ob : Obj) (v : Value) (h : roF D B m G n c k nb vb V1 xs j w v) : roF D B m G n c k nb vb V1 xs j (w.alloc ob) v := by
  match j, h with
  | 0, h | 1, h | 2, h | 3, h | 4, h | 5, h | 6, h | 7, h | 8, h | 9, h | 10, h | 11, h | 14, h => exact h
  | 12, ⟨g, h1, h2, h3⟩ => exact ⟨g, h1, heap_alloc_old' _ h2, h3⟩
  | 13, h => exact World.ownsRow.alloc h _
  | n + 15, h => exact h.elim
structure PuG (al nx : Nat) (w0 : World) (D B n : Nat) (fb : ByteArray) (V0 : Value) (xs : List Value) (f : Nat → Bool) (w : World) : Prop where
  bel : Below B w0 w
  an : w.heap[D]? = some (.cells #[.string fb, V0] 28 (0, 0))
  oth : ∀ (k : Nat) (cs : Array Value) (t : TypeId), t ≠ 56 → w0.heap[k]? = some (.cells cs t (0, 0)) → w.heap[k]? = some (.cells cs t (0, 0))
  own : f al = false → w.ownsRow B 56 2 V0 n xs
  n1 : f 1 = false → f al = false
  n6 : f nx = false → f al = false
theorem PuG.step {al nx : Nat} {w0 w : World} {D B n : Nat} {fb : ByteArray} {V0 : Value} {xs : List Value} {f : Nat → Bool} {i : Nat} (h : PuG al nx w0 D B n fb V0 xs f w) (h1 : i ≠ al) : PuG al nx w0 D B n fb V0 xs (fun j => if j = i then true else f j) w := by
  refine ⟨h.bel, h.an, h.oth, fun h3 => h.own (by simpa [Ne.symm h1] using h3), fun h3 => ?_, fun h3 => ?_⟩
  · have : f 1 = false := by by_cases e : 1 = i <;> simp_all
    simpa [Ne.symm h1] using h.n1 this
  · have : f nx = false := by by_cases e : nx = i <;> simp_all
    simpa [Ne.symm h1] using h.n6 this
theorem PuG.alloc {al nx : Nat} {w0 w : World} {D B n : Nat} {fb : ByteArray} {V0 : Value} {xs : List Value} {f : Nat → Bool} (h : PuG al nx w0 D B n fb V0 xs f w) (hB : B ≤ w.heap.size) (ob : Obj) : PuG al nx w0 D B n fb V0 xs f (w.alloc ob) :=
  ⟨h.bel.alloc hB _, heap_alloc_old' _ h.an, fun k cs t ht hk => heap_alloc_old' _ (h.oth k cs t ht hk), fun h3 => (h.own h3).alloc _, h.n1, h.n6⟩
theorem law_of (fb : ByteArray) (G n c : Nat) (p : Option Addr) (ps : List Hp.Hd) (w : World) (hn : n = ps.length * 2) (hnc : n ≤ c ∧ c ≤ 1000) (hG : 0 < n → p = some ⟨G, 0, none⟩ ∧ w.heap[G]? = some (.cells (hds ps).toArray 9 (0, 0))) (hl : ps.length ≤ 100) :
    Calls Tryz.prog 20 #[.string fb, .slice p n c] w fun e w' => ∃ v, e = .returned (.agg #[.string fb, v]) ∧ HS w' v ps ∧ Below w.heap.size w w' := by
  obtain ⟨A, hA⟩ : ∃ z, w.heap.size = z := ⟨_, rfl⟩
  obtain ⟨W2, hW2⟩ : ∃ z, (w.alloc (.cells #[.string ⟨#[]⟩, .slice none 0 0] 28)).alloc (.cells #[.string fb, .slice none 0 0] 28) = z := ⟨_, rfl⟩
  have hb2 : Below w.heap.size w W2 := by rw [← hW2]; exact ((Below.refl _ _).alloc (Nat.le_refl _) _).alloc (by simp) _
  have hz2 : W2.heap.size = A + 2 := by rw [← hW2, ← hA]; simp
  have hH : W2.heap[A]? = some (.cells #[.string ⟨#[]⟩, .slice none 0 0] 28 (0, 0)) := by
    rw [← hW2, Below.heap_alloc _ _ _ (by simp [hA]), ← hA]; exact World.alloc_heap_new _ _
  have hDb : W2.heap[A + 1]? = some (.cells #[.string fb, .slice none 0 0] 28 (0, 0)) := by
    have h := World.alloc_heap_new (w.alloc (.cells #[.string ⟨#[]⟩, .slice none 0 0] 28)) (.cells #[.string fb, .slice none 0 0] 28)
    rw [hW2] at h
    simpa [hA] using h
  obtain ⟨D, hD⟩ : ∃ z, A + 1 = z := ⟨_, rfl⟩
  obtain ⟨B, hB⟩ : ∃ z, A + 2 = z := ⟨_, rfl⟩
  rw [hD] at hDb
  rw [hB] at hz2
  have HST := Lib.hid (show RSt w D B fb [] W2 from ⟨.slice none 0 0, hDb, World.ownsRow_nil _ _ _ _, by omega, by rw [hA]; omega, by rw [hA]; omega, hb2⟩)
  have HG0 := Lib.hid (show 0 < n → W2.heap[G]? = some (.cells (hds ps).toArray 9 (0, 0)) from fun h => (hb2.block _ (Array.getElem?_eq_some_iff.1 (hG h).2).1).trans (hG h).2)
  have HP := Lib.hid (fun h => (hG h).1)
  have HGD := Lib.hid (show ∀ h : 0 < n, G ≠ D from fun h => by have := (Array.getElem?_eq_some_iff.1 (hG h).2).1; omega)
  have HH := Lib.hid hH
  have HAD2 := Lib.hid (show A ≠ D by omega)
  have HAV := Lib.hid (show A < B by omega)
  have HDB2 := Lib.hid (show D < B by omega)
  have HW2 := Lib.hid hW2
  have HA := Lib.hid hA
  have HD := Lib.hid hD
  obtain ⟨i0, hi, hz0, hz1, hz2'⟩ := info_parts (show (Tryz.prog.info? 56).map (fun i => (i.zero, i.size, i.bytes)) = some (some (.agg #[.string ByteArray.empty, .string ByteArray.empty]), 2, 32) by kernel_rfl)
  have hz2 := hz2'
  clear hb2 hH hDb hG hW2 hA hD hB hz2'
  go_enter Tryz.func20, Tryz.ntmps20
  go_upto_region 2 with (fail)
  rw [HW2.out, HA.out, HD.out]
  go_wp2_with fail
  go_loopw [6] (fun i wr => ∃ j : Nat, j ≤ ps.length ∧ i = .int .i64 ((j * 2 : Nat) : Int) ∧ RSt w D B fb (ps.take j) wr ∧ (0 < n → wr.heap[G]? = some (.cells (hds ps).toArray 9 (0, 0))) ∧ wr.heap[A]? = some (.cells #[.string ⟨#[]⟩, .slice none 0 0] 28 (0, 0))) (fun i _ => n - (intOf i).toNat)
  case atStart => exact ⟨0, Nat.zero_le _, rfl, HST.out, HG0.out, HH.out⟩
  case round =>
    obtain ⟨j, hj, rfl, hst, hg, hh⟩ := hrel
    obtain ⟨k, hk⟩ : ∃ k, j * 2 = k := ⟨_, rfl⟩
    rw [hk]
    by_cases hlt : j < ps.length
    · have hk1 : k + 1 < n := by omega
      have hk2 : (k : Int) + 1 < (n : Int) := by omega
      have hk3 : (k : Int) < (n : Int) := by omega
      have HWR := Lib.hid (show IntKind.i64.wrap ((k : Int) + 1) = (k : Int) + 1 by simp [IntKind.wrap, IntKind.bits, IntKind.signed]; omega)
      have hpos : 0 < n := by omega
      obtain rfl := HP.out hpos
      have HGX := Lib.hid (hg hpos)
      have HGD' := HGD.out hpos
      clear HGD
      have HGD := Lib.hid HGD'
      obtain ⟨hc1, hc2⟩ := hds_get ps j hlt
      rw [hk] at hc1 hc2
      obtain ⟨⟨x, y⟩, hxy⟩ : ∃ q, ps.getD j ([], []) = q := ⟨_, rfl⟩
      rw [hxy] at hc1 hc2
      obtain ⟨nb, hnb⟩ : ∃ z : ByteArray, (⟨x.toArray⟩ : ByteArray) = z := ⟨_, rfl⟩
      obtain ⟨vb, hvb⟩ : ∃ z : ByteArray, (⟨y.toArray⟩ : ByteArray) = z := ⟨_, rfl⟩
      have HX := Lib.hid (show Hp.sx x = .string nb by rw [← hnb]; rfl)
      have HY := Lib.hid (show Hp.sx y = .string vb by rw [← hvb]; rfl)
      have HCN := Lib.hid (show (hds ps)[k]? = some (.string nb) by rw [hc1, ← HX.out])
      have HCV := Lib.hid (show (hds ps)[k + 1]? = some (.string vb) by rw [hc2, ← HY.out])
      have HTK := Lib.hid (show ps.take (j + 1) = ps.take j ++ [(x, y)] by
        rw [List.take_add_one, List.getElem?_eq_getElem hlt]
        have h : ps[j] = (x, y) := by rw [← hxy, List.getD_eq_getElem?_getD, List.getElem?_eq_getElem hlt]; rfl
        rw [h]; rfl)
      have hfl : (ps.take j).length ≤ 100 := by rw [List.length_take]; omega
      obtain ⟨fs, hfs⟩ : ∃ z, ps.take j = z := ⟨_, rfl⟩
      rw [hfs] at hst HTK hfl
      obtain ⟨V1, hA1, hO1, hB1, h01, hA01, hb1⟩ := hst
      have HA1 := Lib.hid hA1
      have HO1 := Lib.hid hO1
      have HBR0 := Lib.hid hB1
      have HQ1 := Lib.hid (And.intro h01 (And.intro hA01 hb1))
      have HHX := Lib.hid hh
      clear hA1 hO1 hB1 h01 hA01 hb1 hg hh hc1 hc2 hxy hnb hvb hfs HGD'
      go_upto_region 5 with (fail)
      refine region_last2 15 (fun i => 16 + min i 14) (roF D B fs.length G n c k nb vb V1 (hds fs)) (PuG 13 12 wr D B fs.length fb V1 (hds fs)) (by kernel_rfl) (by kernel_rfl) rfl (by kernel_rfl) (fun i => by show 16 + min i 14 < _; simp; omega) (fun i j hi hj h => by have h : 16 + min i 14 = 16 + min j 14 := h; omega) ?start ?dst ?step ?last
      case dst =>
        intro i o hi ho
        match i, hi, ho with
        | 0, _, ho => cases ho; rfl
        | 1, _, ho => cases ho; rfl
        | 2, _, ho => cases ho; rfl
        | 3, _, ho => cases ho; rfl
        | 4, _, ho => cases ho; rfl
        | 5, _, ho => cases ho; rfl
        | 6, _, ho => cases ho; rfl
        | 7, _, ho => cases ho; rfl
        | 8, _, ho => cases ho; rfl
        | 9, _, ho => cases ho; rfl
        | 10, _, ho => cases ho; rfl
        | 11, _, ho => cases ho; rfl
        | 12, _, ho => cases ho; rfl
        | 13, _, ho => cases ho; rfl
        | 14, _, ho => cases ho; rfl
        | n + 15, hi, _ => exact absurd hi (by omega)
      case step =>
        intro f a' W i o hib ho hfi hpre hT hrest
        match i, hib, ho with
        | 0, _, ho =>
          cases ho
          have q5 : a'.tmps.getD 5 undef = .pointer (some ⟨D, 0, none⟩) := (hrest 5 (by intro i hi; show 16 + min i 14 ≠ _; omega))
          have e5 := rg_ev q5
          exact rg_same2 (.pointer (some ⟨D, 1, none⟩)) (by unfold Oper.wp execOp; go_simp; all_goals ((try simp only [e5]); (try go_simp); (try rw [if_pos (by omega)]); (try rw [if_neg (by omega)]); first | done | rfl | exact ⟨rfl, rfl⟩ | trivial)) rfl (hT.step (by decide))
        | 1, _, ho =>
          cases ho
          have f16 := (hpre { on := 0, ground := .data } (by simp) rfl).1
          have q16 : a'.tmps.getD 16 undef = .pointer (some ⟨D, 1, none⟩) := (hpre { on := 0, ground := .data } (by simp) rfl).2
          have c1 : W.cell? ⟨D, 1, none⟩ = some V1 := by simp [World.cell?, hT.an]
          have e16 := rg_ev q16
          exact rg_same2 (V1) (by unfold Oper.wp execOp; go_simp; all_goals ((try simp only [e16]); (try go_simp); (try rw [if_pos (by omega)]); (try rw [if_neg (by omega)]); first | done | rfl | exact ⟨rfl, rfl⟩ | trivial)) rfl (hT.step (by decide))
        | 2, _, ho =>
          cases ho
          have q1 : a'.tmps.getD 1 undef = .slice (some ⟨G, 0, none⟩) n c := (hrest 1 (by intro i hi; show 16 + min i 14 ≠ _; omega))
          have e1 := rg_ev q1
          exact rg_same2 (.slice (some ⟨G, 0, none⟩) n c) (by unfold Oper.wp execOp; go_simp; all_goals ((try simp only [e1]); (try go_simp); (try rw [if_pos (by omega)]); (try rw [if_neg (by omega)]); first | done | rfl | exact ⟨rfl, rfl⟩ | trivial)) rfl (hT.step (by decide))
        | 3, _, ho =>
          cases ho
          have q6 : a'.tmps.getD 6 undef = .int .i64 (k : Int) := (hrest 6 (by intro i hi; show 16 + min i 14 ≠ _; omega))
          have e6 := rg_ev q6
          exact rg_same2 (.int .i64 (k : Int)) (by unfold Oper.wp execOp; go_simp; all_goals ((try simp only [e6]); (try go_simp); (try rw [if_pos (by omega)]); (try rw [if_neg (by omega)]); first | done | rfl | exact ⟨rfl, rfl⟩ | trivial)) rfl (hT.step (by decide))
        | 4, _, ho =>
          cases ho
          have f18 := (hpre { on := 2, ground := .data } (by simp) rfl).1
          have q18 : a'.tmps.getD 18 undef = .slice (some ⟨G, 0, none⟩) n c := (hpre { on := 2, ground := .data } (by simp) rfl).2
          have f19 := (hpre { on := 3, ground := .data } (by simp) rfl).1
          have q19 : a'.tmps.getD 19 undef = .int .i64 (k : Int) := (hpre { on := 3, ground := .data } (by simp) rfl).2
          have e18 := rg_ev q18
          have e19 := rg_ev q19
          exact rg_same2 (.pointer (some ⟨G, k, none⟩)) (by unfold Oper.wp execOp; go_simp; all_goals ((try simp only [e18, e19]); (try go_simp); (try rw [if_pos (by omega)]); (try rw [if_neg (by omega)]); first | done | rfl | exact ⟨rfl, rfl⟩ | trivial)) rfl (hT.step (by decide))
        | 5, _, ho =>
          cases ho
          have f20 := (hpre { on := 4, ground := .data } (by simp) rfl).1
          have q20 : a'.tmps.getD 20 undef = .pointer (some ⟨G, k, none⟩) := (hpre { on := 4, ground := .data } (by simp) rfl).2
          have c2 : W.cell? ⟨G, k, none⟩ = some (.string nb) := by simp [World.cell?, hT.oth G _ _ (by decide) HGX.out, HCN.out]
          have e20 := rg_ev q20
          exact rg_same2 (.string nb) (by unfold Oper.wp execOp; go_simp; all_goals ((try simp only [e20]); (try go_simp); (try rw [if_pos (by omega)]); (try rw [if_neg (by omega)]); first | done | rfl | exact ⟨rfl, rfl⟩ | trivial)) rfl (hT.step (by decide))
        | 6, _, ho =>
          cases ho
          have q1 : a'.tmps.getD 1 undef = .slice (some ⟨G, 0, none⟩) n c := (hrest 1 (by intro i hi; show 16 + min i 14 ≠ _; omega))
          have e1 := rg_ev q1
          exact rg_same2 (.slice (some ⟨G, 0, none⟩) n c) (by unfold Oper.wp execOp; go_simp; all_goals ((try simp only [e1]); (try go_simp); (try rw [if_pos (by omega)]); (try rw [if_neg (by omega)]); first | done | rfl | exact ⟨rfl, rfl⟩ | trivial)) rfl (hT.step (by decide))
        | 7, _, ho =>
          cases ho
          have q6 : a'.tmps.getD 6 undef = .int .i64 (k : Int) := (hrest 6 (by intro i hi; show 16 + min i 14 ≠ _; omega))
          have e6 := rg_ev q6
          exact rg_same2 (.int .i64 (k : Int)) (by unfold Oper.wp execOp; go_simp; all_goals ((try simp only [e6]); (try go_simp); (try rw [if_pos (by omega)]); (try rw [if_neg (by omega)]); first | done | rfl | exact ⟨rfl, rfl⟩ | trivial)) rfl (hT.step (by decide))
        | 8, _, ho =>
          cases ho
          have f23 := (hpre { on := 7, ground := .data } (by simp) rfl).1
          have q23 : a'.tmps.getD 23 undef = .int .i64 (k : Int) := (hpre { on := 7, ground := .data } (by simp) rfl).2
          have e23 := rg_ev q23
          exact rg_same2 (.int .i64 ((k : Int) + 1)) (by unfold Oper.wp execOp; go_simp; (try simp only [e23]); (try go_simp); (try rw [HWR.out])) rfl (hT.step (by decide))
        | 9, _, ho =>
          cases ho
          have f22 := (hpre { on := 6, ground := .data } (by simp) rfl).1
          have q22 : a'.tmps.getD 22 undef = .slice (some ⟨G, 0, none⟩) n c := (hpre { on := 6, ground := .data } (by simp) rfl).2
          have f24 := (hpre { on := 8, ground := .data } (by simp) rfl).1
          have q24 : a'.tmps.getD 24 undef = .int .i64 ((k : Int) + 1) := (hpre { on := 8, ground := .data } (by simp) rfl).2
          have e22 := rg_ev q22
          have e24 := rg_ev q24
          exact rg_same2 (.pointer (some ⟨G, k + 1, none⟩)) (by unfold Oper.wp execOp; go_simp; all_goals ((try simp only [e22, e24]); (try go_simp); (try rw [if_pos (by omega)]); (try rw [if_neg (by omega)]); first | done | rfl | exact ⟨rfl, rfl⟩ | trivial)) rfl (hT.step (by decide))
        | 10, _, ho =>
          cases ho
          have f25 := (hpre { on := 9, ground := .data } (by simp) rfl).1
          have q25 : a'.tmps.getD 25 undef = .pointer (some ⟨G, k + 1, none⟩) := (hpre { on := 9, ground := .data } (by simp) rfl).2
          have c3 : W.cell? ⟨G, k + 1, none⟩ = some (.string vb) := by simp [World.cell?, hT.oth G _ _ (by decide) HGX.out, HCV.out]
          have e25 := rg_ev q25
          exact rg_same2 (.string vb) (by unfold Oper.wp execOp; go_simp; all_goals ((try simp only [e25]); (try go_simp); (try rw [if_pos (by omega)]); (try rw [if_neg (by omega)]); first | done | rfl | exact ⟨rfl, rfl⟩ | trivial)) rfl (hT.step (by decide))
        | 11, _, ho =>
          cases ho
          have f21 := (hpre { on := 5, ground := .data } (by simp) rfl).1
          have q21 : a'.tmps.getD 21 undef = .string nb := (hpre { on := 5, ground := .data } (by simp) rfl).2
          have f26 := (hpre { on := 10, ground := .data } (by simp) rfl).1
          have q26 : a'.tmps.getD 26 undef = .string vb := (hpre { on := 10, ground := .data } (by simp) rfl).2
          have e21 := rg_ev q21
          have e26 := rg_ev q26
          exact rg_same2 (.agg #[.string nb, .string vb]) (by unfold Oper.wp execOp; go_simp; all_goals ((try simp only [e21, e26]); (try go_simp); (try rw [if_pos (by omega)]); (try rw [if_neg (by omega)]); first | done | rfl | exact ⟨rfl, rfl⟩ | trivial)) rfl (hT.step (by decide))
        | 12, _, ho =>
          cases ho
          have f27 := (hpre { on := 11, ground := .data } (by simp) rfl).1
          have q27 : a'.tmps.getD 27 undef = .agg #[.string nb, .string vb] := (hpre { on := 11, ground := .data } (by simp) rfl).2
          have e27 := rg_ev q27
          have hO := hT.own (hT.n6 hfi)
          have hBW : B ≤ W.heap.size := Nat.le_trans HBR0.out hT.bel.size
          unfold Oper.wp execOp
          go_simp
          (try simp only [e27])
          (try go_simp)
          refine ⟨_, rfl, ⟨W.heap.size, rfl, World.alloc_heap_new _ _, fun h => Nat.lt_irrefl _ (hO.lt _ h.symm).2⟩, ?_, fun j u _ h => roF_alloc j _ u h⟩
          first | exact (hT.step (i := 12) (by decide)).alloc hBW _ | (rw [show (fun j => decide (j = 12) || f j) = (fun j => if j = 12 then true else f j) by funext j; by_cases h : j = 12 <;> simp [h]]; exact (hT.step (i := 12) (by decide)).alloc hBW _)
        | 13, _, ho =>
          cases ho
          have f17 := (hpre { on := 1, ground := .data } (by simp) rfl).1
          have q17 : a'.tmps.getD 17 undef = V1 := (hpre { on := 1, ground := .data } (by simp) rfl).2
          have f28 := (hpre { on := 12, ground := .data } (by simp) rfl).1
          have h28 := (hpre { on := 12, ground := .data } (by simp) rfl).2
          obtain ⟨g, hg1, hg2, hg3⟩ := h28
          have q23a : a'.eval (.tmp 17) = V1 := q17
          have q23b : a'.eval (.tmp 28) = .slice (some ⟨g, 0, none⟩) 1 1 := hg1
          have hO := hT.own hfi
          have hBW : B ≤ W.heap.size := Nat.le_trans HBR0.out hT.bel.size
          refine wp_append_own _ _ _ 26 rfl B 56 i0 (.agg #[.string ByteArray.empty, .string ByteArray.empty]) 2 32 Tryz.underlying26 hi hz0 hz1 hz2 rfl (by decide) V1 fs.length (hds fs) q23a hO ⟨g, 0, none⟩ 1 1 [.string nb, .string vb] q23b rfl ?_ ?_ ?_ ?_ ?_ ?_
          · intro j u hj
            match j, hj with
            | 0, hj => simp at hj; subst hj; simp [Addr.add, World.cell?, hg2]
            | 1, hj => simp at hj; subst hj; simp [Addr.add, World.cell?, hg2]
          · intro u hu; simp at hu; rcases hu with rfl | rfl <;> rfl
          · unfold maxLen; omega
          · omega
          · exact hBW
          · intro v' w' hown' hgrow _
            have keep : ∀ (k : Nat) (cs : Array Value) (t : TypeId) (fr : Nat × Nat), t ≠ 56 → W.heap[k]? = some (.cells cs t fr) → w'.heap[k]? = some (.cells cs t fr) := fun k cs t fr ht hk => (hgrow.block k (Array.getElem?_eq_some_iff.1 hk).1 (own_ne hO hk ht)).trans hk
            refine ⟨v', rfl, hown', ⟨Below.grown hT.bel hgrow hBW (own_geH hO), keep _ _ _ _ (by decide) hT.an, fun k cs t ht hk => keep _ _ _ _ ht (hT.oth k cs t ht hk), fun h => by simp at h, fun h => by simp [f17] at h, fun h => by simp [f28] at h⟩, fun j u hj hF => ?_⟩
            match j, hF with
            | 0, h | 1, h | 2, h | 3, h | 4, h | 5, h | 6, h | 7, h | 8, h | 9, h | 10, h | 11, h | 14, h => exact h
            | 12, ⟨g', h1, h2, h3⟩ => exact ⟨g', h1, (hgrow.block g' (Array.getElem?_eq_some_iff.1 h2).1 h3).trans h2, h3⟩
            | 13, h => rw [hfi] at hj; cases hj
            | n + 15, h => exact h.elim
        | 14, _, ho =>
          cases ho
          have q5 : a'.tmps.getD 5 undef = .pointer (some ⟨D, 0, none⟩) := (hrest 5 (by intro i hi; show 16 + min i 14 ≠ _; omega))
          have e5 := rg_ev q5
          exact rg_same2 (.pointer (some ⟨D, 1, none⟩)) (by unfold Oper.wp execOp; go_simp; all_goals ((try simp only [e5]); (try go_simp); (try rw [if_pos (by omega)]); (try rw [if_neg (by omega)]); first | done | rfl | exact ⟨rfl, rfl⟩ | trivial)) rfl (hT.step (by decide))
        | n + 15, hib, _ => exact absurd hib (by omega)
      case last =>
        intro f vs W oL ho hall hT hvs
        have hopL : oL.op = Op.store 26 (.tmp 30) (.tmp 29) := by cases ho; rfl
        have hdsL : oL.dst = none := by cases ho; rfl
        clear ho hall
        have v0 : vs 0 = .pointer (some ⟨D, 1, none⟩) := hvs 0 (by decide)
        have v1 : vs 1 = V1 := hvs 1 (by decide)
        have v2 : vs 2 = .slice (some ⟨G, 0, none⟩) n c := hvs 2 (by decide)
        have v3 : vs 3 = .int .i64 (k : Int) := hvs 3 (by decide)
        have v4 : vs 4 = .pointer (some ⟨G, k, none⟩) := hvs 4 (by decide)
        have v5 : vs 5 = .string nb := hvs 5 (by decide)
        have v6 : vs 6 = .slice (some ⟨G, 0, none⟩) n c := hvs 6 (by decide)
        have v7 : vs 7 = .int .i64 (k : Int) := hvs 7 (by decide)
        have v8 : vs 8 = .int .i64 ((k : Int) + 1) := hvs 8 (by decide)
        have v9 : vs 9 = .pointer (some ⟨G, k + 1, none⟩) := hvs 9 (by decide)
        have v10 : vs 10 = .string vb := hvs 10 (by decide)
        have v11 : vs 11 = .agg #[.string nb, .string vb] := hvs 11 (by decide)
        obtain ⟨y12, v12, w12⟩ : ∃ z, vs 12 = z ∧ roF D B fs.length G n c k nb vb V1 (hds fs) 12 W z := ⟨_, rfl, hvs 12 (by decide)⟩
        obtain ⟨y13, v13, w13⟩ : ∃ z, vs 13 = z ∧ roF D B fs.length G n c k nb vb V1 (hds fs) 13 W z := ⟨_, rfl, hvs 13 (by decide)⟩
        have v14 : vs 14 = .pointer (some ⟨D, 1, none⟩) := hvs 14 (by decide)
        simp only [fillN, List.size_toArray, List.length_cons, List.length_nil, Nat.reduceAdd, show List.range 15 = [0, 1, 2, 3, 4, 5, 6, 7, 8, 9, 10, 11, 12, 13, 14] from rfl, List.foldl_cons, List.foldl_nil, show 16 + min 0 14 = 16 from rfl, show 16 + min 1 14 = 17 from rfl, show 16 + min 2 14 = 18 from rfl, show 16 + min 3 14 = 19 from rfl, show 16 + min 4 14 = 20 from rfl, show 16 + min 5 14 = 21 from rfl, show 16 + min 6 14 = 22 from rfl, show 16 + min 7 14 = 23 from rfl, show 16 + min 8 14 = 24 from rfl, show 16 + min 9 14 = 25 from rfl, show 16 + min 10 14 = 26 from rfl, show 16 + min 11 14 = 27 from rfl, show 16 + min 12 14 = 28 from rfl, show 16 + min 13 14 = 29 from rfl, show 16 + min 14 14 = 30 from rfl, v0, v1, v2, v3, v4, v5, v6, v7, v8, v9, v10, v11, v12, v13, v14]
        clear v0 v1 v2 v3 v4 v5 v6 v7 v8 v9 v10 v11 v12 v13 v14 hvs
        obtain ⟨g14, c14, rfl⟩ := Go.Joins.ownsRow_form (show W.ownsRow B 56 2 y13 (fs.length + 1) (hds fs ++ [.string nb, .string vb]) from w13) (by omega)
        have hAn := hT.an
        have hcA : W.cell? ⟨D, 1, none⟩ = some V1 := by simp [World.cell?, hAn]
        have hzA : W.frozen? ⟨D, 1, none⟩ = false := frozen_of_row _ _ _ _ _ hAn
        have HST := Lib.hid (show RSt w D B fb (fs ++ [(x, y)]) (W.setCell ⟨D, 1, none⟩ (.slice (some ⟨g14, 0, none⟩) (fs.length + 1) c14)) from ⟨_, heap_setCell_same _ _ 1 _ _ _ hAn, by
          rw [hds_snoc, List.length_append]
          show World.ownsRow _ B _ 2 _ (fs.length + 1) (hds fs ++ [Hp.sx x, Hp.sx y])
          rw [HX.out, HY.out]
          exact own_set w13 HDB2.out, by simpa using Nat.le_trans HBR0.out hT.bel.size, HQ1.out.1, HQ1.out.2.1, (HQ1.out.2.2.trans (hT.bel.mono HQ1.out.1)).setCell (p := ⟨D, 1, none⟩) HQ1.out.2.1 _⟩)
        have HG3 := Lib.hid ((Below.heap_setCell _ _ _ _ HGD.out).trans (hT.oth G _ _ (by decide) HGX.out) : (W.setCell ⟨D, 1, none⟩ (.slice (some ⟨g14, 0, none⟩) (fs.length + 1) c14)).heap[G]? = some (.cells (hds ps).toArray 9 (0, 0)))
        have HW3 := Lib.hid ((Below.heap_setCell _ _ _ _ HAD2.out).trans (hT.oth A _ _ (by decide) HHX.out) : (W.setCell ⟨D, 1, none⟩ (.slice (some ⟨g14, 0, none⟩) (fs.length + 1) c14)).heap[A]? = some (.cells #[.string ⟨#[]⟩, .slice none 0 0] 28 (0, 0)))
        clear hT hAn
        unfold Oper.wp execOp
        simp only [hopL]
        go_simp
        clear hcA hzA w12 w13 hopL hdsL
        go_wp2_with fail
        go_roundw
        case rel => exact ⟨j + 1, by omega, by go_num, (by rw [HTK.out]; exact HST.out), fun _ => HG3.out, HW3.out⟩
        case measure => simp [intOf]; omega
      case start =>
        exact ⟨(Below.refl _ _).drew, HA1.out, fun k cs t ht h => h, fun _ => own_bel HO1.out (Below.refl _ _).drew, fun _ => rfl, fun _ => rfl⟩
    · obtain rfl : j = ps.length := by omega
      rw [List.take_length] at hst
      have hk1 : ¬ (k : Int) + 1 < (n : Int) := by omega
      obtain ⟨V1, hA1, hO1, hB1, h01, hA01, hb1⟩ := hst
      obtain ⟨q1, c1, rfl⟩ := own_slQ hO1
      have d0 : wr.cell? ⟨D, 0, none⟩ = some (.string fb) := by simp [World.cell?, hA1]
      obtain ⟨n1, hn1⟩ : ∃ z, ps.length = z := ⟨_, rfl⟩
      have d1 : wr.cell? ⟨D, 1, none⟩ = some (.slice q1 n1 c1) := by rw [← hn1]; simp [World.cell?, hA1]
      have e0 : wr.cell? ⟨A, 0, none⟩ = some (.string ⟨#[]⟩) := by simp [World.cell?, hh]
      have e1 : wr.cell? ⟨A, 1, none⟩ = some (.slice none 0 0) := by simp [World.cell?, hh]
      have z0 : wr.frozen? ⟨A, 0, none⟩ = false := frozen_of_row _ _ _ _ _ hh
      have z1 : wr.frozen? ⟨A, 1, none⟩ = false := frozen_of_row _ _ _ _ _ hh
      have hbX := (hb1.setCell (p := ⟨A, 0, none⟩) (by rw [HA.out]; exact Nat.le_refl _) (.string fb)).setCell (p := ⟨A, 1, none⟩) (by rw [HA.out]; exact Nat.le_refl _) (.slice q1 n1 c1)
      obtain ⟨x0, x1⟩ := hd_stored hh (.string fb) (.slice q1 n1 c1)
      have hOX := HS.own (own_set (own_set hO1 HAV.out (i := 0) (x := .string fb)) HAV.out (i := 1) (x := .slice q1 n1 c1))
      rw [hn1] at hOX
      have HFX := Lib.hid hOX
      have HBX := Lib.hid hbX
      have HX0 := Lib.hid x0
      have HX1 := Lib.hid x1
      clear hA1 hO1 hB1 h01 hA01 hb1 hh hg hOX hbX x0 x1 hj hlt
      go_wp2_with fail
      obtain ⟨X, hX⟩ : ∃ X, (wr.setCell ⟨A, 0, none⟩ (.string fb)).setCell ⟨A, 1, none⟩ (.slice q1 n1 c1) = X := ⟨_, rfl⟩
      rw [hX] at HFX HBX HX0 HX1 ⊢
      have x0 := HX0.out
      have x1 := HX1.out
      clear hX
      simp [bodyPost, results, Tryz.results20, go_sem, x0, x1]
      exact ⟨HFX.out, HBX.out⟩
end Go.Proofs.YtheaichiglfmjaaGreatDoor

/- response: what a todo asks. No conditions but those that each law states. -/
namespace Go.Proofs.YtheaichiglfmjaaGreatDoor
set_option linter.unusedVariables false
set_option linter.unusedSimpArgs false
open Go.RowKit Go.Shelf
set_option maxHeartbeats 4000000
set_option maxRecDepth 100000
theorem rs_todo1 (st : Int) (ev ck sz : Bool) (ln : Int) (w : World) :
    Calls Tryz.prog 70 #[repV (st, ev, ck, sz, ln)] w fun e w' => e = .returned (.bool (decide (st = 200) && ev)) ∧ Below w.heap.size w w' := by
  have HB := Lib.hid ((Below.refl w.heap.size w).alloc (Nat.le_refl _) (repC (st, ev, ck, sz, ln)))
  unfold repC at HB
  unfold repV
  by_cases h : st = 200
  · subst h
    go_enter Tryz.func70, Tryz.ntmps70
    go_wp2_with fail
    go_ret
    exact ⟨rfl, HB.out⟩
  · have hq : (st == 200) = false := beq_eq_false_iff_ne.2 h
    rw [decide_eq_false h]
    clear h
    go_enter Tryz.func70, Tryz.ntmps70
    go_wp2_with fail
    go_ret
    exact ⟨rfl, HB.out⟩
theorem rs_todo2 (st : Int) (ev ck sz : Bool) (ln : Int) (w : World) :
    Calls Tryz.prog 71 #[repV (st, ev, ck, sz, ln)] w fun e w' => e = .returned (.bool (decide (st = 204))) ∧ Below w.heap.size w w' := by
  have HB := Lib.hid ((Below.refl w.heap.size w).alloc (Nat.le_refl _) (repC (st, ev, ck, sz, ln)))
  unfold repC at HB
  unfold repV
  go_enter Tryz.func71, Tryz.ntmps71
  go_wp2_with fail
  go_ret
  exact ⟨by by_cases h : st = 204 <;> simp [h], HB.out⟩
end Go.Proofs.YtheaichiglfmjaaGreatDoor

/- response: the map of todos. No conditions but those that each law states. -/
namespace Go.Proofs.YtheaichiglfmjaaGreatDoor
set_option linter.unusedVariables false
set_option linter.unusedSimpArgs false
open Go.RowKit Go.Shelf
open Go.ChangeMaps (setBlock)
set_option maxHeartbeats 4000000
set_option maxRecDepth 100000
def tdE1 : MapEntry := ⟨.int .i64 1, .func (.func 70) #[] #[], 0⟩
def tdE2 : MapEntry := ⟨.int .i64 2, .func (.func 71) #[] #[], 1⟩
/-- the todos' map -/
def tdMap : Obj := .map #[tdE1, tdE2] 2
theorem tmap_put (W : World) (b : Nat) (es : Array MapEntry) (clock : Nat) (k : Int) (v : Value) (hb : W.heap[b]? = some (.map es clock)) (hn : Instr.findNow (.int .i64) (.int .i64 k) es.toList 0 = some none) :
    (Instr.mapUpdate 86 (.map (some b)) (.int .i64 k) v).run Tryz.prog W = .ok () (setBlock W b (.map (es.push ⟨.int .i64 k, v, clock⟩) (clock + 1))) := by
  simp [Instr.mapUpdate, run_underlying Tryz.underlying86, MapKept.run_getObj_map hb, MapKept.run_checkKey (k := .int .i64 k) Tryz.underlying38 (by simp [MapKept.IsKey]) false 9999, MapKept.run_findKey Tryz.underlying38 hn, MapKept.run_setObj_map _ hb, Result.andThen, setBlock]
theorem setBlock_atQ {w : World} {b : Nat} {o o' : Obj} (h : w.heap[b]? = some o) : (setBlock w b o').heap[b]? = some o' := by
  have hb := (Array.getElem?_eq_some_iff.1 h).1
  simp [setBlock, hb]
theorem setBlock_belowQ (w : World) (b B : Nat) (o : Obj) (hB : B ≤ b) : Below B w (setBlock w b o) :=
  ⟨rfl, rfl, rfl, by simp [setBlock], fun k hk => by simp only [setBlock]; rw [Array.getElem?_setIfInBounds_ne]; omega⟩
theorem rs_todos (w : World) :
    Calls Tryz.prog 45 #[] w fun e w' => e = .returned (.map (some w.heap.size)) ∧ w'.heap[w.heap.size]? = some tdMap ∧ Below w.heap.size w w' := by
  have hmm := @run_makeMap Tryz.prog
  have hn := World.alloc_heap_new w (.map #[] 0)
  have hu1 := tmap_put (w.alloc (.map #[] 0)) w.heap.size #[] 0 1 (.func (.func 70) #[] #[]) hn rfl
  obtain ⟨W1, hW1⟩ : ∃ Z, setBlock (w.alloc (.map #[] 0)) w.heap.size (.map (#[].push ⟨.int .i64 1, .func (.func 70) #[] #[], 0⟩) (0 + 1)) = Z := ⟨_, rfl⟩
  rw [hW1] at hu1
  have hn1 : W1.heap[w.heap.size]? = some (.map #[tdE1] 1) := by rw [← hW1]; exact setBlock_atQ hn
  have hb1 : Below w.heap.size w W1 := by rw [← hW1]; exact ((Below.refl _ _).alloc (Nat.le_refl _) _).trans (setBlock_belowQ _ _ _ _ (Nat.le_refl _))
  have hu2 := tmap_put W1 w.heap.size _ 1 2 (.func (.func 71) #[] #[]) hn1 rfl
  obtain ⟨W2, hW2⟩ : ∃ Z, setBlock W1 w.heap.size (.map (#[tdE1].push ⟨.int .i64 2, .func (.func 71) #[] #[], 1⟩) (1 + 1)) = Z := ⟨_, rfl⟩
  rw [hW2] at hu2
  have HN := Lib.hid (show W2.heap[w.heap.size]? = some tdMap by rw [← hW2]; exact setBlock_atQ hn1)
  have HB := Lib.hid (show Below w.heap.size w W2 by rw [← hW2]; exact hb1.trans (setBlock_belowQ _ _ _ _ (Nat.le_refl _)))
  clear hn hn1 hb1 hW1 hW2
  go_enter Tryz.func45, Tryz.ntmps45
  go_wp2_with fail
  go_ret
  exact ⟨rfl, HN.out, HB.out⟩
end Go.Proofs.YtheaichiglfmjaaGreatDoor

/- response: What. No conditions but those that each law states. -/
namespace Go.Proofs.YtheaichiglfmjaaGreatDoor
set_option linter.unusedVariables false
set_option linter.unusedSimpArgs false
open Go.RowKit Go.Shelf
open Go.ChangeMaps (setBlock)
set_option maxHeartbeats 4000000
set_option maxRecDepth 100000
/-- what a reply bids -/
def Rs.what (r : Rs.Rep) : Int := if 100 ≤ r.1 ∧ r.1 ≤ 599 then (if r.1 = 200 ∧ r.2.1 = true then 1 else if r.1 = 204 then 2 else 3) else 0
theorem setBlock_otherQ (w : World) (b : Nat) (o : Obj) {k : Nat} (hk : k ≠ b) : (setBlock w b o).heap[k]? = w.heap[k]? := by
  simp only [setBlock]; rw [Array.getElem?_setIfInBounds_ne (Ne.symm hk)]
theorem lo0 : leftOf #[tdE1, tdE2] #[] = #[tdE1, tdE2] := by simp [leftOf, tdE1, tdE2]
theorem lo1 : leftOf #[tdE1, tdE2] #[0] = #[tdE2] := by simp [leftOf, tdE1, tdE2]
theorem lo2 : leftOf #[tdE1, tdE2] #[1] = #[tdE1] := by simp [leftOf, tdE1, tdE2]
theorem lo3 : leftOf #[tdE1, tdE2] #[0, 1] = #[] := by simp [leftOf, tdE1, tdE2]
theorem lo4 : leftOf #[tdE1, tdE2] #[1, 0] = #[] := by simp [leftOf, tdE1, tdE2]
theorem rs_What (st : Int) (ev ck sz : Bool) (ln : Int) (w : World) :
    Calls Tryz.prog 15 #[repV (st, ev, ck, sz, ln)] w fun e w' => e = .returned (.int .i64 (Rs.what (st, ev, ck, sz, ln))) ∧ Below w.heap.size w w' := by
  obtain ⟨A, hA⟩ : ∃ z, w.heap.size = z := ⟨_, rfl⟩
  obtain ⟨W1, hW1⟩ : ∃ z, w.alloc (repC (st, ev, ck, sz, ln)) = z := ⟨_, rfl⟩
  have hb1 : Below w.heap.size w W1 := by rw [← hW1]; exact (Below.refl _ _).alloc (Nat.le_refl _) _
  have hR : W1.heap[A]? = some (repC (st, ev, ck, sz, ln)) := by rw [← hW1, ← hA]; exact World.alloc_heap_new _ _
  have HZ1 := Lib.hid (show W1.heap.size = A + 1 by rw [← hW1, ← hA]; simp)
  obtain ⟨c0, c1, c2, c3, c4⟩ := rep_cell hR
  simp only at c0 c1 c2 c3 c4
  have HB1 := Lib.hid hb1
  have HR1 := Lib.hid hR
  have HA := Lib.hid hA
  have HW1 := Lib.hid hW1
  have KV := Lib.hid (rs_valid st W1)
  have KT := Lib.hid (rs_todos W1)
  clear hb1 hR hA hW1
  have T1 := Lib.hid (fun W => rs_todo1 st ev ck sz ln W)
  have T2 := Lib.hid (fun W => rs_todo2 st ev ck sz ln W)
  unfold repC at HW1
  unfold repV at T1 T2 ⊢
  simp only at T1 T2 ⊢
  by_cases hv : 100 ≤ st ∧ st ≤ 599
  · rw [decide_eq_true hv] at KV
    obtain ⟨R, hRw⟩ : ∃ z, Rs.what (st, ev, ck, sz, ln) = z := ⟨_, rfl⟩
    have hwt : R = if st = 200 ∧ ev = true then 1 else if st = 204 then 2 else 3 := by rw [← hRw]; unfold Rs.what; rw [if_pos hv]
    rw [hRw]
    obtain ⟨q1, hq1⟩ : ∃ z, (decide (st = 200) && ev) = z := ⟨_, rfl⟩
    obtain ⟨q2, hq2⟩ : ∃ z, decide (st = 204) = z := ⟨_, rfl⟩
    rw [hq1] at T1
    rw [hq2] at T2
    have HWT1 := Lib.hid (show q1 = true → R = 1 from fun h => by
      rw [h] at hq1; simp at hq1; rw [hwt, if_pos hq1])
    have HWT2 := Lib.hid (show q2 = true → R = 2 from fun h => by
      rw [h] at hq2; simp at hq2; rw [hwt, if_neg (by omega), if_pos hq2])
    have HWE := Lib.hid (show q1 = false → q2 = false → R = 3 from fun h h2 => by
      rw [h] at hq1; rw [h2] at hq2; simp at hq1 hq2; rw [hwt, if_neg (fun h => by simp [hq1 h.1] at h), if_neg hq2])
    clear hv hRw hwt hq1 hq2
    go_enter Tryz.func15, Tryz.ntmps15
    go_upto_region 1 with (fail)
    rw [HW1.out, HA.out]
    go_wp2_with fail
    refine KV.out.mono ?_
    rintro e w2 ⟨rfl, hw⟩
    subst hw
    go_wp2_with fail
    refine KT.out.mono ?_
    rintro e w3 ⟨rfl, hm, hb⟩
    obtain ⟨b, hbq⟩ : ∃ z, w2.heap.size = z := ⟨_, rfl⟩
    rw [hbq] at hm ⊢
    have hrg := Go.run_range_map (P := Tryz.prog) w3 86 _ _ b #[tdE1, tdE2] 2 Tryz.underlying86 hm
    obtain ⟨r, hr⟩ : ∃ z, w3.heap.size = z := ⟨_, rfl⟩
    obtain ⟨w4, hw4⟩ : ∃ z, w3.alloc (.mapIter (some b) 2 #[] 2) = z := ⟨_, rfl⟩
    rw [hr, hw4] at hrg
    have hsz := hb.size
    rw [hbq] at hsz
    have hbr : b < r := by rw [← hr]; exact (Array.getElem?_eq_some_iff.1 hm).1
    have HR4 := Lib.hid (show w4.heap[r]? = some (.mapIter (some b) 2 #[] 2) by rw [← hw4, ← hr]; exact World.alloc_heap_new _ _)
    have HB4 := Lib.hid (show w4.heap[b]? = some tdMap by rw [← hw4]; exact heap_alloc_old' _ hm)
    have HA4 := Lib.hid (show w4.heap[A]? = some (repC (st, ev, ck, sz, ln)) by
      rw [← hw4]; exact heap_alloc_old' _ ((hb.block _ (Array.getElem?_eq_some_iff.1 HR1.out).1).trans HR1.out))
    have HW4 := Lib.hid (show Below w.heap.size w w4 by rw [← hw4]; exact (HB1.out.trans (hb.mono HB1.out.size)).alloc (Nat.le_trans HB1.out.size hb.size) _)
    have HBR := Lib.hid (show b ≠ r by omega)
    have HAR := Lib.hid (show A ≠ r by have h1 := HZ1.out; omega)
    have HWR := Lib.hid (show w.heap.size ≤ r by rw [HA.out]; have h1 := HZ1.out; omega)
    clear hm hb hbq hr hw4 hsz hbr c0 c1 c2 c3 c4 KT KV
    go_wp2_with fail
    go_loopw [] (fun wr => ∃ (seen : Array Nat) (c : Nat), (seen = #[] ∨ (seen = #[0] ∧ q1 = false) ∨ (seen = #[1] ∧ q2 = false) ∨ (seen = #[0, 1] ∧ q1 = false ∧ q2 = false) ∨ (seen = #[1, 0] ∧ q1 = false ∧ q2 = false)) ∧ 2 ≤ c ∧ wr.heap[r]? = some (.mapIter (some b) 2 seen c) ∧ wr.heap[b]? = some tdMap ∧ wr.heap[A]? = some (repC (st, ev, ck, sz, ln)) ∧ Below w.heap.size w wr) (fun wr => match wr.heap[r]? with | some (.mapIter _ _ seen _) => (leftOf #[tdE1, tdE2] seen).size | _ => 0)
    case atStart => exact ⟨#[], 2, .inl rfl, Nat.le_refl _, HR4.out, HB4.out, HA4.out, HW4.out⟩
    case round =>
      obtain ⟨seen, c, hsn, hc, hr, hb, ha, hbw⟩ := hrel
      have HRR := Lib.hid hr
      have HBB := Lib.hid hb
      have HAA := Lib.hid ha
      have HBW := Lib.hid hbw
      clear ha hbw HR4 HB4 HA4 HW4 hrg
      rcases hsn with rfl | ⟨rfl, rfl⟩ | ⟨rfl, rfl⟩ | ⟨rfl, rfl, rfl⟩ | ⟨rfl, rfl, rfl⟩
      · rcases run_next_at (P := Tryz.prog) wr 0 r b 2 c #[] #[tdE1, tdE2] 2 hr hb (by simp [tdE1, tdE2]) hc with ⟨h0, hnx⟩ | ⟨e, he, w1, hal, hrun⟩
        · rw [lo0] at h0; simp at h0
        · have he2 : e ∈ (#[tdE1, tdE2] : Array MapEntry).toList := by rw [lo0] at he; exact he
          clear he hr hb hc
          simp at he2
          rcases he2 with rfl | rfl
          · obtain ⟨W1, hW1⟩ : ∃ z, setBlock w1 r (.mapIter (some b) 2 #[0] 2) = z := ⟨_, rfl⟩
            have hbk : Below wr.heap.size wr w1 := by rcases hal with rfl | rfl; exact Below.refl _ _; exact ⟨rfl, rfl, rfl, Nat.le_refl _, fun _ _ => rfl⟩
            have hh : ∀ k : Nat, w1.heap[k]? = wr.heap[k]? := by rcases hal with rfl | rfl <;> exact fun _ => rfl
            have hr1 : W1.heap[r]? = some (.mapIter (some b) 2 #[0] 2) := by rw [← hW1]; exact setBlock_atQ ((hh r).trans HRR.out)
            have ho1 : ∀ k : Nat, k ≠ r → W1.heap[k]? = wr.heap[k]? := fun k hk => by rw [← hW1]; exact (setBlock_otherQ _ _ _ hk).trans (hh k)
            have hb1 : W1.heap[b]? = some tdMap := (ho1 b HBR.out).trans HBB.out
            have hA1 : W1.heap[A]? = some (repC (st, ev, ck, sz, ln)) := (ho1 A HAR.out).trans HAA.out
            have hbw : Below w.heap.size w W1 := by rw [← hW1]; exact (HBW.out.trans (hbk.mono HBW.out.size)).trans ((setBlock_belowQ w1 r w.heap.size _ HWR.out).mono (Nat.le_refl _))
            have hen := run_entry_at (P := Tryz.prog) W1 r b 2 #[] #[tdE1, tdE2] 2 tdE1 hr1 hb1 (by simp) (by decide)
            have hnx : (Instr.next (.pointer (some ⟨r, 0, none⟩)) false 0).run Tryz.prog wr = .ok (.tuple #[.bool true, .int .i64 1, .func (.func 70) #[] #[]]) W1 := by rw [← hW1]; exact hrun
            have hen2 : (Instr.entry (.pointer (some ⟨r, 0, none⟩))).run Tryz.prog W1 = .ok (.tuple #[.int .i64 1, .func (.func 70) #[] #[]]) W1 := hen
            obtain ⟨c0, c1, c2, c3, c4⟩ := rep_cell hA1
            simp only at c0 c1 c2 c3 c4
            have KT := Lib.hid (T1.out W1)
            have HR1 := Lib.hid hr1
            have HB1 := Lib.hid hb1
            have HA1 := Lib.hid hA1
            have HW1 := Lib.hid hbw
            clear hrun hen hr1 hb1 hA1 hbw hbk hh ho1 hal hW1
            go_wp2_with fail
            refine KT.out.mono ?_
            rintro e w5 ⟨rfl, hb5⟩
            have HB5 := Lib.hid hb5
            clear hb5
            cases q1 with
            | true =>
              go_wp2_with fail
              go_ret
              exact ⟨by rw [show R = 1 from by first | exact HWT1.out rfl | exact HWT1.out trivial | exact HWT1.out]; rfl, HW1.out.trans (HB5.out.mono HW1.out.size)⟩
            | false =>
              go_wp2_with fail
              go_roundw
              case rel => exact ⟨#[0], 2, (by simp), Nat.le_refl _, (HB5.out.block _ (Array.getElem?_eq_some_iff.1 HR1.out).1).trans HR1.out, (HB5.out.block _ (Array.getElem?_eq_some_iff.1 HB1.out).1).trans HB1.out, (HB5.out.block _ (Array.getElem?_eq_some_iff.1 HA1.out).1).trans HA1.out, HW1.out.trans (HB5.out.mono HW1.out.size)⟩
              case measure =>
                rw [show w5.heap[r]? = _ from (HB5.out.block _ (Array.getElem?_eq_some_iff.1 HR1.out).1).trans HR1.out, HRR.out]
                show (leftOf _ _).size < (leftOf _ _).size
                rw [lo1, lo0]
                decide
          · obtain ⟨W1, hW1⟩ : ∃ z, setBlock w1 r (.mapIter (some b) 2 #[1] 2) = z := ⟨_, rfl⟩
            have hbk : Below wr.heap.size wr w1 := by rcases hal with rfl | rfl; exact Below.refl _ _; exact ⟨rfl, rfl, rfl, Nat.le_refl _, fun _ _ => rfl⟩
            have hh : ∀ k : Nat, w1.heap[k]? = wr.heap[k]? := by rcases hal with rfl | rfl <;> exact fun _ => rfl
            have hr1 : W1.heap[r]? = some (.mapIter (some b) 2 #[1] 2) := by rw [← hW1]; exact setBlock_atQ ((hh r).trans HRR.out)
            have ho1 : ∀ k : Nat, k ≠ r → W1.heap[k]? = wr.heap[k]? := fun k hk => by rw [← hW1]; exact (setBlock_otherQ _ _ _ hk).trans (hh k)
            have hb1 : W1.heap[b]? = some tdMap := (ho1 b HBR.out).trans HBB.out
            have hA1 : W1.heap[A]? = some (repC (st, ev, ck, sz, ln)) := (ho1 A HAR.out).trans HAA.out
            have hbw : Below w.heap.size w W1 := by rw [← hW1]; exact (HBW.out.trans (hbk.mono HBW.out.size)).trans ((setBlock_belowQ w1 r w.heap.size _ HWR.out).mono (Nat.le_refl _))
            have hen := run_entry_at (P := Tryz.prog) W1 r b 2 #[] #[tdE1, tdE2] 2 tdE2 hr1 hb1 (by simp) (by decide)
            have hnx : (Instr.next (.pointer (some ⟨r, 0, none⟩)) false 0).run Tryz.prog wr = .ok (.tuple #[.bool true, .int .i64 2, .func (.func 71) #[] #[]]) W1 := by rw [← hW1]; exact hrun
            have hen2 : (Instr.entry (.pointer (some ⟨r, 0, none⟩))).run Tryz.prog W1 = .ok (.tuple #[.int .i64 2, .func (.func 71) #[] #[]]) W1 := hen
            obtain ⟨c0, c1, c2, c3, c4⟩ := rep_cell hA1
            simp only at c0 c1 c2 c3 c4
            have KT := Lib.hid (T2.out W1)
            have HR1 := Lib.hid hr1
            have HB1 := Lib.hid hb1
            have HA1 := Lib.hid hA1
            have HW1 := Lib.hid hbw
            clear hrun hen hr1 hb1 hA1 hbw hbk hh ho1 hal hW1
            go_wp2_with fail
            refine KT.out.mono ?_
            rintro e w5 ⟨rfl, hb5⟩
            have HB5 := Lib.hid hb5
            clear hb5
            cases q2 with
            | true =>
              go_wp2_with fail
              go_ret
              exact ⟨by rw [show R = 2 from by first | exact HWT2.out rfl | exact HWT2.out trivial | exact HWT2.out]; rfl, HW1.out.trans (HB5.out.mono HW1.out.size)⟩
            | false =>
              go_wp2_with fail
              go_roundw
              case rel => exact ⟨#[1], 2, (by simp), Nat.le_refl _, (HB5.out.block _ (Array.getElem?_eq_some_iff.1 HR1.out).1).trans HR1.out, (HB5.out.block _ (Array.getElem?_eq_some_iff.1 HB1.out).1).trans HB1.out, (HB5.out.block _ (Array.getElem?_eq_some_iff.1 HA1.out).1).trans HA1.out, HW1.out.trans (HB5.out.mono HW1.out.size)⟩
              case measure =>
                rw [show w5.heap[r]? = _ from (HB5.out.block _ (Array.getElem?_eq_some_iff.1 HR1.out).1).trans HR1.out, HRR.out]
                show (leftOf _ _).size < (leftOf _ _).size
                rw [lo2, lo0]
                decide
      · rcases run_next_at (P := Tryz.prog) wr 0 r b 2 c #[0] #[tdE1, tdE2] 2 hr hb (by simp [tdE1, tdE2]) hc with ⟨h0, hnx⟩ | ⟨e, he, w1, hal, hrun⟩
        · rw [lo1] at h0; simp at h0
        · have he2 : e ∈ (#[tdE2] : Array MapEntry).toList := by rw [lo1] at he; exact he
          clear he hr hb hc
          simp at he2
          subst he2
          obtain ⟨W1, hW1⟩ : ∃ z, setBlock w1 r (.mapIter (some b) 2 #[0, 1] 2) = z := ⟨_, rfl⟩
          have hbk : Below wr.heap.size wr w1 := by rcases hal with rfl | rfl; exact Below.refl _ _; exact ⟨rfl, rfl, rfl, Nat.le_refl _, fun _ _ => rfl⟩
          have hh : ∀ k : Nat, w1.heap[k]? = wr.heap[k]? := by rcases hal with rfl | rfl <;> exact fun _ => rfl
          have hr1 : W1.heap[r]? = some (.mapIter (some b) 2 #[0, 1] 2) := by rw [← hW1]; exact setBlock_atQ ((hh r).trans HRR.out)
          have ho1 : ∀ k : Nat, k ≠ r → W1.heap[k]? = wr.heap[k]? := fun k hk => by rw [← hW1]; exact (setBlock_otherQ _ _ _ hk).trans (hh k)
          have hb1 : W1.heap[b]? = some tdMap := (ho1 b HBR.out).trans HBB.out
          have hA1 : W1.heap[A]? = some (repC (st, ev, ck, sz, ln)) := (ho1 A HAR.out).trans HAA.out
          have hbw : Below w.heap.size w W1 := by rw [← hW1]; exact (HBW.out.trans (hbk.mono HBW.out.size)).trans ((setBlock_belowQ w1 r w.heap.size _ HWR.out).mono (Nat.le_refl _))
          have hen := run_entry_at (P := Tryz.prog) W1 r b 2 #[0] #[tdE1, tdE2] 2 tdE2 hr1 hb1 (by simp) (by decide)
          have hnx : (Instr.next (.pointer (some ⟨r, 0, none⟩)) false 0).run Tryz.prog wr = .ok (.tuple #[.bool true, .int .i64 2, .func (.func 71) #[] #[]]) W1 := by rw [← hW1]; exact hrun
          have hen2 : (Instr.entry (.pointer (some ⟨r, 0, none⟩))).run Tryz.prog W1 = .ok (.tuple #[.int .i64 2, .func (.func 71) #[] #[]]) W1 := hen
          obtain ⟨c0, c1, c2, c3, c4⟩ := rep_cell hA1
          simp only at c0 c1 c2 c3 c4
          have KT := Lib.hid (T2.out W1)
          have HR1 := Lib.hid hr1
          have HB1 := Lib.hid hb1
          have HA1 := Lib.hid hA1
          have HW1 := Lib.hid hbw
          clear hrun hen hr1 hb1 hA1 hbw hbk hh ho1 hal hW1
          go_wp2_with fail
          refine KT.out.mono ?_
          rintro e w5 ⟨rfl, hb5⟩
          have HB5 := Lib.hid hb5
          clear hb5
          cases q2 with
          | true =>
            go_wp2_with fail
            go_ret
            exact ⟨by rw [show R = 2 from by first | exact HWT2.out rfl | exact HWT2.out trivial | exact HWT2.out]; rfl, HW1.out.trans (HB5.out.mono HW1.out.size)⟩
          | false =>
            go_wp2_with fail
            go_roundw
            case rel => exact ⟨#[0, 1], 2, (by simp), Nat.le_refl _, (HB5.out.block _ (Array.getElem?_eq_some_iff.1 HR1.out).1).trans HR1.out, (HB5.out.block _ (Array.getElem?_eq_some_iff.1 HB1.out).1).trans HB1.out, (HB5.out.block _ (Array.getElem?_eq_some_iff.1 HA1.out).1).trans HA1.out, HW1.out.trans (HB5.out.mono HW1.out.size)⟩
            case measure =>
              rw [show w5.heap[r]? = _ from (HB5.out.block _ (Array.getElem?_eq_some_iff.1 HR1.out).1).trans HR1.out, HRR.out]
              show (leftOf _ _).size < (leftOf _ _).size
              rw [lo3, lo1]
              decide
      · rcases run_next_at (P := Tryz.prog) wr 0 r b 2 c #[1] #[tdE1, tdE2] 2 hr hb (by simp [tdE1, tdE2]) hc with ⟨h0, hnx⟩ | ⟨e, he, w1, hal, hrun⟩
        · rw [lo2] at h0; simp at h0
        · have he2 : e ∈ (#[tdE1] : Array MapEntry).toList := by rw [lo2] at he; exact he
          clear he hr hb hc
          simp at he2
          subst he2
          obtain ⟨W1, hW1⟩ : ∃ z, setBlock w1 r (.mapIter (some b) 2 #[1, 0] 2) = z := ⟨_, rfl⟩
          have hbk : Below wr.heap.size wr w1 := by rcases hal with rfl | rfl; exact Below.refl _ _; exact ⟨rfl, rfl, rfl, Nat.le_refl _, fun _ _ => rfl⟩
          have hh : ∀ k : Nat, w1.heap[k]? = wr.heap[k]? := by rcases hal with rfl | rfl <;> exact fun _ => rfl
          have hr1 : W1.heap[r]? = some (.mapIter (some b) 2 #[1, 0] 2) := by rw [← hW1]; exact setBlock_atQ ((hh r).trans HRR.out)
          have ho1 : ∀ k : Nat, k ≠ r → W1.heap[k]? = wr.heap[k]? := fun k hk => by rw [← hW1]; exact (setBlock_otherQ _ _ _ hk).trans (hh k)
          have hb1 : W1.heap[b]? = some tdMap := (ho1 b HBR.out).trans HBB.out
          have hA1 : W1.heap[A]? = some (repC (st, ev, ck, sz, ln)) := (ho1 A HAR.out).trans HAA.out
          have hbw : Below w.heap.size w W1 := by rw [← hW1]; exact (HBW.out.trans (hbk.mono HBW.out.size)).trans ((setBlock_belowQ w1 r w.heap.size _ HWR.out).mono (Nat.le_refl _))
          have hen := run_entry_at (P := Tryz.prog) W1 r b 2 #[1] #[tdE1, tdE2] 2 tdE1 hr1 hb1 (by simp) (by decide)
          have hnx : (Instr.next (.pointer (some ⟨r, 0, none⟩)) false 0).run Tryz.prog wr = .ok (.tuple #[.bool true, .int .i64 1, .func (.func 70) #[] #[]]) W1 := by rw [← hW1]; exact hrun
          have hen2 : (Instr.entry (.pointer (some ⟨r, 0, none⟩))).run Tryz.prog W1 = .ok (.tuple #[.int .i64 1, .func (.func 70) #[] #[]]) W1 := hen
          obtain ⟨c0, c1, c2, c3, c4⟩ := rep_cell hA1
          simp only at c0 c1 c2 c3 c4
          have KT := Lib.hid (T1.out W1)
          have HR1 := Lib.hid hr1
          have HB1 := Lib.hid hb1
          have HA1 := Lib.hid hA1
          have HW1 := Lib.hid hbw
          clear hrun hen hr1 hb1 hA1 hbw hbk hh ho1 hal hW1
          go_wp2_with fail
          refine KT.out.mono ?_
          rintro e w5 ⟨rfl, hb5⟩
          have HB5 := Lib.hid hb5
          clear hb5
          cases q1 with
          | true =>
            go_wp2_with fail
            go_ret
            exact ⟨by rw [show R = 1 from by first | exact HWT1.out rfl | exact HWT1.out trivial | exact HWT1.out]; rfl, HW1.out.trans (HB5.out.mono HW1.out.size)⟩
          | false =>
            go_wp2_with fail
            go_roundw
            case rel => exact ⟨#[1, 0], 2, (by simp), Nat.le_refl _, (HB5.out.block _ (Array.getElem?_eq_some_iff.1 HR1.out).1).trans HR1.out, (HB5.out.block _ (Array.getElem?_eq_some_iff.1 HB1.out).1).trans HB1.out, (HB5.out.block _ (Array.getElem?_eq_some_iff.1 HA1.out).1).trans HA1.out, HW1.out.trans (HB5.out.mono HW1.out.size)⟩
            case measure =>
              rw [show w5.heap[r]? = _ from (HB5.out.block _ (Array.getElem?_eq_some_iff.1 HR1.out).1).trans HR1.out, HRR.out]
              show (leftOf _ _).size < (leftOf _ _).size
              rw [lo4, lo2]
              decide
      · rcases run_next_at (P := Tryz.prog) wr 0 r b 2 c #[0, 1] #[tdE1, tdE2] 2 hr hb (by simp [tdE1, tdE2]) hc with ⟨h0, hnx⟩ | ⟨e, he, w1, hal, hrun⟩
        · clear h0 hr hb hc
          go_wp2_with fail
          go_ret
          exact ⟨by rw [show R = 3 from by first | exact HWE.out rfl rfl | exact HWE.out trivial trivial | exact HWE.out]; rfl, HBW.out⟩
        · have he2 : e ∈ (#[] : Array MapEntry).toList := by rw [lo3] at he; exact he
          simp at he2
      · rcases run_next_at (P := Tryz.prog) wr 0 r b 2 c #[1, 0] #[tdE1, tdE2] 2 hr hb (by simp [tdE1, tdE2]) hc with ⟨h0, hnx⟩ | ⟨e, he, w1, hal, hrun⟩
        · clear h0 hr hb hc
          go_wp2_with fail
          go_ret
          exact ⟨by rw [show R = 3 from by first | exact HWE.out rfl rfl | exact HWE.out trivial trivial | exact HWE.out]; rfl, HBW.out⟩
        · have he2 : e ∈ (#[] : Array MapEntry).toList := by rw [lo4] at he; exact he
          simp at he2
  · rw [decide_eq_false hv] at KV
    have hw : Rs.what (st, ev, ck, sz, ln) = 0 := by unfold Rs.what; rw [if_neg hv]
    rw [hw]
    clear hw hv
    go_enter Tryz.func15, Tryz.ntmps15
    go_upto_region 1 with (fail)
    rw [HW1.out, HA.out]
    go_wp2_with fail
    refine KV.out.mono ?_
    rintro e w2 ⟨rfl, hw⟩
    subst hw
    go_wp2_with fail
    go_ret
    exact ⟨rfl, HB1.out⟩
end Go.Proofs.YtheaichiglfmjaaGreatDoor

/- response: the law's five heads, plainly. No program in sight. -/
namespace Go.Proofs.YtheaichiglfmjaaGreatDoor
set_option linter.unusedVariables false
set_option linter.unusedSimpArgs false
open Go.RowKit Go.Shelf
set_option maxHeartbeats 4000000
set_option maxRecDepth 100000
namespace Rs
def f200 : List UInt8 := [72, 84, 84, 80, 47, 49, 46, 49, 32, 50, 48, 48, 32, 79, 75]
def f204 : List UInt8 := [72, 84, 84, 80, 47, 49, 46, 48, 32, 50, 48, 52]
def f20 : List UInt8 := [72, 84, 84, 80, 47, 49, 46, 49, 32, 50, 48, 32, 79, 75]
def tes : List UInt8 := [84, 101, 120, 116, 47, 69, 118, 101, 110, 116, 45, 83, 116, 114, 101, 97, 109, 59, 32, 99, 104, 97, 114, 115, 101, 116, 61, 117, 116, 102, 45, 56]
def h1 : List Hp.Hd := [(Hp.ct, tes), (Hp.te, Hp.ch)]
def h5 : List Hp.Hd := [(Hp.cl, [53]), (Hp.te, Hp.ch)]
theorem of1 : of f200 h1 = some (200, true, true, false, 0) := by decide +kernel
theorem of2 : of f204 [] = some (204, false, false, false, 0) := by decide +kernel
theorem of3 : of f200 [] = some (200, false, false, false, 0) := by decide +kernel
theorem of4 : of f20 [] = none := by decide +kernel
theorem of5 : of f200 h5 = none := by decide +kernel
theorem what1 : what (200, true, true, false, 0) = 1 := rfl
theorem what2 : what (204, false, false, false, 0) = 2 := rfl
theorem what3 : what (200, false, false, false, 0) = 3 := rfl
theorem ok1 : Hp.HOk f200 h1 := ⟨by decide, by decide +kernel, Hp.isVal_x (by decide +kernel), by decide +kernel⟩
theorem ok2 : Hp.HOk f204 [] := ⟨by decide, by decide +kernel, Hp.isVal_x (by decide +kernel), by decide +kernel⟩
theorem ok3 : Hp.HOk f200 [] := ⟨by decide, by decide +kernel, Hp.isVal_x (by decide +kernel), by decide +kernel⟩
theorem ok4 : Hp.HOk f20 [] := ⟨by decide, by decide +kernel, Hp.isVal_x (by decide +kernel), by decide +kernel⟩
theorem ok5 : Hp.HOk f200 h5 := ⟨by decide, by decide +kernel, Hp.isVal_x (by decide +kernel), by decide +kernel⟩
theorem j1 : (joined Hp.ct h1).length ≤ 500 ∧ (joined Hp.te h1).length ≤ 500 ∧ (joined Hp.cl h1).length ≤ 500 := by decide +kernel
theorem j0 : (joined Hp.ct []).length ≤ 500 ∧ (joined Hp.te []).length ≤ 500 ∧ (joined Hp.cl []).length ≤ 500 := by decide +kernel
theorem j5 : (joined Hp.ct h5).length ≤ 500 ∧ (joined Hp.te h5).length ≤ 500 ∧ (joined Hp.cl h5).length ≤ 500 := by decide +kernel
theorem hok_head (n ln : Nat) (ev ck sz : Bool) : Hp.HOk (line ((n : Int), ev, ck, sz, (ln : Int))) (flds ((n : Int), ev, ck, sz, (ln : Int))) := by
  have hd : ∀ m : Nat, Tp.allT Tp.valB (Dp.digs 10 m) = true := fun m => List.all_eq_true.2 fun c hc => (Hp.digs_ok _ c hc).2
  refine ⟨by unfold line Hp.http; simp, ?_, Hp.isVal_x ?_, fun f hf => ?_⟩
  · have : (line ((n : Int), ev, ck, sz, (ln : Int))).take 1 = [72] := by unfold line Hp.http; rfl
    rw [this]; decide +kernel
  · unfold line
    have h2 := hd (((n : Int), ev, ck, sz, (ln : Int)) : Rep).1.toNat
    unfold Tp.allT at h2 ⊢
    rw [List.all_append, List.all_append, h2]
    decide +kernel
  · unfold flds at hf
    rcases List.mem_append.1 hf with hf | hf
    · rcases List.mem_append.1 hf with hf | hf
      · cases ev
        · cases hf
        · rw [if_pos rfl, List.mem_singleton] at hf; subst hf; decide +kernel
      · cases ck
        · cases hf
        · rw [if_pos rfl, List.mem_singleton] at hf; subst hf; decide +kernel
    · cases sz
      · cases hf
      · rw [if_pos rfl, List.mem_singleton] at hf
        subst hf
        exact ⟨show Tp.isTok Hp.cl = true by decide +kernel, show Tp.lower Hp.cl = Hp.cl by decide +kernel, Hp.digs_val _⟩
end Rs
end Go.Proofs.YtheaichiglfmjaaGreatDoor

/- response: a reply that comes in; the law's works. No conditions but those that each law states. -/
namespace Go.Proofs.YtheaichiglfmjaaGreatDoor
set_option linter.unusedVariables false
set_option linter.unusedSimpArgs false
open Go.RowKit Go.Shelf Go.WideShapes
set_option maxHeartbeats 8000000
set_option maxRecDepth 100000
section
variable {H : Type} {enc : TypeId × Value → H} {w : World} {base : Nat} {spare : Nat → Bool} {held : Bool}
theorem array5Q {α : Type} {cs : Array α} (h : cs.size = 5) : ∃ c0 c1 c2 c3 c4, cs = #[c0, c1, c2, c3, c4] := by
  obtain ⟨l⟩ := cs
  match l, h with
  | [c0, c1, c2, c3, c4], _ => exact ⟨c0, c1, c2, c3, c4, rfl⟩
theorem reply_cells : Tryz.prog.cellsOf 31 = 5 ∧ Tryz.prog.cellsOf 3 = 1 ∧ Tryz.prog.cellsOf 4 = 1 ∧ Tryz.prog.cellsOf 29 = 1 := ⟨by kernel_rfl, by kernel_rfl, by kernel_rfl, by kernel_rfl⟩
theorem reply_in {r : Reach} {b0 : Nat} {v : Value} {d : DataW H} {p : List MemPlace} (hv : Value.okWide Tryz.prog w r b0 31 v) (h : DataW.Trod enc Tryz.prog w base spare held 31 v d p) :
    ∃ (st : Int) (ev ck sz : Bool) (ln : Nat), v = repV (st, ev, ck, sz, (ln : Int)) ∧ (-9223372036854775808 ≤ st ∧ st ≤ 9223372036854775807) ∧ ln < 18446744073709551616 := by
  obtain ⟨hc5, hc1, hc2, hc3⟩ := reply_cells
  obtain ⟨cs, rfl, hsz⟩ := okWide_struct Tryz.underlying31 hv
  obtain ⟨c0, c1, c2, c3, c4, rfl⟩ := array5Q (hsz.trans hc5)
  obtain ⟨fuel, hf⟩ := h
  obtain ⟨xs, n, _, hxe, hl, hlen, hx⟩ := DataW.trod_struct Tryz.underlying31 hf
  match xs, hlen with
  | [y0, y1, y2, y3, y4], _ =>
    have h0 := hx 0 _ rfl
    have h1 := hx 1 _ rfl
    have h2 := hx 2 _ rfl
    have h3 := hx 3 _ rfl
    have h4 := hx 4 _ rfl
    simp [Value.cells, hc1, hc2, hc3] at h0 h1 h2 h3 h4
    obtain ⟨st, e0, _, w0⟩ := DataW.trod_int Tryz.underlying3 h0
    obtain ⟨ev, e1, _⟩ := DataW.trod_bool Tryz.underlying4 h1
    obtain ⟨ck, e2, _⟩ := DataW.trod_bool Tryz.underlying4 h2
    obtain ⟨sz, e3, _⟩ := DataW.trod_bool Tryz.underlying4 h3
    obtain ⟨ln, e4, _, w4⟩ := DataW.trod_int Tryz.underlying29 h4
    simp [Lit.wf, IntKind.min, IntKind.max, IntKind.signed, IntKind.bits] at w0 w4
    simp at e0 e1 e2 e3 e4
    subst e0 e1 e2 e3 e4
    refine ⟨st, ev, ck, sz, ln.toNat, ?_, by omega, by omega⟩
    rw [Int.toNat_of_nonneg (by omega)]
    rfl
end
theorem works_eq (W : World) : (binOp .eql 31 (repV (200, true, true, false, 0)) (.agg #[.int .i64 200, .bool true, .bool true, .bool false, .int .u64 0])).run Tryz.prog W = .ok (.bool true) W := by kernel_rfl
theorem rep_load {w w' : World} {R : Nat} {r : Rs.Rep} (h : w.heap[R]? = some (repC r)) (hb : Below w.heap.size w w') : w'.heap[R]? = some (repC r) := (hb.block _ (Array.getElem?_eq_some_iff.1 h).1).trans h
theorem rs_works (w : World) (hk : KR w) :
    Calls Tryz.prog 6 #[] w fun e w' => e = .returned (.bool true) ∧ Below w.heap.size w w' := by
  have HK := Lib.hid hk
  clear hk
  have HB := Lib.hid (Below.refl w.heap.size w)
  have KN := Lib.hid rs_num
  go_enter Tryz.func6, Tryz.ntmps6
  obtain ⟨B1, hB⟩ : ∃ z, w.heap.size = z := ⟨_, rfl⟩
  obtain ⟨wt1, hw⟩ : ∃ z, w.alloc (.cells #[.string ⟨#[99, 111, 110, 116, 101, 110, 116, 45, 116, 121, 112, 101]⟩, .string ⟨#[84, 101, 120, 116, 47, 69, 118, 101, 110, 116, 45, 83, 116, 114, 101, 97, 109, 59, 32, 99, 104, 97, 114, 115, 101, 116, 61, 117, 116, 102, 45, 56]⟩, .string ⟨#[116, 114, 97, 110, 115, 102, 101, 114, 45, 101, 110, 99, 111, 100, 105, 110, 103]⟩, .string ⟨#[99, 104, 117, 110, 107, 101, 100]⟩] 9) = z := ⟨_, rfl⟩
  have hb : Below w.heap.size w wt1 := by rw [← hw]; exact (Below.refl _ _).alloc (Nat.le_refl _) _
  have HG1 := Lib.hid (show wt1.heap[B1]? = some (.cells (hds Rs.h1).toArray 9 (0, 0)) by rw [← hw, ← hB]; exact World.alloc_heap_new _ _)
  have HW1 := Lib.hid hw
  have HBB1 := Lib.hid hB
  have HB := Lib.hid (HB.out.trans (hb.mono HB.out.size))
  clear hb hw hB
  have K1 := Lib.hid (law_of ⟨#[72, 84, 84, 80, 47, 49, 46, 49, 32, 50, 48, 48, 32, 79, 75]⟩ B1 4 4 (some ⟨B1, 0, none⟩) Rs.h1 wt1 rfl (by decide) (fun _ => ⟨rfl, HG1.out⟩) (by decide))
  go_wp2_with fail
  rw [HBB1.out, HW1.out]
  refine K1.out.mono ?_
  rintro e wa1 ⟨v, rfl, hv, hb⟩
  have HB := Lib.hid (HB.out.trans (hb.mono HB.out.size))
  have K2 := Lib.hid (rs_Of Rs.f200 v Rs.h1 wa1 hv Rs.ok1 (by decide) (by decide) (by decide) Rs.j1 (HK.out.below HB.out))
  rw [Rs.of1] at K2
  unfold ofOut repV at K2
  clear hb hv
  go_wp2_with fail
  refine K2.out.mono ?_
  rintro e wb1 ⟨rfl, hb⟩
  have HB := Lib.hid (HB.out.trans (hb.mono HB.out.size))
  clear hb K1 K2
  go_upto_region 2 with (fail)
  obtain ⟨R1, hR⟩ : ∃ z, wb1.heap.size = z := ⟨_, rfl⟩
  obtain ⟨wc1, hw⟩ : ∃ z, wb1.alloc (repC (200, true, true, false, 0)) = z := ⟨_, rfl⟩
  have hb : Below wb1.heap.size wb1 wc1 := by rw [← hw]; exact (Below.refl _ _).alloc (Nat.le_refl _) _
  rw [hR, show wb1.alloc (.cells #[.int .i64 200, .bool true, .bool true, .bool false, .int .u64 0] 31) = wc1 from hw]
  have HR1 := Lib.hid (show wc1.heap[R1]? = some (repC (200, true, true, false, 0)) by rw [← hw, ← hR]; exact World.alloc_heap_new _ _)
  have HB := Lib.hid (HB.out.trans (hb.mono HB.out.size))
  clear hb hw hR
  have K1 := Lib.hid (law_of ⟨#[72, 84, 84, 80, 47, 49, 46, 48, 32, 50, 48, 52]⟩ 0 0 0 none [] wc1 rfl (by decide) (fun h => absurd h (by decide)) (by decide))
  go_wp2_with fail
  refine K1.out.mono ?_
  rintro e wa2 ⟨v, rfl, hv, hb⟩
  have HR1 := Lib.hid (rep_load HR1.out hb)
  have HB := Lib.hid (HB.out.trans (hb.mono HB.out.size))
  have K2 := Lib.hid (rs_Of Rs.f204 v [] wa2 hv Rs.ok2 (by decide) (by decide) (by decide) Rs.j0 (HK.out.below HB.out))
  rw [Rs.of2] at K2
  unfold ofOut repV at K2
  clear hb hv
  go_wp2_with fail
  refine K2.out.mono ?_
  rintro e wb2 ⟨rfl, hb⟩
  have HR1 := Lib.hid (rep_load HR1.out hb)
  have HB := Lib.hid (HB.out.trans (hb.mono HB.out.size))
  clear hb K1 K2
  go_upto_region 3 with (fail)
  obtain ⟨R2, hR⟩ : ∃ z, wb2.heap.size = z := ⟨_, rfl⟩
  obtain ⟨wc2, hw⟩ : ∃ z, wb2.alloc (repC (204, false, false, false, 0)) = z := ⟨_, rfl⟩
  have hb : Below wb2.heap.size wb2 wc2 := by rw [← hw]; exact (Below.refl _ _).alloc (Nat.le_refl _) _
  rw [hR, show wb2.alloc (.cells #[.int .i64 204, .bool false, .bool false, .bool false, .int .u64 0] 31) = wc2 from hw]
  have HR1 := Lib.hid (rep_load HR1.out hb)
  have HR2 := Lib.hid (show wc2.heap[R2]? = some (repC (204, false, false, false, 0)) by rw [← hw, ← hR]; exact World.alloc_heap_new _ _)
  have HB := Lib.hid (HB.out.trans (hb.mono HB.out.size))
  clear hb hw hR
  have K1 := Lib.hid (law_of ⟨#[72, 84, 84, 80, 47, 49, 46, 49, 32, 50, 48, 48, 32, 79, 75]⟩ 0 0 0 none [] wc2 rfl (by decide) (fun h => absurd h (by decide)) (by decide))
  go_wp2_with fail
  refine K1.out.mono ?_
  rintro e wa3 ⟨v, rfl, hv, hb⟩
  have HR1 := Lib.hid (rep_load HR1.out hb)
  have HR2 := Lib.hid (rep_load HR2.out hb)
  have HB := Lib.hid (HB.out.trans (hb.mono HB.out.size))
  have K2 := Lib.hid (rs_Of Rs.f200 v [] wa3 hv Rs.ok3 (by decide) (by decide) (by decide) Rs.j0 (HK.out.below HB.out))
  rw [Rs.of3] at K2
  unfold ofOut repV at K2
  clear hb hv
  go_wp2_with fail
  refine K2.out.mono ?_
  rintro e wb3 ⟨rfl, hb⟩
  have HR1 := Lib.hid (rep_load HR1.out hb)
  have HR2 := Lib.hid (rep_load HR2.out hb)
  have HB := Lib.hid (HB.out.trans (hb.mono HB.out.size))
  clear hb K1 K2
  go_upto_region 4 with (fail)
  obtain ⟨R3, hR⟩ : ∃ z, wb3.heap.size = z := ⟨_, rfl⟩
  obtain ⟨wc3, hw⟩ : ∃ z, wb3.alloc (repC (200, false, false, false, 0)) = z := ⟨_, rfl⟩
  have hb : Below wb3.heap.size wb3 wc3 := by rw [← hw]; exact (Below.refl _ _).alloc (Nat.le_refl _) _
  rw [hR, show wb3.alloc (.cells #[.int .i64 200, .bool false, .bool false, .bool false, .int .u64 0] 31) = wc3 from hw]
  have HR1 := Lib.hid (rep_load HR1.out hb)
  have HR2 := Lib.hid (rep_load HR2.out hb)
  have HR3 := Lib.hid (show wc3.heap[R3]? = some (repC (200, false, false, false, 0)) by rw [← hw, ← hR]; exact World.alloc_heap_new _ _)
  have HB := Lib.hid (HB.out.trans (hb.mono HB.out.size))
  clear hb hw hR
  have K1 := Lib.hid (law_of ⟨#[72, 84, 84, 80, 47, 49, 46, 49, 32, 50, 48, 32, 79, 75]⟩ 0 0 0 none [] wc3 rfl (by decide) (fun h => absurd h (by decide)) (by decide))
  go_wp2_with fail
  refine K1.out.mono ?_
  rintro e wa4 ⟨v, rfl, hv, hb⟩
  have HR1 := Lib.hid (rep_load HR1.out hb)
  have HR2 := Lib.hid (rep_load HR2.out hb)
  have HR3 := Lib.hid (rep_load HR3.out hb)
  have HB := Lib.hid (HB.out.trans (hb.mono HB.out.size))
  have K2 := Lib.hid (rs_Of Rs.f20 v [] wa4 hv Rs.ok4 (by decide) (by decide) (by decide) Rs.j0 (HK.out.below HB.out))
  rw [Rs.of4] at K2
  unfold ofOut repV at K2
  clear hb hv
  go_wp2_with fail
  refine K2.out.mono ?_
  rintro e wb4 ⟨rfl, hb⟩
  have HR1 := Lib.hid (rep_load HR1.out hb)
  have HR2 := Lib.hid (rep_load HR2.out hb)
  have HR3 := Lib.hid (rep_load HR3.out hb)
  have HB := Lib.hid (HB.out.trans (hb.mono HB.out.size))
  clear hb K1 K2
  go_upto_region 5 with (fail)
  obtain ⟨R4, hR⟩ : ∃ z, wb4.heap.size = z := ⟨_, rfl⟩
  obtain ⟨wc4, hw⟩ : ∃ z, wb4.alloc (repC (0, false, false, false, 0)) = z := ⟨_, rfl⟩
  have hb : Below wb4.heap.size wb4 wc4 := by rw [← hw]; exact (Below.refl _ _).alloc (Nat.le_refl _) _
  rw [hR, show wb4.alloc (.cells #[.int .i64 0, .bool false, .bool false, .bool false, .int .u64 0] 31) = wc4 from hw]
  have HR1 := Lib.hid (rep_load HR1.out hb)
  have HR2 := Lib.hid (rep_load HR2.out hb)
  have HR3 := Lib.hid (rep_load HR3.out hb)
  have HR4 := Lib.hid (show wc4.heap[R4]? = some (repC (0, false, false, false, 0)) by rw [← hw, ← hR]; exact World.alloc_heap_new _ _)
  have HB := Lib.hid (HB.out.trans (hb.mono HB.out.size))
  clear hb hw hR
  obtain ⟨B5, hB⟩ : ∃ z, wc4.heap.size = z := ⟨_, rfl⟩
  obtain ⟨wt5, hw⟩ : ∃ z, wc4.alloc (.cells #[.string ⟨#[99, 111, 110, 116, 101, 110, 116, 45, 108, 101, 110, 103, 116, 104]⟩, .string ⟨#[53]⟩, .string ⟨#[116, 114, 97, 110, 115, 102, 101, 114, 45, 101, 110, 99, 111, 100, 105, 110, 103]⟩, .string ⟨#[99, 104, 117, 110, 107, 101, 100]⟩] 9) = z := ⟨_, rfl⟩
  have hb : Below wc4.heap.size wc4 wt5 := by rw [← hw]; exact (Below.refl _ _).alloc (Nat.le_refl _) _
  have HG5 := Lib.hid (show wt5.heap[B5]? = some (.cells (hds Rs.h5).toArray 9 (0, 0)) by rw [← hw, ← hB]; exact World.alloc_heap_new _ _)
  have HW5 := Lib.hid hw
  have HBB5 := Lib.hid hB
  have HR1 := Lib.hid (rep_load HR1.out hb)
  have HR2 := Lib.hid (rep_load HR2.out hb)
  have HR3 := Lib.hid (rep_load HR3.out hb)
  have HB := Lib.hid (HB.out.trans (hb.mono HB.out.size))
  clear hb hw hB
  have K1 := Lib.hid (law_of ⟨#[72, 84, 84, 80, 47, 49, 46, 49, 32, 50, 48, 48, 32, 79, 75]⟩ B5 4 4 (some ⟨B5, 0, none⟩) Rs.h5 wt5 rfl (by decide) (fun _ => ⟨rfl, HG5.out⟩) (by decide))
  go_wp2_with fail
  rw [HBB5.out, HW5.out]
  refine K1.out.mono ?_
  rintro e wa5 ⟨v, rfl, hv, hb⟩
  have HR1 := Lib.hid (rep_load HR1.out hb)
  have HR2 := Lib.hid (rep_load HR2.out hb)
  have HR3 := Lib.hid (rep_load HR3.out hb)
  have HB := Lib.hid (HB.out.trans (hb.mono HB.out.size))
  have K2 := Lib.hid (rs_Of Rs.f200 v Rs.h5 wa5 hv Rs.ok5 (by decide) (by decide) (by decide) Rs.j5 (HK.out.below HB.out))
  rw [Rs.of5] at K2
  unfold ofOut repV at K2
  clear hb hv
  go_wp2_with fail
  refine K2.out.mono ?_
  rintro e wb5 ⟨rfl, hb⟩
  have HR1 := Lib.hid (rep_load HR1.out hb)
  have HR2 := Lib.hid (rep_load HR2.out hb)
  have HR3 := Lib.hid (rep_load HR3.out hb)
  have HB := Lib.hid (HB.out.trans (hb.mono HB.out.size))
  clear hb K1 K2
  go_upto_region 6 with (fail)
  obtain ⟨R5, hR⟩ : ∃ z, wb5.heap.size = z := ⟨_, rfl⟩
  obtain ⟨wc5, hw⟩ : ∃ z, wb5.alloc (repC (0, false, false, false, 0)) = z := ⟨_, rfl⟩
  have hb : Below wb5.heap.size wb5 wc5 := by rw [← hw]; exact (Below.refl _ _).alloc (Nat.le_refl _) _
  rw [hR, show wb5.alloc (.cells #[.int .i64 0, .bool false, .bool false, .bool false, .int .u64 0] 31) = wc5 from hw]
  have HR1 := Lib.hid (rep_load HR1.out hb)
  have HR2 := Lib.hid (rep_load HR2.out hb)
  have HR3 := Lib.hid (rep_load HR3.out hb)
  have HR5 := Lib.hid (show wc5.heap[R5]? = some (repC (0, false, false, false, 0)) by rw [← hw, ← hR]; exact World.alloc_heap_new _ _)
  have HB := Lib.hid (HB.out.trans (hb.mono HB.out.size))
  clear hb hw hR
  have HE := Lib.hid works_eq
  unfold repV at HE
  obtain ⟨a0, a1, a2, a3, a4⟩ := rep_cell HR1.out
  go_wp2_with fail
  refine (KN.out _ _).mono ?_
  rintro e w' ⟨rfl, hw⟩
  subst w'
  go_wp2_with fail
  refine (KN.out _ _).mono ?_
  rintro e w' ⟨rfl, hw⟩
  subst w'
  go_wp2_with fail
  refine (KN.out _ _).mono ?_
  rintro e w' ⟨rfl, hw⟩
  subst w'
  go_wp2_with fail
  have K3 := Lib.hid (rs_What 200 true true false 0 wc5)
  unfold repV at K3
  refine K3.out.mono ?_
  rintro e we1 ⟨rfl, hb⟩
  rw [show Rs.what (200, true, true, false, 0) = 1 from rfl]
  have HR2 := Lib.hid (rep_load HR2.out hb)
  have HR3 := Lib.hid (rep_load HR3.out hb)
  have HB := Lib.hid (HB.out.trans (hb.mono HB.out.size))
  clear hb K3
  obtain ⟨a0, a1, a2, a3, a4⟩ := rep_cell HR2.out
  go_wp2_with fail
  have K3 := Lib.hid (rs_What 204 false false false 0 we1)
  unfold repV at K3
  refine K3.out.mono ?_
  rintro e we2 ⟨rfl, hb⟩
  rw [show Rs.what (204, false, false, false, 0) = 2 from rfl]
  have HR3 := Lib.hid (rep_load HR3.out hb)
  have HB := Lib.hid (HB.out.trans (hb.mono HB.out.size))
  clear hb K3
  obtain ⟨a0, a1, a2, a3, a4⟩ := rep_cell HR3.out
  go_wp2_with fail
  have K3 := Lib.hid (rs_What 200 false false false 0 we2)
  unfold repV at K3
  refine K3.out.mono ?_
  rintro e we3 ⟨rfl, hb⟩
  rw [show Rs.what (200, false, false, false, 0) = 3 from rfl]
  have HB := Lib.hid (HB.out.trans (hb.mono HB.out.size))
  clear hb K3
  go_wp2_with fail
  refine (KN.out _ _).mono ?_
  rintro e w' ⟨rfl, hw⟩
  subst w'
  go_wp2_with fail
  refine (KN.out _ _).mono ?_
  rintro e w' ⟨rfl, hw⟩
  subst w'
  go_wp2_with fail
  go_ret
  exact ⟨rfl, HB.out⟩
end Go.Proofs.YtheaichiglfmjaaGreatDoor
