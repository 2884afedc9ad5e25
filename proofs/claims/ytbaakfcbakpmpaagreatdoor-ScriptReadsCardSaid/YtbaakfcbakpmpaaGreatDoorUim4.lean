/- Texts of this claim, one behind the other: Sd, Se, Sf, Ry, Ro, Sg, Sh. -/
import Derived.Test.YtbaakfcbakpmpaaGreatDoorUim3
import Derived.ChangeMaps4
import Derived.MapKept
import Derived.Maps.RangeRun
/- script: the shapes' maps. No conditions but those that each law states. -/
namespace Go.Proofs.YtbaakfcbakpmpaaGreatDoor
set_option linter.unusedVariables false
set_option linter.unusedSimpArgs false
open Go.RowKit Go.Shelf
open Go.ChangeMaps (setBlock)
set_option maxHeartbeats 8000000
set_option maxRecDepth 100000
/-- a slice of parts -/
def PtsAt (W : World) (v : Value) (ps : List UInt8) : Prop := (v = .slice none 0 0 ∧ ps = []) ∨ ∃ g, v = .slice (some ⟨g, 0, none⟩) ps.length ps.length ∧
  ∀ j, j < ps.length → ∃ a b c, W.cell? ⟨g, j * 3, none⟩ = some a ∧ W.cell? ⟨g, j * 3 + 1, none⟩ = some b ∧ W.cell? ⟨g, j * 3 + 2, none⟩ = some c ∧ PartAt W (.agg #[a, b, c]) (ps.getD j 0)
theorem PtsAt.below {W W' : World} {v : Value} {ps : List UInt8} (h : PtsAt W v ps) (hb : Below W.heap.size W W') : PtsAt W' v ps := by
  rcases h with h | ⟨g, h1, h2⟩
  · exact .inl h
  · refine .inr ⟨g, h1, fun j hj => ?_⟩
    obtain ⟨a, b, c, k1, k2, k3, k4⟩ := h2 j hj
    exact ⟨a, b, c, cell_below hb k1, cell_below hb k2, cell_below hb k3, k4.below hb⟩
/-- all blocks but one stand -/
def KeepM (M : Nat) (W W' : World) : Prop := W.heap.size ≤ W'.heap.size ∧ ∀ k, k < W.heap.size → k ≠ M → W'.heap[k]? = W.heap[k]?
theorem KeepM.refl (M : Nat) (W : World) : KeepM M W W := ⟨Nat.le_refl _, fun _ _ _ => rfl⟩
theorem KeepM.of_below {M : Nat} {W W' : World} (h : Below W.heap.size W W') : KeepM M W W' := ⟨h.size, fun k hk _ => h.block k hk⟩
theorem KeepM.trans {M : Nat} {W W' W'' : World} (h : KeepM M W W') (k : KeepM M W' W'') : KeepM M W W'' :=
  ⟨Nat.le_trans h.1 k.1, fun j hj hn => (k.2 j (Nat.lt_of_lt_of_le hj h.1) hn).trans (h.2 j hj hn)⟩
theorem KeepM.set {M : Nat} (W : World) (o : Obj) : KeepM M W (setBlock W M o) :=
  ⟨by simp [setBlock], fun k _ hn => by simp only [setBlock]; rw [Array.getElem?_setIfInBounds_ne (Ne.symm hn)]⟩
theorem cell_keep {M : Nat} {W W' : World} {g i : Nat} {v : Value} {es : Array MapEntry} {c : Nat} (hM : W.heap[M]? = some (.map es c)) (k : KeepM M W W') (h : W.cell? ⟨g, i, none⟩ = some v) : W'.cell? ⟨g, i, none⟩ = some v := by
  have hne : g ≠ M := by
    intro e
    subst e
    simp [World.cell?, hM] at h
  have hb := k.2 g (lt_of_cell h) hne
  rw [← h]
  simp only [World.cell?, hb]
theorem BoxAt.keep {M : Nat} {W W' : World} {b g : Nat} {es : Array MapEntry} {c : Nat} (hM : W.heap[M]? = some (.map es c)) (k : KeepM M W W') (h : BoxAt W b g) : BoxAt W' b g := by
  have hne : b ≠ M := by
    intro e
    subst e
    unfold BoxAt at h
    rw [hM] at h
    cases h
  exact (k.2 b (Array.getElem?_eq_some_iff.1 h).1 hne).trans h
theorem PartAt.keep {M : Nat} {W W' : World} {v : Value} {p : UInt8} {es : Array MapEntry} {c : Nat} (hM : W.heap[M]? = some (.map es c)) (k : KeepM M W W') (h : PartAt W v p) : PartAt W' v p := by
  rcases h with ⟨hp, b, h1, h2⟩ | h | h
  · exact .inl ⟨hp, b, h1, h2.keep hM k⟩
  · exact .inr (.inl h)
  · exact .inr (.inr h)
theorem PtsAt.keep {M : Nat} {W W' : World} {v : Value} {ps : List UInt8} {es : Array MapEntry} {c : Nat} (hM : W.heap[M]? = some (.map es c)) (k : KeepM M W W') (h : PtsAt W v ps) : PtsAt W' v ps := by
  rcases h with h | ⟨g, h1, h2⟩
  · exact .inl h
  · refine .inr ⟨g, h1, fun j hj => ?_⟩
    obtain ⟨a, b, c, k1, k2, k3, k4⟩ := h2 j hj
    exact ⟨a, b, c, cell_keep hM k k1, cell_keep hM k k2, cell_keep hM k k3, k4.keep hM k⟩
/-- a row of parts, laid -/
theorem pts_row {W : World} {g : Nat} {ps : List UInt8} {cs : Array Value} (h : W.heap[g]? = some (.cells cs 124 (0, 0))) (hp : ∀ j, j < ps.length → ∃ a b c, cs[j * 3]? = some a ∧ cs[j * 3 + 1]? = some b ∧ cs[j * 3 + 2]? = some c ∧ PartAt W (.agg #[a, b, c]) (ps.getD j 0)) : PtsAt W (.slice (some ⟨g, 0, none⟩) ps.length ps.length) ps := by
  refine .inr ⟨g, rfl, fun j hj => ?_⟩
  obtain ⟨a, b, c, k1, k2, k3, k4⟩ := hp j hj
  exact ⟨a, b, c, by simp [World.cell?, h, k1], by simp [World.cell?, h, k2], by simp [World.cell?, h, k3], k4⟩
def shE (t : Int × List UInt8 × List UInt8) (v : Value) (i : Nat) : MapEntry := ⟨.int .i64 t.1, .agg #[.string ⟨t.2.1.toArray⟩, v], i⟩
def shEs : Nat → Sc.Shapes → List Value → List MapEntry
  | i, t :: T, v :: vs => shE t v i :: shEs (i + 1) T vs
  | _, _, _ => []
/-- a map of shapes -/
def ShAt (W : World) (b : Nat) (T : Sc.Shapes) : Prop := ∃ vs : List Value, vs.length = T.length ∧ W.heap[b]? = some (.map (shEs 0 T vs).toArray T.length) ∧ ∀ i, i < T.length → PtsAt W (vs.getD i undef) (T.getD i (0, [], [])).2.2
theorem ShAt.below {W W' : World} {b : Nat} {T : Sc.Shapes} (h : ShAt W b T) (hb : Below W.heap.size W W') : ShAt W' b T := by
  obtain ⟨vs, h1, h2, h3⟩ := h
  exact ⟨vs, h1, (hb.block _ (Array.getElem?_eq_some_iff.1 h2).1).trans h2, fun i hi => (h3 i hi).below hb⟩
theorem sh_put (W : World) (b : Nat) (es : Array MapEntry) (clock : Nat) (k : Int) (v : Value) (hb : W.heap[b]? = some (.map es clock)) (hn : Instr.findNow (.int .i64) (.int .i64 k) es.toList 0 = some none) :
    (Instr.mapUpdate 85 (.map (some b)) (.int .i64 k) v).run Tryz.prog W = .ok () (setBlock W b (.map (es.push ⟨.int .i64 k, v, clock⟩) (clock + 1))) := by
  simp [Instr.mapUpdate, run_underlying Tryz.underlying85, MapKept.run_getObj_map hb, MapKept.run_checkKey (k := .int .i64 k) Tryz.underlying3 (by simp [MapKept.IsKey]) false 9999, MapKept.run_findKey Tryz.underlying3 hn, MapKept.run_setObj_map _ hb, Result.andThen, setBlock]
theorem setBlock_atS {w : World} {b : Nat} {o o' : Obj} (h : w.heap[b]? = some o) : (setBlock w b o').heap[b]? = some o' := by
  have hb := (Array.getElem?_eq_some_iff.1 h).1
  simp [setBlock, hb]
theorem setBlock_belowS (w : World) (b B : Nat) (o : Obj) (hB : B ≤ b) : Below B w (setBlock w b o) :=
  ⟨rfl, rfl, rfl, by simp [setBlock], fun k hk => by simp only [setBlock]; rw [Array.getElem?_setIfInBounds_ne]; omega⟩
theorem sc_steps (w : World) : Calls Tryz.prog 40 #[] w fun e w' => ∃ b, e = .returned (.map (some b)) ∧ ShAt w' b Sc.stepT ∧ Below w.heap.size w w' := by
  have hmm := @run_makeMap Tryz.prog
  obtain ⟨M, hM⟩ : ∃ z, w.heap.size = z := ⟨_, rfl⟩
  obtain ⟨W0, hW0⟩ : ∃ Z, w.alloc (.map #[] 0) = Z := ⟨_, rfl⟩
  have HM0 := Lib.hid (show W0.heap[M]? = some (.map #[] 0) by rw [← hW0, ← hM]; exact World.alloc_heap_new _ _)
  have HB0 := Lib.hid (show Below w.heap.size w W0 by rw [← hW0]; exact (Below.refl _ _).alloc (Nat.le_refl _) _)
  have HSZ0 := Lib.hid (show M < W0.heap.size by rw [← hW0, ← hM]; simp)
  have HHM := Lib.hid hM
  have HW0 := Lib.hid hW0
  clear hM hW0
  have Kspan := Lib.hid sc_span
  have Kdraw := Lib.hid sc_draw
  have Kconn := Lib.hid sc_conn
  have Ktopic := Lib.hid sc_topic
  have Kbytes := Lib.hid sc_bytes
  go_enter Tryz.func40, Tryz.ntmps40
  go_wp2_with fail
  rw [HHM.out, HW0.out]
  refine (Kspan.out _).mono ?_
  rintro e w0 ⟨bw0, rfl, hbx, _, hb⟩
  have HXw0 := Lib.hid hbx
  clear hbx
  have HMw0 := Lib.hid ((hb.block M (Array.getElem?_eq_some_iff.1 (HM0.out)).1).trans (HM0.out))
  have HBw0 := Lib.hid (HB0.out.trans (hb.mono HB0.out.size))
  have HKw0 := Lib.hid (KeepM.of_below (M := M) hb)
  clear hb
  unfold numV
  go_wp2_with fail
  refine (Kdraw.out _).mono ?_
  rintro e w1 ⟨bw1, rfl, hbx, _, hb⟩
  have HXw0 := Lib.hid (HXw0.out.below hb)
  have HXw1 := Lib.hid hbx
  clear hbx
  have HMw1 := Lib.hid ((hb.block M (Array.getElem?_eq_some_iff.1 (HMw0.out)).1).trans (HMw0.out))
  have HBw1 := Lib.hid (HBw0.out.trans (hb.mono HBw0.out.size))
  have HKw1 := Lib.hid (KeepM.of_below (M := M) hb)
  clear hb
  unfold numV
  have hal : Below w1.heap.size w1 (w1.alloc (.cells #[.func (.func 99) #[] #[.pointer (some ⟨bw0, 0, none⟩)], .func (.func 100) #[] #[.pointer (some ⟨bw0, 0, none⟩)], .func (.func 101) #[] #[.pointer (some ⟨bw0, 0, none⟩)], .func (.func 99) #[] #[.pointer (some ⟨bw1, 0, none⟩)], .func (.func 100) #[] #[.pointer (some ⟨bw1, 0, none⟩)], .func (.func 101) #[] #[.pointer (some ⟨bw1, 0, none⟩)]] 124)) := (Below.refl _ _).alloc (Nat.le_refl _) _
  have HMR0 := Lib.hid ((hal.block M (Array.getElem?_eq_some_iff.1 (HMw1.out)).1).trans (HMw1.out))
  have HBR0 := Lib.hid (HBw1.out.trans (hal.mono HBw1.out.size))
  have HXw0 := Lib.hid (HXw0.out.below hal)
  have HXw1 := Lib.hid (HXw1.out.below hal)
  have HPR0 := Lib.hid (pts_row (ps := [78, 68]) (World.alloc_heap_new w1 (.cells #[.func (.func 99) #[] #[.pointer (some ⟨bw0, 0, none⟩)], .func (.func 100) #[] #[.pointer (some ⟨bw0, 0, none⟩)], .func (.func 101) #[] #[.pointer (some ⟨bw0, 0, none⟩)], .func (.func 99) #[] #[.pointer (some ⟨bw1, 0, none⟩)], .func (.func 100) #[] #[.pointer (some ⟨bw1, 0, none⟩)], .func (.func 101) #[] #[.pointer (some ⟨bw1, 0, none⟩)]] 124)) (fun j hj => by
    match j, hj with
    | 0, _ => exact ⟨_, _, _, rfl, rfl, rfl, .inl ⟨by decide, bw0, rfl, HXw0.out⟩⟩
    | 1, _ => exact ⟨_, _, _, rfl, rfl, rfl, .inl ⟨by decide, bw1, rfl, HXw1.out⟩⟩
    | n + 2, hj => exact absurd hj (by simp)))
  have HKR0 := Lib.hid (KeepM.of_below (M := M) hal)
  clear hal
  have hu0 := sh_put (w1.alloc (.cells #[.func (.func 99) #[] #[.pointer (some ⟨bw0, 0, none⟩)], .func (.func 100) #[] #[.pointer (some ⟨bw0, 0, none⟩)], .func (.func 101) #[] #[.pointer (some ⟨bw0, 0, none⟩)], .func (.func 99) #[] #[.pointer (some ⟨bw1, 0, none⟩)], .func (.func 100) #[] #[.pointer (some ⟨bw1, 0, none⟩)], .func (.func 101) #[] #[.pointer (some ⟨bw1, 0, none⟩)]] 124)) M #[] 0 1 (.agg #[.string ⟨#[116, 105, 99, 107]⟩, .slice (some ⟨w1.heap.size, 0, none⟩) 2 2]) HMR0.out rfl
  obtain ⟨X0, hX⟩ : ∃ Z, setBlock (w1.alloc (.cells #[.func (.func 99) #[] #[.pointer (some ⟨bw0, 0, none⟩)], .func (.func 100) #[] #[.pointer (some ⟨bw0, 0, none⟩)], .func (.func 101) #[] #[.pointer (some ⟨bw0, 0, none⟩)], .func (.func 99) #[] #[.pointer (some ⟨bw1, 0, none⟩)], .func (.func 100) #[] #[.pointer (some ⟨bw1, 0, none⟩)], .func (.func 101) #[] #[.pointer (some ⟨bw1, 0, none⟩)]] 124)) M (.map (#[].push ⟨.int .i64 1, .agg #[.string ⟨#[116, 105, 99, 107]⟩, .slice (some ⟨w1.heap.size, 0, none⟩) 2 2], 0⟩) (0 + 1)) = Z := ⟨_, rfl⟩
  rw [hX] at hu0
  have HMX0 := Lib.hid (show X0.heap[M]? = some (.map #[⟨.int .i64 1, .agg #[.string ⟨#[116, 105, 99, 107]⟩, .slice (some ⟨w1.heap.size, 0, none⟩) 2 2], 0⟩] 1) by rw [← hX]; exact setBlock_atS HMR0.out)
  have HKX0 := Lib.hid (show KeepM M (w1.alloc (.cells #[.func (.func 99) #[] #[.pointer (some ⟨bw0, 0, none⟩)], .func (.func 100) #[] #[.pointer (some ⟨bw0, 0, none⟩)], .func (.func 101) #[] #[.pointer (some ⟨bw0, 0, none⟩)], .func (.func 99) #[] #[.pointer (some ⟨bw1, 0, none⟩)], .func (.func 100) #[] #[.pointer (some ⟨bw1, 0, none⟩)], .func (.func 101) #[] #[.pointer (some ⟨bw1, 0, none⟩)]] 124)) X0 by rw [← hX]; exact KeepM.set _ _)
  have HBX0 := Lib.hid (show Below w.heap.size w X0 by rw [← hX]; exact HBR0.out.trans (setBlock_belowS _ _ _ _ (Nat.le_of_eq HHM.out)))
  clear hX
  have HPX0 := Lib.hid (HPR0.out.keep HMR0.out HKX0.out)
  have hu1 := sh_put X0 M #[⟨.int .i64 1, .agg #[.string ⟨#[116, 105, 99, 107]⟩, .slice (some ⟨w1.heap.size, 0, none⟩) 2 2], 0⟩] 1 2 (.agg #[.string ⟨#[111, 112, 101, 110]⟩, .slice none 0 0]) HMX0.out rfl
  obtain ⟨X1, hX⟩ : ∃ Z, setBlock X0 M (.map (#[⟨.int .i64 1, .agg #[.string ⟨#[116, 105, 99, 107]⟩, .slice (some ⟨w1.heap.size, 0, none⟩) 2 2], 0⟩].push ⟨.int .i64 2, .agg #[.string ⟨#[111, 112, 101, 110]⟩, .slice none 0 0], 1⟩) (1 + 1)) = Z := ⟨_, rfl⟩
  rw [hX] at hu1
  have HMX1 := Lib.hid (show X1.heap[M]? = some (.map #[⟨.int .i64 1, .agg #[.string ⟨#[116, 105, 99, 107]⟩, .slice (some ⟨w1.heap.size, 0, none⟩) 2 2], 0⟩, ⟨.int .i64 2, .agg #[.string ⟨#[111, 112, 101, 110]⟩, .slice none 0 0], 1⟩] 2) by rw [← hX]; exact setBlock_atS HMX0.out)
  have HKX1 := Lib.hid (show KeepM M X0 X1 by rw [← hX]; exact KeepM.set _ _)
  have HBX1 := Lib.hid (show Below w.heap.size w X1 by rw [← hX]; exact HBX0.out.trans (setBlock_belowS _ _ _ _ (Nat.le_of_eq HHM.out)))
  clear hX
  have HPX1 := Lib.hid (show PtsAt X1 (.slice none 0 0) [] from .inl ⟨rfl, rfl⟩)
  go_wp2_with fail
  refine (Kconn.out _).mono ?_
  rintro e w2 ⟨bw2, rfl, hbx, _, hb⟩
  have HXw2 := Lib.hid hbx
  clear hbx
  have HMw2 := Lib.hid ((hb.block M (Array.getElem?_eq_some_iff.1 (HMX1.out)).1).trans (HMX1.out))
  have HBw2 := Lib.hid (HBX1.out.trans (hb.mono HBX1.out.size))
  have HKw2 := Lib.hid (KeepM.of_below (M := M) hb)
  clear hb
  unfold numV
  go_wp2_with fail
  refine (Kbytes.out _).mono ?_
  rintro e w3 ⟨rfl, hb⟩
  have HXw2 := Lib.hid (HXw2.out.below hb)
  have HMw3 := Lib.hid ((hb.block M (Array.getElem?_eq_some_iff.1 (HMw2.out)).1).trans (HMw2.out))
  have HBw3 := Lib.hid (HBw2.out.trans (hb.mono HBw2.out.size))
  have HKw3 := Lib.hid (KeepM.of_below (M := M) hb)
  clear hb
  unfold bytV
  have hal : Below w3.heap.size w3 (w3.alloc (.cells #[.func (.func 99) #[] #[.pointer (some ⟨bw2, 0, none⟩)], .func (.func 100) #[] #[.pointer (some ⟨bw2, 0, none⟩)], .func (.func 101) #[] #[.pointer (some ⟨bw2, 0, none⟩)], .func (.func 81) #[] #[], .func (.func 83) #[] #[], .func (.func 84) #[] #[]] 124)) := (Below.refl _ _).alloc (Nat.le_refl _) _
  have HMR2 := Lib.hid ((hal.block M (Array.getElem?_eq_some_iff.1 (HMw3.out)).1).trans (HMw3.out))
  have HBR2 := Lib.hid (HBw3.out.trans (hal.mono HBw3.out.size))
  have HXw2 := Lib.hid (HXw2.out.below hal)
  have HPR2 := Lib.hid (pts_row (ps := [67, 66]) (World.alloc_heap_new w3 (.cells #[.func (.func 99) #[] #[.pointer (some ⟨bw2, 0, none⟩)], .func (.func 100) #[] #[.pointer (some ⟨bw2, 0, none⟩)], .func (.func 101) #[] #[.pointer (some ⟨bw2, 0, none⟩)], .func (.func 81) #[] #[], .func (.func 83) #[] #[], .func (.func 84) #[] #[]] 124)) (fun j hj => by
    match j, hj with
    | 0, _ => exact ⟨_, _, _, rfl, rfl, rfl, .inl ⟨by decide, bw2, rfl, HXw2.out⟩⟩
    | 1, _ => exact ⟨_, _, _, rfl, rfl, rfl, .inr (.inr ⟨rfl, rfl⟩)⟩
    | n + 2, hj => exact absurd hj (by simp)))
  have HKR2 := Lib.hid (KeepM.of_below (M := M) hal)
  clear hal
  have hu2 := sh_put (w3.alloc (.cells #[.func (.func 99) #[] #[.pointer (some ⟨bw2, 0, none⟩)], .func (.func 100) #[] #[.pointer (some ⟨bw2, 0, none⟩)], .func (.func 101) #[] #[.pointer (some ⟨bw2, 0, none⟩)], .func (.func 81) #[] #[], .func (.func 83) #[] #[], .func (.func 84) #[] #[]] 124)) M #[⟨.int .i64 1, .agg #[.string ⟨#[116, 105, 99, 107]⟩, .slice (some ⟨w1.heap.size, 0, none⟩) 2 2], 0⟩, ⟨.int .i64 2, .agg #[.string ⟨#[111, 112, 101, 110]⟩, .slice none 0 0], 1⟩] 2 3 (.agg #[.string ⟨#[98, 121, 116, 101, 115]⟩, .slice (some ⟨w3.heap.size, 0, none⟩) 2 2]) HMR2.out rfl
  obtain ⟨X2, hX⟩ : ∃ Z, setBlock (w3.alloc (.cells #[.func (.func 99) #[] #[.pointer (some ⟨bw2, 0, none⟩)], .func (.func 100) #[] #[.pointer (some ⟨bw2, 0, none⟩)], .func (.func 101) #[] #[.pointer (some ⟨bw2, 0, none⟩)], .func (.func 81) #[] #[], .func (.func 83) #[] #[], .func (.func 84) #[] #[]] 124)) M (.map (#[⟨.int .i64 1, .agg #[.string ⟨#[116, 105, 99, 107]⟩, .slice (some ⟨w1.heap.size, 0, none⟩) 2 2], 0⟩, ⟨.int .i64 2, .agg #[.string ⟨#[111, 112, 101, 110]⟩, .slice none 0 0], 1⟩].push ⟨.int .i64 3, .agg #[.string ⟨#[98, 121, 116, 101, 115]⟩, .slice (some ⟨w3.heap.size, 0, none⟩) 2 2], 2⟩) (2 + 1)) = Z := ⟨_, rfl⟩
  rw [hX] at hu2
  have HMX2 := Lib.hid (show X2.heap[M]? = some (.map #[⟨.int .i64 1, .agg #[.string ⟨#[116, 105, 99, 107]⟩, .slice (some ⟨w1.heap.size, 0, none⟩) 2 2], 0⟩, ⟨.int .i64 2, .agg #[.string ⟨#[111, 112, 101, 110]⟩, .slice none 0 0], 1⟩, ⟨.int .i64 3, .agg #[.string ⟨#[98, 121, 116, 101, 115]⟩, .slice (some ⟨w3.heap.size, 0, none⟩) 2 2], 2⟩] 3) by rw [← hX]; exact setBlock_atS HMR2.out)
  have HKX2 := Lib.hid (show KeepM M (w3.alloc (.cells #[.func (.func 99) #[] #[.pointer (some ⟨bw2, 0, none⟩)], .func (.func 100) #[] #[.pointer (some ⟨bw2, 0, none⟩)], .func (.func 101) #[] #[.pointer (some ⟨bw2, 0, none⟩)], .func (.func 81) #[] #[], .func (.func 83) #[] #[], .func (.func 84) #[] #[]] 124)) X2 by rw [← hX]; exact KeepM.set _ _)
  have HBX2 := Lib.hid (show Below w.heap.size w X2 by rw [← hX]; exact HBR2.out.trans (setBlock_belowS _ _ _ _ (Nat.le_of_eq HHM.out)))
  clear hX
  have HPX2 := Lib.hid (HPR2.out.keep HMR2.out HKX2.out)
  go_wp2_with fail
  refine (Kconn.out _).mono ?_
  rintro e w4 ⟨bw4, rfl, hbx, _, hb⟩
  have HXw4 := Lib.hid hbx
  clear hbx
  have HMw4 := Lib.hid ((hb.block M (Array.getElem?_eq_some_iff.1 (HMX2.out)).1).trans (HMX2.out))
  have HBw4 := Lib.hid (HBX2.out.trans (hb.mono HBX2.out.size))
  have HKw4 := Lib.hid (KeepM.of_below (M := M) hb)
  clear hb
  unfold numV
  go_wp2_with fail
  refine (Kspan.out _).mono ?_
  rintro e w5 ⟨bw5, rfl, hbx, _, hb⟩
  have HXw4 := Lib.hid (HXw4.out.below hb)
  have HXw5 := Lib.hid hbx
  clear hbx
  have HMw5 := Lib.hid ((hb.block M (Array.getElem?_eq_some_iff.1 (HMw4.out)).1).trans (HMw4.out))
  have HBw5 := Lib.hid (HBw4.out.trans (hb.mono HBw4.out.size))
  have HKw5 := Lib.hid (KeepM.of_below (M := M) hb)
  clear hb
  unfold numV
  have hal : Below w5.heap.size w5 (w5.alloc (.cells #[.func (.func 99) #[] #[.pointer (some ⟨bw4, 0, none⟩)], .func (.func 100) #[] #[.pointer (some ⟨bw4, 0, none⟩)], .func (.func 101) #[] #[.pointer (some ⟨bw4, 0, none⟩)], .func (.func 99) #[] #[.pointer (some ⟨bw5, 0, none⟩)], .func (.func 100) #[] #[.pointer (some ⟨bw5, 0, none⟩)], .func (.func 101) #[] #[.pointer (some ⟨bw5, 0, none⟩)]] 124)) := (Below.refl _ _).alloc (Nat.le_refl _) _
  have HMR3 := Lib.hid ((hal.block M (Array.getElem?_eq_some_iff.1 (HMw5.out)).1).trans (HMw5.out))
  have HBR3 := Lib.hid (HBw5.out.trans (hal.mono HBw5.out.size))
  have HXw4 := Lib.hid (HXw4.out.below hal)
  have HXw5 := Lib.hid (HXw5.out.below hal)
  have HPR3 := Lib.hid (pts_row (ps := [67, 78]) (World.alloc_heap_new w5 (.cells #[.func (.func 99) #[] #[.pointer (some ⟨bw4, 0, none⟩)], .func (.func 100) #[] #[.pointer (some ⟨bw4, 0, none⟩)], .func (.func 101) #[] #[.pointer (some ⟨bw4, 0, none⟩)], .func (.func 99) #[] #[.pointer (some ⟨bw5, 0, none⟩)], .func (.func 100) #[] #[.pointer (some ⟨bw5, 0, none⟩)], .func (.func 101) #[] #[.pointer (some ⟨bw5, 0, none⟩)]] 124)) (fun j hj => by
    match j, hj with
    | 0, _ => exact ⟨_, _, _, rfl, rfl, rfl, .inl ⟨by decide, bw4, rfl, HXw4.out⟩⟩
    | 1, _ => exact ⟨_, _, _, rfl, rfl, rfl, .inl ⟨by decide, bw5, rfl, HXw5.out⟩⟩
    | n + 2, hj => exact absurd hj (by simp)))
  have HKR3 := Lib.hid (KeepM.of_below (M := M) hal)
  clear hal
  have hu3 := sh_put (w5.alloc (.cells #[.func (.func 99) #[] #[.pointer (some ⟨bw4, 0, none⟩)], .func (.func 100) #[] #[.pointer (some ⟨bw4, 0, none⟩)], .func (.func 101) #[] #[.pointer (some ⟨bw4, 0, none⟩)], .func (.func 99) #[] #[.pointer (some ⟨bw5, 0, none⟩)], .func (.func 100) #[] #[.pointer (some ⟨bw5, 0, none⟩)], .func (.func 101) #[] #[.pointer (some ⟨bw5, 0, none⟩)]] 124)) M #[⟨.int .i64 1, .agg #[.string ⟨#[116, 105, 99, 107]⟩, .slice (some ⟨w1.heap.size, 0, none⟩) 2 2], 0⟩, ⟨.int .i64 2, .agg #[.string ⟨#[111, 112, 101, 110]⟩, .slice none 0 0], 1⟩, ⟨.int .i64 3, .agg #[.string ⟨#[98, 121, 116, 101, 115]⟩, .slice (some ⟨w3.heap.size, 0, none⟩) 2 2], 2⟩] 3 4 (.agg #[.string ⟨#[103, 114, 97, 110, 116]⟩, .slice (some ⟨w5.heap.size, 0, none⟩) 2 2]) HMR3.out rfl
  obtain ⟨X3, hX⟩ : ∃ Z, setBlock (w5.alloc (.cells #[.func (.func 99) #[] #[.pointer (some ⟨bw4, 0, none⟩)], .func (.func 100) #[] #[.pointer (some ⟨bw4, 0, none⟩)], .func (.func 101) #[] #[.pointer (some ⟨bw4, 0, none⟩)], .func (.func 99) #[] #[.pointer (some ⟨bw5, 0, none⟩)], .func (.func 100) #[] #[.pointer (some ⟨bw5, 0, none⟩)], .func (.func 101) #[] #[.pointer (some ⟨bw5, 0, none⟩)]] 124)) M (.map (#[⟨.int .i64 1, .agg #[.string ⟨#[116, 105, 99, 107]⟩, .slice (some ⟨w1.heap.size, 0, none⟩) 2 2], 0⟩, ⟨.int .i64 2, .agg #[.string ⟨#[111, 112, 101, 110]⟩, .slice none 0 0], 1⟩, ⟨.int .i64 3, .agg #[.string ⟨#[98, 121, 116, 101, 115]⟩, .slice (some ⟨w3.heap.size, 0, none⟩) 2 2], 2⟩].push ⟨.int .i64 4, .agg #[.string ⟨#[103, 114, 97, 110, 116]⟩, .slice (some ⟨w5.heap.size, 0, none⟩) 2 2], 3⟩) (3 + 1)) = Z := ⟨_, rfl⟩
  rw [hX] at hu3
  have HMX3 := Lib.hid (show X3.heap[M]? = some (.map #[⟨.int .i64 1, .agg #[.string ⟨#[116, 105, 99, 107]⟩, .slice (some ⟨w1.heap.size, 0, none⟩) 2 2], 0⟩, ⟨.int .i64 2, .agg #[.string ⟨#[111, 112, 101, 110]⟩, .slice none 0 0], 1⟩, ⟨.int .i64 3, .agg #[.string ⟨#[98, 121, 116, 101, 115]⟩, .slice (some ⟨w3.heap.size, 0, none⟩) 2 2], 2⟩, ⟨.int .i64 4, .agg #[.string ⟨#[103, 114, 97, 110, 116]⟩, .slice (some ⟨w5.heap.size, 0, none⟩) 2 2], 3⟩] 4) by rw [← hX]; exact setBlock_atS HMR3.out)
  have HKX3 := Lib.hid (show KeepM M (w5.alloc (.cells #[.func (.func 99) #[] #[.pointer (some ⟨bw4, 0, none⟩)], .func (.func 100) #[] #[.pointer (some ⟨bw4, 0, none⟩)], .func (.func 101) #[] #[.pointer (some ⟨bw4, 0, none⟩)], .func (.func 99) #[] #[.pointer (some ⟨bw5, 0, none⟩)], .func (.func 100) #[] #[.pointer (some ⟨bw5, 0, none⟩)], .func (.func 101) #[] #[.pointer (some ⟨bw5, 0, none⟩)]] 124)) X3 by rw [← hX]; exact KeepM.set _ _)
  have HBX3 := Lib.hid (show Below w.heap.size w X3 by rw [← hX]; exact HBR3.out.trans (setBlock_belowS _ _ _ _ (Nat.le_of_eq HHM.out)))
  clear hX
  have HPX3 := Lib.hid (HPR3.out.keep HMR3.out HKX3.out)
  go_wp2_with fail
  refine (Kconn.out _).mono ?_
  rintro e w6 ⟨bw6, rfl, hbx, _, hb⟩
  have HXw6 := Lib.hid hbx
  clear hbx
  have HMw6 := Lib.hid ((hb.block M (Array.getElem?_eq_some_iff.1 (HMX3.out)).1).trans (HMX3.out))
  have HBw6 := Lib.hid (HBX3.out.trans (hb.mono HBX3.out.size))
  have HKw6 := Lib.hid (KeepM.of_below (M := M) hb)
  clear hb
  unfold numV
  have hal : Below w6.heap.size w6 (w6.alloc (.cells #[.func (.func 99) #[] #[.pointer (some ⟨bw6, 0, none⟩)], .func (.func 100) #[] #[.pointer (some ⟨bw6, 0, none⟩)], .func (.func 101) #[] #[.pointer (some ⟨bw6, 0, none⟩)]] 124)) := (Below.refl _ _).alloc (Nat.le_refl _) _
  have HMR4 := Lib.hid ((hal.block M (Array.getElem?_eq_some_iff.1 (HMw6.out)).1).trans (HMw6.out))
  have HBR4 := Lib.hid (HBw6.out.trans (hal.mono HBw6.out.size))
  have HXw6 := Lib.hid (HXw6.out.below hal)
  have HPR4 := Lib.hid (pts_row (ps := [67]) (World.alloc_heap_new w6 (.cells #[.func (.func 99) #[] #[.pointer (some ⟨bw6, 0, none⟩)], .func (.func 100) #[] #[.pointer (some ⟨bw6, 0, none⟩)], .func (.func 101) #[] #[.pointer (some ⟨bw6, 0, none⟩)]] 124)) (fun j hj => by
    match j, hj with
    | 0, _ => exact ⟨_, _, _, rfl, rfl, rfl, .inl ⟨by decide, bw6, rfl, HXw6.out⟩⟩
    | n + 1, hj => exact absurd hj (by simp)))
  have HKR4 := Lib.hid (KeepM.of_below (M := M) hal)
  clear hal
  have hu4 := sh_put (w6.alloc (.cells #[.func (.func 99) #[] #[.pointer (some ⟨bw6, 0, none⟩)], .func (.func 100) #[] #[.pointer (some ⟨bw6, 0, none⟩)], .func (.func 101) #[] #[.pointer (some ⟨bw6, 0, none⟩)]] 124)) M #[⟨.int .i64 1, .agg #[.string ⟨#[116, 105, 99, 107]⟩, .slice (some ⟨w1.heap.size, 0, none⟩) 2 2], 0⟩, ⟨.int .i64 2, .agg #[.string ⟨#[111, 112, 101, 110]⟩, .slice none 0 0], 1⟩, ⟨.int .i64 3, .agg #[.string ⟨#[98, 121, 116, 101, 115]⟩, .slice (some ⟨w3.heap.size, 0, none⟩) 2 2], 2⟩, ⟨.int .i64 4, .agg #[.string ⟨#[103, 114, 97, 110, 116]⟩, .slice (some ⟨w5.heap.size, 0, none⟩) 2 2], 3⟩] 4 5 (.agg #[.string ⟨#[103, 111, 110, 101]⟩, .slice (some ⟨w6.heap.size, 0, none⟩) 1 1]) HMR4.out rfl
  obtain ⟨X4, hX⟩ : ∃ Z, setBlock (w6.alloc (.cells #[.func (.func 99) #[] #[.pointer (some ⟨bw6, 0, none⟩)], .func (.func 100) #[] #[.pointer (some ⟨bw6, 0, none⟩)], .func (.func 101) #[] #[.pointer (some ⟨bw6, 0, none⟩)]] 124)) M (.map (#[⟨.int .i64 1, .agg #[.string ⟨#[116, 105, 99, 107]⟩, .slice (some ⟨w1.heap.size, 0, none⟩) 2 2], 0⟩, ⟨.int .i64 2, .agg #[.string ⟨#[111, 112, 101, 110]⟩, .slice none 0 0], 1⟩, ⟨.int .i64 3, .agg #[.string ⟨#[98, 121, 116, 101, 115]⟩, .slice (some ⟨w3.heap.size, 0, none⟩) 2 2], 2⟩, ⟨.int .i64 4, .agg #[.string ⟨#[103, 114, 97, 110, 116]⟩, .slice (some ⟨w5.heap.size, 0, none⟩) 2 2], 3⟩].push ⟨.int .i64 5, .agg #[.string ⟨#[103, 111, 110, 101]⟩, .slice (some ⟨w6.heap.size, 0, none⟩) 1 1], 4⟩) (4 + 1)) = Z := ⟨_, rfl⟩
  rw [hX] at hu4
  have HMX4 := Lib.hid (show X4.heap[M]? = some (.map #[⟨.int .i64 1, .agg #[.string ⟨#[116, 105, 99, 107]⟩, .slice (some ⟨w1.heap.size, 0, none⟩) 2 2], 0⟩, ⟨.int .i64 2, .agg #[.string ⟨#[111, 112, 101, 110]⟩, .slice none 0 0], 1⟩, ⟨.int .i64 3, .agg #[.string ⟨#[98, 121, 116, 101, 115]⟩, .slice (some ⟨w3.heap.size, 0, none⟩) 2 2], 2⟩, ⟨.int .i64 4, .agg #[.string ⟨#[103, 114, 97, 110, 116]⟩, .slice (some ⟨w5.heap.size, 0, none⟩) 2 2], 3⟩, ⟨.int .i64 5, .agg #[.string ⟨#[103, 111, 110, 101]⟩, .slice (some ⟨w6.heap.size, 0, none⟩) 1 1], 4⟩] 5) by rw [← hX]; exact setBlock_atS HMR4.out)
  have HKX4 := Lib.hid (show KeepM M (w6.alloc (.cells #[.func (.func 99) #[] #[.pointer (some ⟨bw6, 0, none⟩)], .func (.func 100) #[] #[.pointer (some ⟨bw6, 0, none⟩)], .func (.func 101) #[] #[.pointer (some ⟨bw6, 0, none⟩)]] 124)) X4 by rw [← hX]; exact KeepM.set _ _)
  have HBX4 := Lib.hid (show Below w.heap.size w X4 by rw [← hX]; exact HBR4.out.trans (setBlock_belowS _ _ _ _ (Nat.le_of_eq HHM.out)))
  clear hX
  have HPX4 := Lib.hid (HPR4.out.keep HMR4.out HKX4.out)
  go_wp2_with fail
  refine (Ktopic.out _).mono ?_
  rintro e w7 ⟨rfl, hb⟩
  have HMw7 := Lib.hid ((hb.block M (Array.getElem?_eq_some_iff.1 (HMX4.out)).1).trans (HMX4.out))
  have HBw7 := Lib.hid (HBX4.out.trans (hb.mono HBX4.out.size))
  have HKw7 := Lib.hid (KeepM.of_below (M := M) hb)
  clear hb
  unfold topV
  have hal : Below w7.heap.size w7 (w7.alloc (.cells #[.func (.func 87) #[] #[], .func (.func 89) #[] #[], .func (.func 90) #[] #[]] 124)) := (Below.refl _ _).alloc (Nat.le_refl _) _
  have HMR5 := Lib.hid ((hal.block M (Array.getElem?_eq_some_iff.1 (HMw7.out)).1).trans (HMw7.out))
  have HBR5 := Lib.hid (HBw7.out.trans (hal.mono HBw7.out.size))
  have HPR5 := Lib.hid (pts_row (ps := [84]) (World.alloc_heap_new w7 (.cells #[.func (.func 87) #[] #[], .func (.func 89) #[] #[], .func (.func 90) #[] #[]] 124)) (fun j hj => by
    match j, hj with
    | 0, _ => exact ⟨_, _, _, rfl, rfl, rfl, .inr (.inl ⟨rfl, rfl⟩)⟩
    | n + 1, hj => exact absurd hj (by simp)))
  have HKR5 := Lib.hid (KeepM.of_below (M := M) hal)
  clear hal
  have hu5 := sh_put (w7.alloc (.cells #[.func (.func 87) #[] #[], .func (.func 89) #[] #[], .func (.func 90) #[] #[]] 124)) M #[⟨.int .i64 1, .agg #[.string ⟨#[116, 105, 99, 107]⟩, .slice (some ⟨w1.heap.size, 0, none⟩) 2 2], 0⟩, ⟨.int .i64 2, .agg #[.string ⟨#[111, 112, 101, 110]⟩, .slice none 0 0], 1⟩, ⟨.int .i64 3, .agg #[.string ⟨#[98, 121, 116, 101, 115]⟩, .slice (some ⟨w3.heap.size, 0, none⟩) 2 2], 2⟩, ⟨.int .i64 4, .agg #[.string ⟨#[103, 114, 97, 110, 116]⟩, .slice (some ⟨w5.heap.size, 0, none⟩) 2 2], 3⟩, ⟨.int .i64 5, .agg #[.string ⟨#[103, 111, 110, 101]⟩, .slice (some ⟨w6.heap.size, 0, none⟩) 1 1], 4⟩] 5 6 (.agg #[.string ⟨#[109, 97, 100, 101]⟩, .slice (some ⟨w7.heap.size, 0, none⟩) 1 1]) HMR5.out rfl
  obtain ⟨X5, hX⟩ : ∃ Z, setBlock (w7.alloc (.cells #[.func (.func 87) #[] #[], .func (.func 89) #[] #[], .func (.func 90) #[] #[]] 124)) M (.map (#[⟨.int .i64 1, .agg #[.string ⟨#[116, 105, 99, 107]⟩, .slice (some ⟨w1.heap.size, 0, none⟩) 2 2], 0⟩, ⟨.int .i64 2, .agg #[.string ⟨#[111, 112, 101, 110]⟩, .slice none 0 0], 1⟩, ⟨.int .i64 3, .agg #[.string ⟨#[98, 121, 116, 101, 115]⟩, .slice (some ⟨w3.heap.size, 0, none⟩) 2 2], 2⟩, ⟨.int .i64 4, .agg #[.string ⟨#[103, 114, 97, 110, 116]⟩, .slice (some ⟨w5.heap.size, 0, none⟩) 2 2], 3⟩, ⟨.int .i64 5, .agg #[.string ⟨#[103, 111, 110, 101]⟩, .slice (some ⟨w6.heap.size, 0, none⟩) 1 1], 4⟩].push ⟨.int .i64 6, .agg #[.string ⟨#[109, 97, 100, 101]⟩, .slice (some ⟨w7.heap.size, 0, none⟩) 1 1], 5⟩) (5 + 1)) = Z := ⟨_, rfl⟩
  rw [hX] at hu5
  have HMX5 := Lib.hid (show X5.heap[M]? = some (.map #[⟨.int .i64 1, .agg #[.string ⟨#[116, 105, 99, 107]⟩, .slice (some ⟨w1.heap.size, 0, none⟩) 2 2], 0⟩, ⟨.int .i64 2, .agg #[.string ⟨#[111, 112, 101, 110]⟩, .slice none 0 0], 1⟩, ⟨.int .i64 3, .agg #[.string ⟨#[98, 121, 116, 101, 115]⟩, .slice (some ⟨w3.heap.size, 0, none⟩) 2 2], 2⟩, ⟨.int .i64 4, .agg #[.string ⟨#[103, 114, 97, 110, 116]⟩, .slice (some ⟨w5.heap.size, 0, none⟩) 2 2], 3⟩, ⟨.int .i64 5, .agg #[.string ⟨#[103, 111, 110, 101]⟩, .slice (some ⟨w6.heap.size, 0, none⟩) 1 1], 4⟩, ⟨.int .i64 6, .agg #[.string ⟨#[109, 97, 100, 101]⟩, .slice (some ⟨w7.heap.size, 0, none⟩) 1 1], 5⟩] 6) by rw [← hX]; exact setBlock_atS HMR5.out)
  have HKX5 := Lib.hid (show KeepM M (w7.alloc (.cells #[.func (.func 87) #[] #[], .func (.func 89) #[] #[], .func (.func 90) #[] #[]] 124)) X5 by rw [← hX]; exact KeepM.set _ _)
  have HBX5 := Lib.hid (show Below w.heap.size w X5 by rw [← hX]; exact HBR5.out.trans (setBlock_belowS _ _ _ _ (Nat.le_of_eq HHM.out)))
  clear hX
  have HPX5 := Lib.hid (HPR5.out.keep HMR5.out HKX5.out)
  go_wp2_with fail
  refine (Ktopic.out _).mono ?_
  rintro e w8 ⟨rfl, hb⟩
  have HMw8 := Lib.hid ((hb.block M (Array.getElem?_eq_some_iff.1 (HMX5.out)).1).trans (HMX5.out))
  have HBw8 := Lib.hid (HBX5.out.trans (hb.mono HBX5.out.size))
  have HKw8 := Lib.hid (KeepM.of_below (M := M) hb)
  clear hb
  unfold topV
  go_wp2_with fail
  refine (Kdraw.out _).mono ?_
  rintro e w9 ⟨bw9, rfl, hbx, _, hb⟩
  have HXw9 := Lib.hid hbx
  clear hbx
  have HMw9 := Lib.hid ((hb.block M (Array.getElem?_eq_some_iff.1 (HMw8.out)).1).trans (HMw8.out))
  have HBw9 := Lib.hid (HBw8.out.trans (hb.mono HBw8.out.size))
  have HKw9 := Lib.hid (KeepM.of_below (M := M) hb)
  clear hb
  unfold numV
  have hal : Below w9.heap.size w9 (w9.alloc (.cells #[.func (.func 87) #[] #[], .func (.func 89) #[] #[], .func (.func 90) #[] #[], .func (.func 99) #[] #[.pointer (some ⟨bw9, 0, none⟩)], .func (.func 100) #[] #[.pointer (some ⟨bw9, 0, none⟩)], .func (.func 101) #[] #[.pointer (some ⟨bw9, 0, none⟩)]] 124)) := (Below.refl _ _).alloc (Nat.le_refl _) _
  have HMR6 := Lib.hid ((hal.block M (Array.getElem?_eq_some_iff.1 (HMw9.out)).1).trans (HMw9.out))
  have HBR6 := Lib.hid (HBw9.out.trans (hal.mono HBw9.out.size))
  have HXw9 := Lib.hid (HXw9.out.below hal)
  have HPR6 := Lib.hid (pts_row (ps := [84, 68]) (World.alloc_heap_new w9 (.cells #[.func (.func 87) #[] #[], .func (.func 89) #[] #[], .func (.func 90) #[] #[], .func (.func 99) #[] #[.pointer (some ⟨bw9, 0, none⟩)], .func (.func 100) #[] #[.pointer (some ⟨bw9, 0, none⟩)], .func (.func 101) #[] #[.pointer (some ⟨bw9, 0, none⟩)]] 124)) (fun j hj => by
    match j, hj with
    | 0, _ => exact ⟨_, _, _, rfl, rfl, rfl, .inr (.inl ⟨rfl, rfl⟩)⟩
    | 1, _ => exact ⟨_, _, _, rfl, rfl, rfl, .inl ⟨by decide, bw9, rfl, HXw9.out⟩⟩
    | n + 2, hj => exact absurd hj (by simp)))
  have HKR6 := Lib.hid (KeepM.of_below (M := M) hal)
  clear hal
  have hu6 := sh_put (w9.alloc (.cells #[.func (.func 87) #[] #[], .func (.func 89) #[] #[], .func (.func 90) #[] #[], .func (.func 99) #[] #[.pointer (some ⟨bw9, 0, none⟩)], .func (.func 100) #[] #[.pointer (some ⟨bw9, 0, none⟩)], .func (.func 101) #[] #[.pointer (some ⟨bw9, 0, none⟩)]] 124)) M #[⟨.int .i64 1, .agg #[.string ⟨#[116, 105, 99, 107]⟩, .slice (some ⟨w1.heap.size, 0, none⟩) 2 2], 0⟩, ⟨.int .i64 2, .agg #[.string ⟨#[111, 112, 101, 110]⟩, .slice none 0 0], 1⟩, ⟨.int .i64 3, .agg #[.string ⟨#[98, 121, 116, 101, 115]⟩, .slice (some ⟨w3.heap.size, 0, none⟩) 2 2], 2⟩, ⟨.int .i64 4, .agg #[.string ⟨#[103, 114, 97, 110, 116]⟩, .slice (some ⟨w5.heap.size, 0, none⟩) 2 2], 3⟩, ⟨.int .i64 5, .agg #[.string ⟨#[103, 111, 110, 101]⟩, .slice (some ⟨w6.heap.size, 0, none⟩) 1 1], 4⟩, ⟨.int .i64 6, .agg #[.string ⟨#[109, 97, 100, 101]⟩, .slice (some ⟨w7.heap.size, 0, none⟩) 1 1], 5⟩] 6 7 (.agg #[.string ⟨#[108, 111, 115, 116]⟩, .slice (some ⟨w9.heap.size, 0, none⟩) 2 2]) HMR6.out rfl
  obtain ⟨X6, hX⟩ : ∃ Z, setBlock (w9.alloc (.cells #[.func (.func 87) #[] #[], .func (.func 89) #[] #[], .func (.func 90) #[] #[], .func (.func 99) #[] #[.pointer (some ⟨bw9, 0, none⟩)], .func (.func 100) #[] #[.pointer (some ⟨bw9, 0, none⟩)], .func (.func 101) #[] #[.pointer (some ⟨bw9, 0, none⟩)]] 124)) M (.map (#[⟨.int .i64 1, .agg #[.string ⟨#[116, 105, 99, 107]⟩, .slice (some ⟨w1.heap.size, 0, none⟩) 2 2], 0⟩, ⟨.int .i64 2, .agg #[.string ⟨#[111, 112, 101, 110]⟩, .slice none 0 0], 1⟩, ⟨.int .i64 3, .agg #[.string ⟨#[98, 121, 116, 101, 115]⟩, .slice (some ⟨w3.heap.size, 0, none⟩) 2 2], 2⟩, ⟨.int .i64 4, .agg #[.string ⟨#[103, 114, 97, 110, 116]⟩, .slice (some ⟨w5.heap.size, 0, none⟩) 2 2], 3⟩, ⟨.int .i64 5, .agg #[.string ⟨#[103, 111, 110, 101]⟩, .slice (some ⟨w6.heap.size, 0, none⟩) 1 1], 4⟩, ⟨.int .i64 6, .agg #[.string ⟨#[109, 97, 100, 101]⟩, .slice (some ⟨w7.heap.size, 0, none⟩) 1 1], 5⟩].push ⟨.int .i64 7, .agg #[.string ⟨#[108, 111, 115, 116]⟩, .slice (some ⟨w9.heap.size, 0, none⟩) 2 2], 6⟩) (6 + 1)) = Z := ⟨_, rfl⟩
  rw [hX] at hu6
  have HMX6 := Lib.hid (show X6.heap[M]? = some (.map #[⟨.int .i64 1, .agg #[.string ⟨#[116, 105, 99, 107]⟩, .slice (some ⟨w1.heap.size, 0, none⟩) 2 2], 0⟩, ⟨.int .i64 2, .agg #[.string ⟨#[111, 112, 101, 110]⟩, .slice none 0 0], 1⟩, ⟨.int .i64 3, .agg #[.string ⟨#[98, 121, 116, 101, 115]⟩, .slice (some ⟨w3.heap.size, 0, none⟩) 2 2], 2⟩, ⟨.int .i64 4, .agg #[.string ⟨#[103, 114, 97, 110, 116]⟩, .slice (some ⟨w5.heap.size, 0, none⟩) 2 2], 3⟩, ⟨.int .i64 5, .agg #[.string ⟨#[103, 111, 110, 101]⟩, .slice (some ⟨w6.heap.size, 0, none⟩) 1 1], 4⟩, ⟨.int .i64 6, .agg #[.string ⟨#[109, 97, 100, 101]⟩, .slice (some ⟨w7.heap.size, 0, none⟩) 1 1], 5⟩, ⟨.int .i64 7, .agg #[.string ⟨#[108, 111, 115, 116]⟩, .slice (some ⟨w9.heap.size, 0, none⟩) 2 2], 6⟩] 7) by rw [← hX]; exact setBlock_atS HMR6.out)
  have HKX6 := Lib.hid (show KeepM M (w9.alloc (.cells #[.func (.func 87) #[] #[], .func (.func 89) #[] #[], .func (.func 90) #[] #[], .func (.func 99) #[] #[.pointer (some ⟨bw9, 0, none⟩)], .func (.func 100) #[] #[.pointer (some ⟨bw9, 0, none⟩)], .func (.func 101) #[] #[.pointer (some ⟨bw9, 0, none⟩)]] 124)) X6 by rw [← hX]; exact KeepM.set _ _)
  have HBX6 := Lib.hid (show Below w.heap.size w X6 by rw [← hX]; exact HBR6.out.trans (setBlock_belowS _ _ _ _ (Nat.le_of_eq HHM.out)))
  clear hX
  have HPX6 := Lib.hid (HPR6.out.keep HMR6.out HKX6.out)
  go_wp2_with fail
  refine (Ktopic.out _).mono ?_
  rintro e w10 ⟨rfl, hb⟩
  have HMw10 := Lib.hid ((hb.block M (Array.getElem?_eq_some_iff.1 (HMX6.out)).1).trans (HMX6.out))
  have HBw10 := Lib.hid (HBX6.out.trans (hb.mono HBX6.out.size))
  have HKw10 := Lib.hid (KeepM.of_below (M := M) hb)
  clear hb
  unfold topV
  go_wp2_with fail
  refine (Kdraw.out _).mono ?_
  rintro e w11 ⟨bw11, rfl, hbx, _, hb⟩
  have HXw11 := Lib.hid hbx
  clear hbx
  have HMw11 := Lib.hid ((hb.block M (Array.getElem?_eq_some_iff.1 (HMw10.out)).1).trans (HMw10.out))
  have HBw11 := Lib.hid (HBw10.out.trans (hb.mono HBw10.out.size))
  have HKw11 := Lib.hid (KeepM.of_below (M := M) hb)
  clear hb
  unfold numV
  go_wp2_with fail
  refine (Kbytes.out _).mono ?_
  rintro e w12 ⟨rfl, hb⟩
  have HXw11 := Lib.hid (HXw11.out.below hb)
  have HMw12 := Lib.hid ((hb.block M (Array.getElem?_eq_some_iff.1 (HMw11.out)).1).trans (HMw11.out))
  have HBw12 := Lib.hid (HBw11.out.trans (hb.mono HBw11.out.size))
  have HKw12 := Lib.hid (KeepM.of_below (M := M) hb)
  clear hb
  unfold bytV
  have hal : Below w12.heap.size w12 (w12.alloc (.cells #[.func (.func 87) #[] #[], .func (.func 89) #[] #[], .func (.func 90) #[] #[], .func (.func 99) #[] #[.pointer (some ⟨bw11, 0, none⟩)], .func (.func 100) #[] #[.pointer (some ⟨bw11, 0, none⟩)], .func (.func 101) #[] #[.pointer (some ⟨bw11, 0, none⟩)], .func (.func 81) #[] #[], .func (.func 83) #[] #[], .func (.func 84) #[] #[]] 124)) := (Below.refl _ _).alloc (Nat.le_refl _) _
  have HMR7 := Lib.hid ((hal.block M (Array.getElem?_eq_some_iff.1 (HMw12.out)).1).trans (HMw12.out))
  have HBR7 := Lib.hid (HBw12.out.trans (hal.mono HBw12.out.size))
  have HXw11 := Lib.hid (HXw11.out.below hal)
  have HPR7 := Lib.hid (pts_row (ps := [84, 68, 66]) (World.alloc_heap_new w12 (.cells #[.func (.func 87) #[] #[], .func (.func 89) #[] #[], .func (.func 90) #[] #[], .func (.func 99) #[] #[.pointer (some ⟨bw11, 0, none⟩)], .func (.func 100) #[] #[.pointer (some ⟨bw11, 0, none⟩)], .func (.func 101) #[] #[.pointer (some ⟨bw11, 0, none⟩)], .func (.func 81) #[] #[], .func (.func 83) #[] #[], .func (.func 84) #[] #[]] 124)) (fun j hj => by
    match j, hj with
    | 0, _ => exact ⟨_, _, _, rfl, rfl, rfl, .inr (.inl ⟨rfl, rfl⟩)⟩
    | 1, _ => exact ⟨_, _, _, rfl, rfl, rfl, .inl ⟨by decide, bw11, rfl, HXw11.out⟩⟩
    | 2, _ => exact ⟨_, _, _, rfl, rfl, rfl, .inr (.inr ⟨rfl, rfl⟩)⟩
    | n + 3, hj => exact absurd hj (by simp)))
  have HKR7 := Lib.hid (KeepM.of_below (M := M) hal)
  clear hal
  have hu7 := sh_put (w12.alloc (.cells #[.func (.func 87) #[] #[], .func (.func 89) #[] #[], .func (.func 90) #[] #[], .func (.func 99) #[] #[.pointer (some ⟨bw11, 0, none⟩)], .func (.func 100) #[] #[.pointer (some ⟨bw11, 0, none⟩)], .func (.func 101) #[] #[.pointer (some ⟨bw11, 0, none⟩)], .func (.func 81) #[] #[], .func (.func 83) #[] #[], .func (.func 84) #[] #[]] 124)) M #[⟨.int .i64 1, .agg #[.string ⟨#[116, 105, 99, 107]⟩, .slice (some ⟨w1.heap.size, 0, none⟩) 2 2], 0⟩, ⟨.int .i64 2, .agg #[.string ⟨#[111, 112, 101, 110]⟩, .slice none 0 0], 1⟩, ⟨.int .i64 3, .agg #[.string ⟨#[98, 121, 116, 101, 115]⟩, .slice (some ⟨w3.heap.size, 0, none⟩) 2 2], 2⟩, ⟨.int .i64 4, .agg #[.string ⟨#[103, 114, 97, 110, 116]⟩, .slice (some ⟨w5.heap.size, 0, none⟩) 2 2], 3⟩, ⟨.int .i64 5, .agg #[.string ⟨#[103, 111, 110, 101]⟩, .slice (some ⟨w6.heap.size, 0, none⟩) 1 1], 4⟩, ⟨.int .i64 6, .agg #[.string ⟨#[109, 97, 100, 101]⟩, .slice (some ⟨w7.heap.size, 0, none⟩) 1 1], 5⟩, ⟨.int .i64 7, .agg #[.string ⟨#[108, 111, 115, 116]⟩, .slice (some ⟨w9.heap.size, 0, none⟩) 2 2], 6⟩] 7 8 (.agg #[.string ⟨#[99, 111, 109, 101]⟩, .slice (some ⟨w12.heap.size, 0, none⟩) 3 3]) HMR7.out rfl
  obtain ⟨X7, hX⟩ : ∃ Z, setBlock (w12.alloc (.cells #[.func (.func 87) #[] #[], .func (.func 89) #[] #[], .func (.func 90) #[] #[], .func (.func 99) #[] #[.pointer (some ⟨bw11, 0, none⟩)], .func (.func 100) #[] #[.pointer (some ⟨bw11, 0, none⟩)], .func (.func 101) #[] #[.pointer (some ⟨bw11, 0, none⟩)], .func (.func 81) #[] #[], .func (.func 83) #[] #[], .func (.func 84) #[] #[]] 124)) M (.map (#[⟨.int .i64 1, .agg #[.string ⟨#[116, 105, 99, 107]⟩, .slice (some ⟨w1.heap.size, 0, none⟩) 2 2], 0⟩, ⟨.int .i64 2, .agg #[.string ⟨#[111, 112, 101, 110]⟩, .slice none 0 0], 1⟩, ⟨.int .i64 3, .agg #[.string ⟨#[98, 121, 116, 101, 115]⟩, .slice (some ⟨w3.heap.size, 0, none⟩) 2 2], 2⟩, ⟨.int .i64 4, .agg #[.string ⟨#[103, 114, 97, 110, 116]⟩, .slice (some ⟨w5.heap.size, 0, none⟩) 2 2], 3⟩, ⟨.int .i64 5, .agg #[.string ⟨#[103, 111, 110, 101]⟩, .slice (some ⟨w6.heap.size, 0, none⟩) 1 1], 4⟩, ⟨.int .i64 6, .agg #[.string ⟨#[109, 97, 100, 101]⟩, .slice (some ⟨w7.heap.size, 0, none⟩) 1 1], 5⟩, ⟨.int .i64 7, .agg #[.string ⟨#[108, 111, 115, 116]⟩, .slice (some ⟨w9.heap.size, 0, none⟩) 2 2], 6⟩].push ⟨.int .i64 8, .agg #[.string ⟨#[99, 111, 109, 101]⟩, .slice (some ⟨w12.heap.size, 0, none⟩) 3 3], 7⟩) (7 + 1)) = Z := ⟨_, rfl⟩
  rw [hX] at hu7
  have HMX7 := Lib.hid (show X7.heap[M]? = some (.map #[⟨.int .i64 1, .agg #[.string ⟨#[116, 105, 99, 107]⟩, .slice (some ⟨w1.heap.size, 0, none⟩) 2 2], 0⟩, ⟨.int .i64 2, .agg #[.string ⟨#[111, 112, 101, 110]⟩, .slice none 0 0], 1⟩, ⟨.int .i64 3, .agg #[.string ⟨#[98, 121, 116, 101, 115]⟩, .slice (some ⟨w3.heap.size, 0, none⟩) 2 2], 2⟩, ⟨.int .i64 4, .agg #[.string ⟨#[103, 114, 97, 110, 116]⟩, .slice (some ⟨w5.heap.size, 0, none⟩) 2 2], 3⟩, ⟨.int .i64 5, .agg #[.string ⟨#[103, 111, 110, 101]⟩, .slice (some ⟨w6.heap.size, 0, none⟩) 1 1], 4⟩, ⟨.int .i64 6, .agg #[.string ⟨#[109, 97, 100, 101]⟩, .slice (some ⟨w7.heap.size, 0, none⟩) 1 1], 5⟩, ⟨.int .i64 7, .agg #[.string ⟨#[108, 111, 115, 116]⟩, .slice (some ⟨w9.heap.size, 0, none⟩) 2 2], 6⟩, ⟨.int .i64 8, .agg #[.string ⟨#[99, 111, 109, 101]⟩, .slice (some ⟨w12.heap.size, 0, none⟩) 3 3], 7⟩] 8) by rw [← hX]; exact setBlock_atS HMR7.out)
  have HKX7 := Lib.hid (show KeepM M (w12.alloc (.cells #[.func (.func 87) #[] #[], .func (.func 89) #[] #[], .func (.func 90) #[] #[], .func (.func 99) #[] #[.pointer (some ⟨bw11, 0, none⟩)], .func (.func 100) #[] #[.pointer (some ⟨bw11, 0, none⟩)], .func (.func 101) #[] #[.pointer (some ⟨bw11, 0, none⟩)], .func (.func 81) #[] #[], .func (.func 83) #[] #[], .func (.func 84) #[] #[]] 124)) X7 by rw [← hX]; exact KeepM.set _ _)
  have HBX7 := Lib.hid (show Below w.heap.size w X7 by rw [← hX]; exact HBR7.out.trans (setBlock_belowS _ _ _ _ (Nat.le_of_eq HHM.out)))
  clear hX
  have HPX7 := Lib.hid (HPR7.out.keep HMR7.out HKX7.out)
  have hu8 := sh_put X7 M #[⟨.int .i64 1, .agg #[.string ⟨#[116, 105, 99, 107]⟩, .slice (some ⟨w1.heap.size, 0, none⟩) 2 2], 0⟩, ⟨.int .i64 2, .agg #[.string ⟨#[111, 112, 101, 110]⟩, .slice none 0 0], 1⟩, ⟨.int .i64 3, .agg #[.string ⟨#[98, 121, 116, 101, 115]⟩, .slice (some ⟨w3.heap.size, 0, none⟩) 2 2], 2⟩, ⟨.int .i64 4, .agg #[.string ⟨#[103, 114, 97, 110, 116]⟩, .slice (some ⟨w5.heap.size, 0, none⟩) 2 2], 3⟩, ⟨.int .i64 5, .agg #[.string ⟨#[103, 111, 110, 101]⟩, .slice (some ⟨w6.heap.size, 0, none⟩) 1 1], 4⟩, ⟨.int .i64 6, .agg #[.string ⟨#[109, 97, 100, 101]⟩, .slice (some ⟨w7.heap.size, 0, none⟩) 1 1], 5⟩, ⟨.int .i64 7, .agg #[.string ⟨#[108, 111, 115, 116]⟩, .slice (some ⟨w9.heap.size, 0, none⟩) 2 2], 6⟩, ⟨.int .i64 8, .agg #[.string ⟨#[99, 111, 109, 101]⟩, .slice (some ⟨w12.heap.size, 0, none⟩) 3 3], 7⟩] 8 9 (.agg #[.string ⟨#[100, 114, 97, 105, 110]⟩, .slice none 0 0]) HMX7.out rfl
  obtain ⟨X8, hX⟩ : ∃ Z, setBlock X7 M (.map (#[⟨.int .i64 1, .agg #[.string ⟨#[116, 105, 99, 107]⟩, .slice (some ⟨w1.heap.size, 0, none⟩) 2 2], 0⟩, ⟨.int .i64 2, .agg #[.string ⟨#[111, 112, 101, 110]⟩, .slice none 0 0], 1⟩, ⟨.int .i64 3, .agg #[.string ⟨#[98, 121, 116, 101, 115]⟩, .slice (some ⟨w3.heap.size, 0, none⟩) 2 2], 2⟩, ⟨.int .i64 4, .agg #[.string ⟨#[103, 114, 97, 110, 116]⟩, .slice (some ⟨w5.heap.size, 0, none⟩) 2 2], 3⟩, ⟨.int .i64 5, .agg #[.string ⟨#[103, 111, 110, 101]⟩, .slice (some ⟨w6.heap.size, 0, none⟩) 1 1], 4⟩, ⟨.int .i64 6, .agg #[.string ⟨#[109, 97, 100, 101]⟩, .slice (some ⟨w7.heap.size, 0, none⟩) 1 1], 5⟩, ⟨.int .i64 7, .agg #[.string ⟨#[108, 111, 115, 116]⟩, .slice (some ⟨w9.heap.size, 0, none⟩) 2 2], 6⟩, ⟨.int .i64 8, .agg #[.string ⟨#[99, 111, 109, 101]⟩, .slice (some ⟨w12.heap.size, 0, none⟩) 3 3], 7⟩].push ⟨.int .i64 9, .agg #[.string ⟨#[100, 114, 97, 105, 110]⟩, .slice none 0 0], 8⟩) (8 + 1)) = Z := ⟨_, rfl⟩
  rw [hX] at hu8
  have HMX8 := Lib.hid (show X8.heap[M]? = some (.map #[⟨.int .i64 1, .agg #[.string ⟨#[116, 105, 99, 107]⟩, .slice (some ⟨w1.heap.size, 0, none⟩) 2 2], 0⟩, ⟨.int .i64 2, .agg #[.string ⟨#[111, 112, 101, 110]⟩, .slice none 0 0], 1⟩, ⟨.int .i64 3, .agg #[.string ⟨#[98, 121, 116, 101, 115]⟩, .slice (some ⟨w3.heap.size, 0, none⟩) 2 2], 2⟩, ⟨.int .i64 4, .agg #[.string ⟨#[103, 114, 97, 110, 116]⟩, .slice (some ⟨w5.heap.size, 0, none⟩) 2 2], 3⟩, ⟨.int .i64 5, .agg #[.string ⟨#[103, 111, 110, 101]⟩, .slice (some ⟨w6.heap.size, 0, none⟩) 1 1], 4⟩, ⟨.int .i64 6, .agg #[.string ⟨#[109, 97, 100, 101]⟩, .slice (some ⟨w7.heap.size, 0, none⟩) 1 1], 5⟩, ⟨.int .i64 7, .agg #[.string ⟨#[108, 111, 115, 116]⟩, .slice (some ⟨w9.heap.size, 0, none⟩) 2 2], 6⟩, ⟨.int .i64 8, .agg #[.string ⟨#[99, 111, 109, 101]⟩, .slice (some ⟨w12.heap.size, 0, none⟩) 3 3], 7⟩, ⟨.int .i64 9, .agg #[.string ⟨#[100, 114, 97, 105, 110]⟩, .slice none 0 0], 8⟩] 9) by rw [← hX]; exact setBlock_atS HMX7.out)
  have HKX8 := Lib.hid (show KeepM M X7 X8 by rw [← hX]; exact KeepM.set _ _)
  have HBX8 := Lib.hid (show Below w.heap.size w X8 by rw [← hX]; exact HBX7.out.trans (setBlock_belowS _ _ _ _ (Nat.le_of_eq HHM.out)))
  clear hX
  have HPX8 := Lib.hid (show PtsAt X8 (.slice none 0 0) [] from .inl ⟨rfl, rfl⟩)
  go_wp2_with fail
  go_ret
  have KEX8 := KeepM.refl M X8
  have KEX7 := KeepM.trans (HKX8.out) KEX8
  have KER7 := KeepM.trans (HKX7.out) KEX7
  have KEw12 := KeepM.trans (HKR7.out) KER7
  have KEw11 := KeepM.trans (HKw12.out) KEw12
  have KEw10 := KeepM.trans (HKw11.out) KEw11
  have KEX6 := KeepM.trans (HKw10.out) KEw10
  have KER6 := KeepM.trans (HKX6.out) KEX6
  have KEw9 := KeepM.trans (HKR6.out) KER6
  have KEw8 := KeepM.trans (HKw9.out) KEw9
  have KEX5 := KeepM.trans (HKw8.out) KEw8
  have KER5 := KeepM.trans (HKX5.out) KEX5
  have KEw7 := KeepM.trans (HKR5.out) KER5
  have KEX4 := KeepM.trans (HKw7.out) KEw7
  have KER4 := KeepM.trans (HKX4.out) KEX4
  have KEw6 := KeepM.trans (HKR4.out) KER4
  have KEX3 := KeepM.trans (HKw6.out) KEw6
  have KER3 := KeepM.trans (HKX3.out) KEX3
  have KEw5 := KeepM.trans (HKR3.out) KER3
  have KEw4 := KeepM.trans (HKw5.out) KEw5
  have KEX2 := KeepM.trans (HKw4.out) KEw4
  have KER2 := KeepM.trans (HKX2.out) KEX2
  have KEw3 := KeepM.trans (HKR2.out) KER2
  have KEw2 := KeepM.trans (HKw3.out) KEw3
  have KEX1 := KeepM.trans (HKw2.out) KEw2
  have KEX0 := KeepM.trans (HKX1.out) KEX1
  have KER0 := KeepM.trans (HKX0.out) KEX0
  have KEw1 := KeepM.trans (HKR0.out) KER0
  have KEw0 := KeepM.trans (HKw1.out) KEw1
  have KEW0 := KeepM.trans (HKw0.out) KEw0
  refine ⟨M, rfl, ⟨[.slice (some ⟨w1.heap.size, 0, none⟩) 2 2, .slice none 0 0, .slice (some ⟨w3.heap.size, 0, none⟩) 2 2, .slice (some ⟨w5.heap.size, 0, none⟩) 2 2, .slice (some ⟨w6.heap.size, 0, none⟩) 1 1, .slice (some ⟨w7.heap.size, 0, none⟩) 1 1, .slice (some ⟨w9.heap.size, 0, none⟩) 2 2, .slice (some ⟨w12.heap.size, 0, none⟩) 3 3, .slice none 0 0], rfl, HMX8.out, fun i hi => ?_⟩, HBX8.out⟩
  match i, hi with
  | 0, _ => exact HPX0.out.keep HMX0.out KEX0
  | 1, _ => exact HPX1.out.keep HMX1.out KEX1
  | 2, _ => exact HPX2.out.keep HMX2.out KEX2
  | 3, _ => exact HPX3.out.keep HMX3.out KEX3
  | 4, _ => exact HPX4.out.keep HMX4.out KEX4
  | 5, _ => exact HPX5.out.keep HMX5.out KEX5
  | 6, _ => exact HPX6.out.keep HMX6.out KEX6
  | 7, _ => exact HPX7.out.keep HMX7.out KEX7
  | 8, _ => exact HPX8.out.keep HMX8.out KEX8
  | n + 9, hi => exact absurd hi (by simp [Sc.stepT])
theorem sc_outs (w : World) : Calls Tryz.prog 42 #[] w fun e w' => ∃ b, e = .returned (.map (some b)) ∧ ShAt w' b Sc.outT ∧ Below w.heap.size w w' := by
  have hmm := @run_makeMap Tryz.prog
  obtain ⟨M, hM⟩ : ∃ z, w.heap.size = z := ⟨_, rfl⟩
  obtain ⟨W0, hW0⟩ : ∃ Z, w.alloc (.map #[] 0) = Z := ⟨_, rfl⟩
  have HM0 := Lib.hid (show W0.heap[M]? = some (.map #[] 0) by rw [← hW0, ← hM]; exact World.alloc_heap_new _ _)
  have HB0 := Lib.hid (show Below w.heap.size w W0 by rw [← hW0]; exact (Below.refl _ _).alloc (Nat.le_refl _) _)
  have HSZ0 := Lib.hid (show M < W0.heap.size by rw [← hW0, ← hM]; simp)
  have HHM := Lib.hid hM
  have HW0 := Lib.hid hW0
  clear hM hW0
  have Kspan := Lib.hid sc_span
  have Kdraw := Lib.hid sc_draw
  have Kconn := Lib.hid sc_conn
  have Ktopic := Lib.hid sc_topic
  have Kbytes := Lib.hid sc_bytes
  go_enter Tryz.func42, Tryz.ntmps42
  go_wp2_with fail
  rw [HHM.out, HW0.out]
  refine (Kconn.out _).mono ?_
  rintro e w0 ⟨bw0, rfl, hbx, _, hb⟩
  have HXw0 := Lib.hid hbx
  clear hbx
  have HMw0 := Lib.hid ((hb.block M (Array.getElem?_eq_some_iff.1 (HM0.out)).1).trans (HM0.out))
  have HBw0 := Lib.hid (HB0.out.trans (hb.mono HB0.out.size))
  have HKw0 := Lib.hid (KeepM.of_below (M := M) hb)
  clear hb
  unfold numV
  have hal : Below w0.heap.size w0 (w0.alloc (.cells #[.func (.func 99) #[] #[.pointer (some ⟨bw0, 0, none⟩)], .func (.func 100) #[] #[.pointer (some ⟨bw0, 0, none⟩)], .func (.func 101) #[] #[.pointer (some ⟨bw0, 0, none⟩)]] 124)) := (Below.refl _ _).alloc (Nat.le_refl _) _
  have HMR0 := Lib.hid ((hal.block M (Array.getElem?_eq_some_iff.1 (HMw0.out)).1).trans (HMw0.out))
  have HBR0 := Lib.hid (HBw0.out.trans (hal.mono HBw0.out.size))
  have HXw0 := Lib.hid (HXw0.out.below hal)
  have HPR0 := Lib.hid (pts_row (ps := [67]) (World.alloc_heap_new w0 (.cells #[.func (.func 99) #[] #[.pointer (some ⟨bw0, 0, none⟩)], .func (.func 100) #[] #[.pointer (some ⟨bw0, 0, none⟩)], .func (.func 101) #[] #[.pointer (some ⟨bw0, 0, none⟩)]] 124)) (fun j hj => by
    match j, hj with
    | 0, _ => exact ⟨_, _, _, rfl, rfl, rfl, .inl ⟨by decide, bw0, rfl, HXw0.out⟩⟩
    | n + 1, hj => exact absurd hj (by simp)))
  have HKR0 := Lib.hid (KeepM.of_below (M := M) hal)
  clear hal
  have hu0 := sh_put (w0.alloc (.cells #[.func (.func 99) #[] #[.pointer (some ⟨bw0, 0, none⟩)], .func (.func 100) #[] #[.pointer (some ⟨bw0, 0, none⟩)], .func (.func 101) #[] #[.pointer (some ⟨bw0, 0, none⟩)]] 124)) M #[] 0 1 (.agg #[.string ⟨#[111, 112, 101, 110, 101, 100]⟩, .slice (some ⟨w0.heap.size, 0, none⟩) 1 1]) HMR0.out rfl
  obtain ⟨X0, hX⟩ : ∃ Z, setBlock (w0.alloc (.cells #[.func (.func 99) #[] #[.pointer (some ⟨bw0, 0, none⟩)], .func (.func 100) #[] #[.pointer (some ⟨bw0, 0, none⟩)], .func (.func 101) #[] #[.pointer (some ⟨bw0, 0, none⟩)]] 124)) M (.map (#[].push ⟨.int .i64 1, .agg #[.string ⟨#[111, 112, 101, 110, 101, 100]⟩, .slice (some ⟨w0.heap.size, 0, none⟩) 1 1], 0⟩) (0 + 1)) = Z := ⟨_, rfl⟩
  rw [hX] at hu0
  have HMX0 := Lib.hid (show X0.heap[M]? = some (.map #[⟨.int .i64 1, .agg #[.string ⟨#[111, 112, 101, 110, 101, 100]⟩, .slice (some ⟨w0.heap.size, 0, none⟩) 1 1], 0⟩] 1) by rw [← hX]; exact setBlock_atS HMR0.out)
  have HKX0 := Lib.hid (show KeepM M (w0.alloc (.cells #[.func (.func 99) #[] #[.pointer (some ⟨bw0, 0, none⟩)], .func (.func 100) #[] #[.pointer (some ⟨bw0, 0, none⟩)], .func (.func 101) #[] #[.pointer (some ⟨bw0, 0, none⟩)]] 124)) X0 by rw [← hX]; exact KeepM.set _ _)
  have HBX0 := Lib.hid (show Below w.heap.size w X0 by rw [← hX]; exact HBR0.out.trans (setBlock_belowS _ _ _ _ (Nat.le_of_eq HHM.out)))
  clear hX
  have HPX0 := Lib.hid (HPR0.out.keep HMR0.out HKX0.out)
  go_wp2_with fail
  refine (Kconn.out _).mono ?_
  rintro e w1 ⟨bw1, rfl, hbx, _, hb⟩
  have HXw1 := Lib.hid hbx
  clear hbx
  have HMw1 := Lib.hid ((hb.block M (Array.getElem?_eq_some_iff.1 (HMX0.out)).1).trans (HMX0.out))
  have HBw1 := Lib.hid (HBX0.out.trans (hb.mono HBX0.out.size))
  have HKw1 := Lib.hid (KeepM.of_below (M := M) hb)
  clear hb
  unfold numV
  go_wp2_with fail
  refine (Kbytes.out _).mono ?_
  rintro e w2 ⟨rfl, hb⟩
  have HXw1 := Lib.hid (HXw1.out.below hb)
  have HMw2 := Lib.hid ((hb.block M (Array.getElem?_eq_some_iff.1 (HMw1.out)).1).trans (HMw1.out))
  have HBw2 := Lib.hid (HBw1.out.trans (hb.mono HBw1.out.size))
  have HKw2 := Lib.hid (KeepM.of_below (M := M) hb)
  clear hb
  unfold bytV
  have hal : Below w2.heap.size w2 (w2.alloc (.cells #[.func (.func 99) #[] #[.pointer (some ⟨bw1, 0, none⟩)], .func (.func 100) #[] #[.pointer (some ⟨bw1, 0, none⟩)], .func (.func 101) #[] #[.pointer (some ⟨bw1, 0, none⟩)], .func (.func 81) #[] #[], .func (.func 83) #[] #[], .func (.func 84) #[] #[]] 124)) := (Below.refl _ _).alloc (Nat.le_refl _) _
  have HMR1 := Lib.hid ((hal.block M (Array.getElem?_eq_some_iff.1 (HMw2.out)).1).trans (HMw2.out))
  have HBR1 := Lib.hid (HBw2.out.trans (hal.mono HBw2.out.size))
  have HXw1 := Lib.hid (HXw1.out.below hal)
  have HPR1 := Lib.hid (pts_row (ps := [67, 66]) (World.alloc_heap_new w2 (.cells #[.func (.func 99) #[] #[.pointer (some ⟨bw1, 0, none⟩)], .func (.func 100) #[] #[.pointer (some ⟨bw1, 0, none⟩)], .func (.func 101) #[] #[.pointer (some ⟨bw1, 0, none⟩)], .func (.func 81) #[] #[], .func (.func 83) #[] #[], .func (.func 84) #[] #[]] 124)) (fun j hj => by
    match j, hj with
    | 0, _ => exact ⟨_, _, _, rfl, rfl, rfl, .inl ⟨by decide, bw1, rfl, HXw1.out⟩⟩
    | 1, _ => exact ⟨_, _, _, rfl, rfl, rfl, .inr (.inr ⟨rfl, rfl⟩)⟩
    | n + 2, hj => exact absurd hj (by simp)))
  have HKR1 := Lib.hid (KeepM.of_below (M := M) hal)
  clear hal
  have hu1 := sh_put (w2.alloc (.cells #[.func (.func 99) #[] #[.pointer (some ⟨bw1, 0, none⟩)], .func (.func 100) #[] #[.pointer (some ⟨bw1, 0, none⟩)], .func (.func 101) #[] #[.pointer (some ⟨bw1, 0, none⟩)], .func (.func 81) #[] #[], .func (.func 83) #[] #[], .func (.func 84) #[] #[]] 124)) M #[⟨.int .i64 1, .agg #[.string ⟨#[111, 112, 101, 110, 101, 100]⟩, .slice (some ⟨w0.heap.size, 0, none⟩) 1 1], 0⟩] 1 2 (.agg #[.string ⟨#[98, 121, 116, 101, 115]⟩, .slice (some ⟨w2.heap.size, 0, none⟩) 2 2]) HMR1.out rfl
  obtain ⟨X1, hX⟩ : ∃ Z, setBlock (w2.alloc (.cells #[.func (.func 99) #[] #[.pointer (some ⟨bw1, 0, none⟩)], .func (.func 100) #[] #[.pointer (some ⟨bw1, 0, none⟩)], .func (.func 101) #[] #[.pointer (some ⟨bw1, 0, none⟩)], .func (.func 81) #[] #[], .func (.func 83) #[] #[], .func (.func 84) #[] #[]] 124)) M (.map (#[⟨.int .i64 1, .agg #[.string ⟨#[111, 112, 101, 110, 101, 100]⟩, .slice (some ⟨w0.heap.size, 0, none⟩) 1 1], 0⟩].push ⟨.int .i64 2, .agg #[.string ⟨#[98, 121, 116, 101, 115]⟩, .slice (some ⟨w2.heap.size, 0, none⟩) 2 2], 1⟩) (1 + 1)) = Z := ⟨_, rfl⟩
  rw [hX] at hu1
  have HMX1 := Lib.hid (show X1.heap[M]? = some (.map #[⟨.int .i64 1, .agg #[.string ⟨#[111, 112, 101, 110, 101, 100]⟩, .slice (some ⟨w0.heap.size, 0, none⟩) 1 1], 0⟩, ⟨.int .i64 2, .agg #[.string ⟨#[98, 121, 116, 101, 115]⟩, .slice (some ⟨w2.heap.size, 0, none⟩) 2 2], 1⟩] 2) by rw [← hX]; exact setBlock_atS HMR1.out)
  have HKX1 := Lib.hid (show KeepM M (w2.alloc (.cells #[.func (.func 99) #[] #[.pointer (some ⟨bw1, 0, none⟩)], .func (.func 100) #[] #[.pointer (some ⟨bw1, 0, none⟩)], .func (.func 101) #[] #[.pointer (some ⟨bw1, 0, none⟩)], .func (.func 81) #[] #[], .func (.func 83) #[] #[], .func (.func 84) #[] #[]] 124)) X1 by rw [← hX]; exact KeepM.set _ _)
  have HBX1 := Lib.hid (show Below w.heap.size w X1 by rw [← hX]; exact HBR1.out.trans (setBlock_belowS _ _ _ _ (Nat.le_of_eq HHM.out)))
  clear hX
  have HPX1 := Lib.hid (HPR1.out.keep HMR1.out HKX1.out)
  go_wp2_with fail
  refine (Kconn.out _).mono ?_
  rintro e w3 ⟨bw3, rfl, hbx, _, hb⟩
  have HXw3 := Lib.hid hbx
  clear hbx
  have HMw3 := Lib.hid ((hb.block M (Array.getElem?_eq_some_iff.1 (HMX1.out)).1).trans (HMX1.out))
  have HBw3 := Lib.hid (HBX1.out.trans (hb.mono HBX1.out.size))
  have HKw3 := Lib.hid (KeepM.of_below (M := M) hb)
  clear hb
  unfold numV
  have hal : Below w3.heap.size w3 (w3.alloc (.cells #[.func (.func 99) #[] #[.pointer (some ⟨bw3, 0, none⟩)], .func (.func 100) #[] #[.pointer (some ⟨bw3, 0, none⟩)], .func (.func 101) #[] #[.pointer (some ⟨bw3, 0, none⟩)]] 124)) := (Below.refl _ _).alloc (Nat.le_refl _) _
  have HMR2 := Lib.hid ((hal.block M (Array.getElem?_eq_some_iff.1 (HMw3.out)).1).trans (HMw3.out))
  have HBR2 := Lib.hid (HBw3.out.trans (hal.mono HBw3.out.size))
  have HXw3 := Lib.hid (HXw3.out.below hal)
  have HPR2 := Lib.hid (pts_row (ps := [67]) (World.alloc_heap_new w3 (.cells #[.func (.func 99) #[] #[.pointer (some ⟨bw3, 0, none⟩)], .func (.func 100) #[] #[.pointer (some ⟨bw3, 0, none⟩)], .func (.func 101) #[] #[.pointer (some ⟨bw3, 0, none⟩)]] 124)) (fun j hj => by
    match j, hj with
    | 0, _ => exact ⟨_, _, _, rfl, rfl, rfl, .inl ⟨by decide, bw3, rfl, HXw3.out⟩⟩
    | n + 1, hj => exact absurd hj (by simp)))
  have HKR2 := Lib.hid (KeepM.of_below (M := M) hal)
  clear hal
  have hu2 := sh_put (w3.alloc (.cells #[.func (.func 99) #[] #[.pointer (some ⟨bw3, 0, none⟩)], .func (.func 100) #[] #[.pointer (some ⟨bw3, 0, none⟩)], .func (.func 101) #[] #[.pointer (some ⟨bw3, 0, none⟩)]] 124)) M #[⟨.int .i64 1, .agg #[.string ⟨#[111, 112, 101, 110, 101, 100]⟩, .slice (some ⟨w0.heap.size, 0, none⟩) 1 1], 0⟩, ⟨.int .i64 2, .agg #[.string ⟨#[98, 121, 116, 101, 115]⟩, .slice (some ⟨w2.heap.size, 0, none⟩) 2 2], 1⟩] 2 3 (.agg #[.string ⟨#[99, 108, 111, 115, 101, 100]⟩, .slice (some ⟨w3.heap.size, 0, none⟩) 1 1]) HMR2.out rfl
  obtain ⟨X2, hX⟩ : ∃ Z, setBlock (w3.alloc (.cells #[.func (.func 99) #[] #[.pointer (some ⟨bw3, 0, none⟩)], .func (.func 100) #[] #[.pointer (some ⟨bw3, 0, none⟩)], .func (.func 101) #[] #[.pointer (some ⟨bw3, 0, none⟩)]] 124)) M (.map (#[⟨.int .i64 1, .agg #[.string ⟨#[111, 112, 101, 110, 101, 100]⟩, .slice (some ⟨w0.heap.size, 0, none⟩) 1 1], 0⟩, ⟨.int .i64 2, .agg #[.string ⟨#[98, 121, 116, 101, 115]⟩, .slice (some ⟨w2.heap.size, 0, none⟩) 2 2], 1⟩].push ⟨.int .i64 3, .agg #[.string ⟨#[99, 108, 111, 115, 101, 100]⟩, .slice (some ⟨w3.heap.size, 0, none⟩) 1 1], 2⟩) (2 + 1)) = Z := ⟨_, rfl⟩
  rw [hX] at hu2
  have HMX2 := Lib.hid (show X2.heap[M]? = some (.map #[⟨.int .i64 1, .agg #[.string ⟨#[111, 112, 101, 110, 101, 100]⟩, .slice (some ⟨w0.heap.size, 0, none⟩) 1 1], 0⟩, ⟨.int .i64 2, .agg #[.string ⟨#[98, 121, 116, 101, 115]⟩, .slice (some ⟨w2.heap.size, 0, none⟩) 2 2], 1⟩, ⟨.int .i64 3, .agg #[.string ⟨#[99, 108, 111, 115, 101, 100]⟩, .slice (some ⟨w3.heap.size, 0, none⟩) 1 1], 2⟩] 3) by rw [← hX]; exact setBlock_atS HMR2.out)
  have HKX2 := Lib.hid (show KeepM M (w3.alloc (.cells #[.func (.func 99) #[] #[.pointer (some ⟨bw3, 0, none⟩)], .func (.func 100) #[] #[.pointer (some ⟨bw3, 0, none⟩)], .func (.func 101) #[] #[.pointer (some ⟨bw3, 0, none⟩)]] 124)) X2 by rw [← hX]; exact KeepM.set _ _)
  have HBX2 := Lib.hid (show Below w.heap.size w X2 by rw [← hX]; exact HBR2.out.trans (setBlock_belowS _ _ _ _ (Nat.le_of_eq HHM.out)))
  clear hX
  have HPX2 := Lib.hid (HPR2.out.keep HMR2.out HKX2.out)
  go_wp2_with fail
  refine (Ktopic.out _).mono ?_
  rintro e w4 ⟨rfl, hb⟩
  have HMw4 := Lib.hid ((hb.block M (Array.getElem?_eq_some_iff.1 (HMX2.out)).1).trans (HMX2.out))
  have HBw4 := Lib.hid (HBX2.out.trans (hb.mono HBX2.out.size))
  have HKw4 := Lib.hid (KeepM.of_below (M := M) hb)
  clear hb
  unfold topV
  have hal : Below w4.heap.size w4 (w4.alloc (.cells #[.func (.func 87) #[] #[], .func (.func 89) #[] #[], .func (.func 90) #[] #[]] 124)) := (Below.refl _ _).alloc (Nat.le_refl _) _
  have HMR3 := Lib.hid ((hal.block M (Array.getElem?_eq_some_iff.1 (HMw4.out)).1).trans (HMw4.out))
  have HBR3 := Lib.hid (HBw4.out.trans (hal.mono HBw4.out.size))
  have HPR3 := Lib.hid (pts_row (ps := [84]) (World.alloc_heap_new w4 (.cells #[.func (.func 87) #[] #[], .func (.func 89) #[] #[], .func (.func 90) #[] #[]] 124)) (fun j hj => by
    match j, hj with
    | 0, _ => exact ⟨_, _, _, rfl, rfl, rfl, .inr (.inl ⟨rfl, rfl⟩)⟩
    | n + 1, hj => exact absurd hj (by simp)))
  have HKR3 := Lib.hid (KeepM.of_below (M := M) hal)
  clear hal
  have hu3 := sh_put (w4.alloc (.cells #[.func (.func 87) #[] #[], .func (.func 89) #[] #[], .func (.func 90) #[] #[]] 124)) M #[⟨.int .i64 1, .agg #[.string ⟨#[111, 112, 101, 110, 101, 100]⟩, .slice (some ⟨w0.heap.size, 0, none⟩) 1 1], 0⟩, ⟨.int .i64 2, .agg #[.string ⟨#[98, 121, 116, 101, 115]⟩, .slice (some ⟨w2.heap.size, 0, none⟩) 2 2], 1⟩, ⟨.int .i64 3, .agg #[.string ⟨#[99, 108, 111, 115, 101, 100]⟩, .slice (some ⟨w3.heap.size, 0, none⟩) 1 1], 2⟩] 3 4 (.agg #[.string ⟨#[99, 111, 110, 110, 101, 99, 116]⟩, .slice (some ⟨w4.heap.size, 0, none⟩) 1 1]) HMR3.out rfl
  obtain ⟨X3, hX⟩ : ∃ Z, setBlock (w4.alloc (.cells #[.func (.func 87) #[] #[], .func (.func 89) #[] #[], .func (.func 90) #[] #[]] 124)) M (.map (#[⟨.int .i64 1, .agg #[.string ⟨#[111, 112, 101, 110, 101, 100]⟩, .slice (some ⟨w0.heap.size, 0, none⟩) 1 1], 0⟩, ⟨.int .i64 2, .agg #[.string ⟨#[98, 121, 116, 101, 115]⟩, .slice (some ⟨w2.heap.size, 0, none⟩) 2 2], 1⟩, ⟨.int .i64 3, .agg #[.string ⟨#[99, 108, 111, 115, 101, 100]⟩, .slice (some ⟨w3.heap.size, 0, none⟩) 1 1], 2⟩].push ⟨.int .i64 4, .agg #[.string ⟨#[99, 111, 110, 110, 101, 99, 116]⟩, .slice (some ⟨w4.heap.size, 0, none⟩) 1 1], 3⟩) (3 + 1)) = Z := ⟨_, rfl⟩
  rw [hX] at hu3
  have HMX3 := Lib.hid (show X3.heap[M]? = some (.map #[⟨.int .i64 1, .agg #[.string ⟨#[111, 112, 101, 110, 101, 100]⟩, .slice (some ⟨w0.heap.size, 0, none⟩) 1 1], 0⟩, ⟨.int .i64 2, .agg #[.string ⟨#[98, 121, 116, 101, 115]⟩, .slice (some ⟨w2.heap.size, 0, none⟩) 2 2], 1⟩, ⟨.int .i64 3, .agg #[.string ⟨#[99, 108, 111, 115, 101, 100]⟩, .slice (some ⟨w3.heap.size, 0, none⟩) 1 1], 2⟩, ⟨.int .i64 4, .agg #[.string ⟨#[99, 111, 110, 110, 101, 99, 116]⟩, .slice (some ⟨w4.heap.size, 0, none⟩) 1 1], 3⟩] 4) by rw [← hX]; exact setBlock_atS HMR3.out)
  have HKX3 := Lib.hid (show KeepM M (w4.alloc (.cells #[.func (.func 87) #[] #[], .func (.func 89) #[] #[], .func (.func 90) #[] #[]] 124)) X3 by rw [← hX]; exact KeepM.set _ _)
  have HBX3 := Lib.hid (show Below w.heap.size w X3 by rw [← hX]; exact HBR3.out.trans (setBlock_belowS _ _ _ _ (Nat.le_of_eq HHM.out)))
  clear hX
  have HPX3 := Lib.hid (HPR3.out.keep HMR3.out HKX3.out)
  go_wp2_with fail
  refine (Ktopic.out _).mono ?_
  rintro e w5 ⟨rfl, hb⟩
  have HMw5 := Lib.hid ((hb.block M (Array.getElem?_eq_some_iff.1 (HMX3.out)).1).trans (HMX3.out))
  have HBw5 := Lib.hid (HBX3.out.trans (hb.mono HBX3.out.size))
  have HKw5 := Lib.hid (KeepM.of_below (M := M) hb)
  clear hb
  unfold topV
  go_wp2_with fail
  refine (Kbytes.out _).mono ?_
  rintro e w6 ⟨rfl, hb⟩
  have HMw6 := Lib.hid ((hb.block M (Array.getElem?_eq_some_iff.1 (HMw5.out)).1).trans (HMw5.out))
  have HBw6 := Lib.hid (HBw5.out.trans (hb.mono HBw5.out.size))
  have HKw6 := Lib.hid (KeepM.of_below (M := M) hb)
  clear hb
  unfold bytV
  have hal : Below w6.heap.size w6 (w6.alloc (.cells #[.func (.func 87) #[] #[], .func (.func 89) #[] #[], .func (.func 90) #[] #[], .func (.func 81) #[] #[], .func (.func 83) #[] #[], .func (.func 84) #[] #[]] 124)) := (Below.refl _ _).alloc (Nat.le_refl _) _
  have HMR4 := Lib.hid ((hal.block M (Array.getElem?_eq_some_iff.1 (HMw6.out)).1).trans (HMw6.out))
  have HBR4 := Lib.hid (HBw6.out.trans (hal.mono HBw6.out.size))
  have HPR4 := Lib.hid (pts_row (ps := [84, 66]) (World.alloc_heap_new w6 (.cells #[.func (.func 87) #[] #[], .func (.func 89) #[] #[], .func (.func 90) #[] #[], .func (.func 81) #[] #[], .func (.func 83) #[] #[], .func (.func 84) #[] #[]] 124)) (fun j hj => by
    match j, hj with
    | 0, _ => exact ⟨_, _, _, rfl, rfl, rfl, .inr (.inl ⟨rfl, rfl⟩)⟩
    | 1, _ => exact ⟨_, _, _, rfl, rfl, rfl, .inr (.inr ⟨rfl, rfl⟩)⟩
    | n + 2, hj => exact absurd hj (by simp)))
  have HKR4 := Lib.hid (KeepM.of_below (M := M) hal)
  clear hal
  have hu4 := sh_put (w6.alloc (.cells #[.func (.func 87) #[] #[], .func (.func 89) #[] #[], .func (.func 90) #[] #[], .func (.func 81) #[] #[], .func (.func 83) #[] #[], .func (.func 84) #[] #[]] 124)) M #[⟨.int .i64 1, .agg #[.string ⟨#[111, 112, 101, 110, 101, 100]⟩, .slice (some ⟨w0.heap.size, 0, none⟩) 1 1], 0⟩, ⟨.int .i64 2, .agg #[.string ⟨#[98, 121, 116, 101, 115]⟩, .slice (some ⟨w2.heap.size, 0, none⟩) 2 2], 1⟩, ⟨.int .i64 3, .agg #[.string ⟨#[99, 108, 111, 115, 101, 100]⟩, .slice (some ⟨w3.heap.size, 0, none⟩) 1 1], 2⟩, ⟨.int .i64 4, .agg #[.string ⟨#[99, 111, 110, 110, 101, 99, 116]⟩, .slice (some ⟨w4.heap.size, 0, none⟩) 1 1], 3⟩] 4 5 (.agg #[.string ⟨#[97, 115, 107]⟩, .slice (some ⟨w6.heap.size, 0, none⟩) 2 2]) HMR4.out rfl
  obtain ⟨X4, hX⟩ : ∃ Z, setBlock (w6.alloc (.cells #[.func (.func 87) #[] #[], .func (.func 89) #[] #[], .func (.func 90) #[] #[], .func (.func 81) #[] #[], .func (.func 83) #[] #[], .func (.func 84) #[] #[]] 124)) M (.map (#[⟨.int .i64 1, .agg #[.string ⟨#[111, 112, 101, 110, 101, 100]⟩, .slice (some ⟨w0.heap.size, 0, none⟩) 1 1], 0⟩, ⟨.int .i64 2, .agg #[.string ⟨#[98, 121, 116, 101, 115]⟩, .slice (some ⟨w2.heap.size, 0, none⟩) 2 2], 1⟩, ⟨.int .i64 3, .agg #[.string ⟨#[99, 108, 111, 115, 101, 100]⟩, .slice (some ⟨w3.heap.size, 0, none⟩) 1 1], 2⟩, ⟨.int .i64 4, .agg #[.string ⟨#[99, 111, 110, 110, 101, 99, 116]⟩, .slice (some ⟨w4.heap.size, 0, none⟩) 1 1], 3⟩].push ⟨.int .i64 5, .agg #[.string ⟨#[97, 115, 107]⟩, .slice (some ⟨w6.heap.size, 0, none⟩) 2 2], 4⟩) (4 + 1)) = Z := ⟨_, rfl⟩
  rw [hX] at hu4
  have HMX4 := Lib.hid (show X4.heap[M]? = some (.map #[⟨.int .i64 1, .agg #[.string ⟨#[111, 112, 101, 110, 101, 100]⟩, .slice (some ⟨w0.heap.size, 0, none⟩) 1 1], 0⟩, ⟨.int .i64 2, .agg #[.string ⟨#[98, 121, 116, 101, 115]⟩, .slice (some ⟨w2.heap.size, 0, none⟩) 2 2], 1⟩, ⟨.int .i64 3, .agg #[.string ⟨#[99, 108, 111, 115, 101, 100]⟩, .slice (some ⟨w3.heap.size, 0, none⟩) 1 1], 2⟩, ⟨.int .i64 4, .agg #[.string ⟨#[99, 111, 110, 110, 101, 99, 116]⟩, .slice (some ⟨w4.heap.size, 0, none⟩) 1 1], 3⟩, ⟨.int .i64 5, .agg #[.string ⟨#[97, 115, 107]⟩, .slice (some ⟨w6.heap.size, 0, none⟩) 2 2], 4⟩] 5) by rw [← hX]; exact setBlock_atS HMR4.out)
  have HKX4 := Lib.hid (show KeepM M (w6.alloc (.cells #[.func (.func 87) #[] #[], .func (.func 89) #[] #[], .func (.func 90) #[] #[], .func (.func 81) #[] #[], .func (.func 83) #[] #[], .func (.func 84) #[] #[]] 124)) X4 by rw [← hX]; exact KeepM.set _ _)
  have HBX4 := Lib.hid (show Below w.heap.size w X4 by rw [← hX]; exact HBR4.out.trans (setBlock_belowS _ _ _ _ (Nat.le_of_eq HHM.out)))
  clear hX
  have HPX4 := Lib.hid (HPR4.out.keep HMR4.out HKX4.out)
  go_wp2_with fail
  refine (Ktopic.out _).mono ?_
  rintro e w7 ⟨rfl, hb⟩
  have HMw7 := Lib.hid ((hb.block M (Array.getElem?_eq_some_iff.1 (HMX4.out)).1).trans (HMX4.out))
  have HBw7 := Lib.hid (HBX4.out.trans (hb.mono HBX4.out.size))
  have HKw7 := Lib.hid (KeepM.of_below (M := M) hb)
  clear hb
  unfold topV
  have hal : Below w7.heap.size w7 (w7.alloc (.cells #[.func (.func 87) #[] #[], .func (.func 89) #[] #[], .func (.func 90) #[] #[]] 124)) := (Below.refl _ _).alloc (Nat.le_refl _) _
  have HMR5 := Lib.hid ((hal.block M (Array.getElem?_eq_some_iff.1 (HMw7.out)).1).trans (HMw7.out))
  have HBR5 := Lib.hid (HBw7.out.trans (hal.mono HBw7.out.size))
  have HPR5 := Lib.hid (pts_row (ps := [84]) (World.alloc_heap_new w7 (.cells #[.func (.func 87) #[] #[], .func (.func 89) #[] #[], .func (.func 90) #[] #[]] 124)) (fun j hj => by
    match j, hj with
    | 0, _ => exact ⟨_, _, _, rfl, rfl, rfl, .inr (.inl ⟨rfl, rfl⟩)⟩
    | n + 1, hj => exact absurd hj (by simp)))
  have HKR5 := Lib.hid (KeepM.of_below (M := M) hal)
  clear hal
  have hu5 := sh_put (w7.alloc (.cells #[.func (.func 87) #[] #[], .func (.func 89) #[] #[], .func (.func 90) #[] #[]] 124)) M #[⟨.int .i64 1, .agg #[.string ⟨#[111, 112, 101, 110, 101, 100]⟩, .slice (some ⟨w0.heap.size, 0, none⟩) 1 1], 0⟩, ⟨.int .i64 2, .agg #[.string ⟨#[98, 121, 116, 101, 115]⟩, .slice (some ⟨w2.heap.size, 0, none⟩) 2 2], 1⟩, ⟨.int .i64 3, .agg #[.string ⟨#[99, 108, 111, 115, 101, 100]⟩, .slice (some ⟨w3.heap.size, 0, none⟩) 1 1], 2⟩, ⟨.int .i64 4, .agg #[.string ⟨#[99, 111, 110, 110, 101, 99, 116]⟩, .slice (some ⟨w4.heap.size, 0, none⟩) 1 1], 3⟩, ⟨.int .i64 5, .agg #[.string ⟨#[97, 115, 107]⟩, .slice (some ⟨w6.heap.size, 0, none⟩) 2 2], 4⟩] 5 6 (.agg #[.string ⟨#[100, 114, 111, 112]⟩, .slice (some ⟨w7.heap.size, 0, none⟩) 1 1]) HMR5.out rfl
  obtain ⟨X5, hX⟩ : ∃ Z, setBlock (w7.alloc (.cells #[.func (.func 87) #[] #[], .func (.func 89) #[] #[], .func (.func 90) #[] #[]] 124)) M (.map (#[⟨.int .i64 1, .agg #[.string ⟨#[111, 112, 101, 110, 101, 100]⟩, .slice (some ⟨w0.heap.size, 0, none⟩) 1 1], 0⟩, ⟨.int .i64 2, .agg #[.string ⟨#[98, 121, 116, 101, 115]⟩, .slice (some ⟨w2.heap.size, 0, none⟩) 2 2], 1⟩, ⟨.int .i64 3, .agg #[.string ⟨#[99, 108, 111, 115, 101, 100]⟩, .slice (some ⟨w3.heap.size, 0, none⟩) 1 1], 2⟩, ⟨.int .i64 4, .agg #[.string ⟨#[99, 111, 110, 110, 101, 99, 116]⟩, .slice (some ⟨w4.heap.size, 0, none⟩) 1 1], 3⟩, ⟨.int .i64 5, .agg #[.string ⟨#[97, 115, 107]⟩, .slice (some ⟨w6.heap.size, 0, none⟩) 2 2], 4⟩].push ⟨.int .i64 6, .agg #[.string ⟨#[100, 114, 111, 112]⟩, .slice (some ⟨w7.heap.size, 0, none⟩) 1 1], 5⟩) (5 + 1)) = Z := ⟨_, rfl⟩
  rw [hX] at hu5
  have HMX5 := Lib.hid (show X5.heap[M]? = some (.map #[⟨.int .i64 1, .agg #[.string ⟨#[111, 112, 101, 110, 101, 100]⟩, .slice (some ⟨w0.heap.size, 0, none⟩) 1 1], 0⟩, ⟨.int .i64 2, .agg #[.string ⟨#[98, 121, 116, 101, 115]⟩, .slice (some ⟨w2.heap.size, 0, none⟩) 2 2], 1⟩, ⟨.int .i64 3, .agg #[.string ⟨#[99, 108, 111, 115, 101, 100]⟩, .slice (some ⟨w3.heap.size, 0, none⟩) 1 1], 2⟩, ⟨.int .i64 4, .agg #[.string ⟨#[99, 111, 110, 110, 101, 99, 116]⟩, .slice (some ⟨w4.heap.size, 0, none⟩) 1 1], 3⟩, ⟨.int .i64 5, .agg #[.string ⟨#[97, 115, 107]⟩, .slice (some ⟨w6.heap.size, 0, none⟩) 2 2], 4⟩, ⟨.int .i64 6, .agg #[.string ⟨#[100, 114, 111, 112]⟩, .slice (some ⟨w7.heap.size, 0, none⟩) 1 1], 5⟩] 6) by rw [← hX]; exact setBlock_atS HMR5.out)
  have HKX5 := Lib.hid (show KeepM M (w7.alloc (.cells #[.func (.func 87) #[] #[], .func (.func 89) #[] #[], .func (.func 90) #[] #[]] 124)) X5 by rw [← hX]; exact KeepM.set _ _)
  have HBX5 := Lib.hid (show Below w.heap.size w X5 by rw [← hX]; exact HBR5.out.trans (setBlock_belowS _ _ _ _ (Nat.le_of_eq HHM.out)))
  clear hX
  have HPX5 := Lib.hid (HPR5.out.keep HMR5.out HKX5.out)
  go_wp2_with fail
  go_ret
  have KEX5 := KeepM.refl M X5
  have KER5 := KeepM.trans (HKX5.out) KEX5
  have KEw7 := KeepM.trans (HKR5.out) KER5
  have KEX4 := KeepM.trans (HKw7.out) KEw7
  have KER4 := KeepM.trans (HKX4.out) KEX4
  have KEw6 := KeepM.trans (HKR4.out) KER4
  have KEw5 := KeepM.trans (HKw6.out) KEw6
  have KEX3 := KeepM.trans (HKw5.out) KEw5
  have KER3 := KeepM.trans (HKX3.out) KEX3
  have KEw4 := KeepM.trans (HKR3.out) KER3
  have KEX2 := KeepM.trans (HKw4.out) KEw4
  have KER2 := KeepM.trans (HKX2.out) KEX2
  have KEw3 := KeepM.trans (HKR2.out) KER2
  have KEX1 := KeepM.trans (HKw3.out) KEw3
  have KER1 := KeepM.trans (HKX1.out) KEX1
  have KEw2 := KeepM.trans (HKR1.out) KER1
  have KEw1 := KeepM.trans (HKw2.out) KEw2
  have KEX0 := KeepM.trans (HKw1.out) KEw1
  have KER0 := KeepM.trans (HKX0.out) KEX0
  have KEw0 := KeepM.trans (HKR0.out) KER0
  have KEW0 := KeepM.trans (HKw0.out) KEw0
  refine ⟨M, rfl, ⟨[.slice (some ⟨w0.heap.size, 0, none⟩) 1 1, .slice (some ⟨w2.heap.size, 0, none⟩) 2 2, .slice (some ⟨w3.heap.size, 0, none⟩) 1 1, .slice (some ⟨w4.heap.size, 0, none⟩) 1 1, .slice (some ⟨w6.heap.size, 0, none⟩) 2 2, .slice (some ⟨w7.heap.size, 0, none⟩) 1 1], rfl, HMX5.out, fun i hi => ?_⟩, HBX5.out⟩
  match i, hi with
  | 0, _ => exact HPX0.out.keep HMX0.out KEX0
  | 1, _ => exact HPX1.out.keep HMX1.out KEX1
  | 2, _ => exact HPX2.out.keep HMX2.out KEX2
  | 3, _ => exact HPX3.out.keep HMX3.out KEX3
  | 4, _ => exact HPX4.out.keep HMX4.out KEX4
  | 5, _ => exact HPX5.out.keep HMX5.out KEX5
  | n + 6, hi => exact absurd hi (by simp [Sc.outT])
end Go.Proofs.YtbaakfcbakpmpaaGreatDoor

/- script: what parts tell, one behind the other. No conditions but those that each law states. -/
namespace Go.Proofs.YtbaakfcbakpmpaaGreatDoor
set_option linter.unusedVariables false
set_option linter.unusedSimpArgs false
open Go.RowKit Go.Shelf
set_option maxHeartbeats 8000000
set_option maxRecDepth 100000
theorem sc_line1 (S : Nat) (x : Sc.St) (u v : Value) (p : UInt8) (w : World) (hp : PartAt w v p) (hS : w.heap[S]? = some (stObj x u)) (hu : BR w u x.bytes) (hl : x.bytes.length ≤ 100000) (hx : x.fine) (ht : Tabs w) :
    Calls Tryz.prog 63 #[v, .pointer (some ⟨S, 0, none⟩)] w fun e w' => e = .returned (.string ⟨(Sc.tell x p).toArray⟩) ∧ Below w.heap.size w w' := by
  obtain ⟨f1, f2, f3, cap, rfl, _⟩ := hp.ok
  obtain ⟨W1, hW1⟩ : ∃ z, w.alloc (.cells #[.func (.func f1) #[] cap, .func (.func f2) #[] cap, .func (.func f3) #[] cap] 124) = z := ⟨_, rfl⟩
  obtain ⟨R, hR⟩ : ∃ z, w.heap.size = z := ⟨_, rfl⟩
  have hb1 : Below w.heap.size w W1 := by rw [← hW1]; exact (Below.refl _ _).alloc (Nat.le_refl _) _
  have hR1 : W1.heap[R]? = some (.cells #[.func (.func f1) #[] cap, .func (.func f2) #[] cap, .func (.func f3) #[] cap] 124 (0, 0)) := by rw [← hW1, ← hR]; exact World.alloc_heap_new _ _
  have c0 : W1.cell? ⟨R, 0, none⟩ = some (.func (.func f1) #[] cap) := by simp [World.cell?, hR1]
  have hS1 := (hb1.block _ (Array.getElem?_eq_some_iff.1 hS).1).trans hS
  obtain ⟨g1, g2, g3, cap2, he, hok⟩ := (hp.below hb1).ok
  obtain ⟨rfl, rfl, rfl, rfl⟩ : f1 = g1 ∧ f2 = g2 ∧ f3 = g3 ∧ cap = cap2 := by simp at he; exact ⟨he.1.1, he.2.1.1, he.2.2.1, he.1.2⟩
  have K := Lib.hid (hok.tell x u (hu.below hb1) hl hx (ht.below hb1))
  have heg := hok.e1
  unfold EntersF at heg
  have hsr := SR.of hS1
  obtain ⟨s0, s1, s2, s3, s4, s5, _⟩ := hsr
  have HB := Lib.hid hb1
  have HW := Lib.hid hW1
  have HR := Lib.hid hR
  clear hb1 hW1 hR hR1 hS1 hS hp hok he hu ht hx hl
  unfold stVal at K
  go_enter Tryz.func63, Tryz.ntmps63
  go_upto_region 1 with (fail)
  rw [HR.out, HW.out]
  go_wp2_with fail
  refine K.out.mono ?_
  rintro e w2 ⟨rfl, hb2⟩
  have HB2 := Lib.hid (HB.out.trans (hb2.mono HB.out.size))
  clear hb2
  go_wp2_with fail
  go_ret
  exact ⟨rfl, HB2.out⟩
theorem digs_short (n : Nat) (h : n < 18446744073709551616) : (Dp.digs 10 n).length ≤ 20 := Dp.digs_length_le (b := 10) (by omega) 20 n (by omega) (by omega)
theorem tell_len {x : Sc.St} (p : UInt8) (hl : x.bytes.length ≤ 100000) (hx : x.fine) : (Sc.tell x p).length ≤ 300001 := by
  obtain ⟨⟨x1, x2, x3⟩, x4⟩ := hx
  have h1 := digs_short x.n x2
  have h2 := digs_short x.draw x3
  have h3 := digs_short x.conn x1
  have h4 := digs_short x.topic.toNat (by omega)
  have h5 := (Gt.enc_length x.bytes).2
  unfold Sc.tell
  split
  · omega
  · split
    · omega
    · split
      · omega
      · split
        · omega
        · simp; omega
theorem told_take (x : Sc.St) (ps : List UInt8) (k : Nat) (hk : k < ps.length) : Sc.told (ps.take (k + 1)) x = Sc.told (ps.take k) x ++ (32 :: Sc.tell x (ps.getD k 0)) := by
  unfold Sc.told
  rw [List.take_succ_eq_append_getElem hk, List.flatMap_append, List.getD_eq_getElem?_getD, List.getElem?_eq_getElem hk]
  simp
theorem told_len (x : Sc.St) (hl : x.bytes.length ≤ 100000) (hx : x.fine) : ∀ ps : List UInt8, (Sc.told ps x).length ≤ ps.length * 300002
  | [] => by simp [Sc.told]
  | p :: ps => by
    have h1 := told_len x hl hx ps
    have h2 := tell_len p hl hx
    unfold Sc.told at h1 ⊢
    rw [List.flatMap_cons, List.length_append]
    simp only [List.length_cons]
    omega
theorem str_cells (l : List UInt8) (s : ByteArray) (h : s.data.toList = l) : Lib.strCells s = Lib.byteCells l := by
  rw [← h]; rfl
theorem sc_told (S : Nat) (x : Sc.St) (u pv : Value) (ps : List UInt8) (w : World) (hp : PtsAt w pv ps) (hn : ps.length ≤ 3) (hS : w.heap[S]? = some (stObj x u)) (hu : BR w u x.bytes) (hl : x.bytes.length ≤ 100000) (hx : x.fine) (ht : Tabs w) :
    Calls Tryz.prog 62 #[.func (.func 63) #[] #[.pointer (some ⟨S, 0, none⟩)], pv] w fun e w' => e = .returned (.string ⟨(Sc.told ps x).toArray⟩) ∧ Below w.heap.size w w' := by
  obtain ⟨n, hnn⟩ : ∃ n, ps.length = n := ⟨_, rfl⟩
  obtain ⟨q, c, rfl⟩ : ∃ q c, pv = .slice q n c := by
    rcases hp with ⟨h1, h2⟩ | ⟨g, h1, _⟩
    · subst h2; simp at hnn; subst hnn; exact ⟨_, _, h1⟩
    · rw [hnn] at h1; exact ⟨_, _, h1⟩
  obtain ⟨W3, hW3⟩ : ∃ W, w.alloc (.cells #[.pointer none, .slice none 0 0] 104) = W := ⟨_, rfl⟩
  have HS3 := Lib.hid (show W3.heap.size = w.heap.size + 1 by rw [← hW3]; simp)
  have HB3 := Lib.hid (show Below w.heap.size w W3 by rw [← hW3]; exact (Below.refl _ _).alloc (Nat.le_refl _) _)
  have HD3 := Lib.hid (show W3.heap[w.heap.size]? = some (.cells #[.pointer none, .slice none 0 0] 104 (0, 0)) by rw [← hW3]; exact World.alloc_heap_new _ _)
  have HW3 := Lib.hid hW3
  have HP := Lib.hid hp
  have HN := Lib.hid hnn
  have HLN := Lib.hid (told_len x hl hx)
  have HTL := Lib.hid (fun p => tell_len (x := x) p hl hx)
  have KL := Lib.hid (fun (v : Value) (p : UInt8) (W : World) (h : PartAt W v p) (hb : Below w.heap.size w W) => sc_line1 S x u v p W h ((hb.block _ (Array.getElem?_eq_some_iff.1 hS).1).trans hS) (hu.below hb) hl hx (ht.below hb))
  have hn3 : n ≤ 3 := by omega
  clear hW3 hp hS hu hl hx ht hnn hn
  have heg : ∀ args W, (callFunc 63 args).run Tryz.prog W = .ok (.enter 63 args) W := enters_of Tryz.func63 (by kernel_rfl) rfl
  go_enter Tryz.func62, Tryz.ntmps62
  go_wp2_with fail
  rw [HW3.out]
  obtain ⟨D, hD⟩ : ∃ z, w.heap.size = z := ⟨_, rfl⟩
  have HDD := Lib.hid hD
  rw [hD] at HD3 HS3 ⊢
  clear hD
  go_loopw [10] (fun i wr => ∃ (k : Nat) (p : Value), k ≤ n ∧ i = .int .i64 k ∧ BD wr D (D + 1) p (Lib.byteCells (Sc.told (ps.take k) x)) ∧ (p = .pointer none ∨ p = .pointer (some ⟨D, 0, none⟩)) ∧ Below w.heap.size w wr ∧ D + 1 ≤ wr.heap.size) (fun i _ => n - (intOf i).toNat)
  case atStart => exact ⟨0, .pointer none, Nat.zero_le _, rfl, ⟨_, HD3.out, World.ownsRow_nil _ _ _ _⟩, .inl rfl, HB3.out, by rw [HS3.out]; exact Nat.le_refl _⟩
  case round =>
    obtain ⟨k, p, hk, rfl, hbd, hpp, hbl, hsz⟩ := hrel
    have HBD := Lib.hid hbd
    have HPP := Lib.hid hpp
    have HBL := Lib.hid hbl
    have HSZ := Lib.hid hsz
    clear hbd hpp hbl hsz HB3 HD3 HS3
    by_cases hlt : k < n
    · have hpk := HP.out.below HBL.out
      obtain ⟨g, rfl, hrow⟩ : ∃ g, q = some ⟨g, 0, none⟩ ∧ ∀ j, j < ps.length → ∃ a b c, wr.cell? ⟨g, j * 3, none⟩ = some a ∧ wr.cell? ⟨g, j * 3 + 1, none⟩ = some b ∧ wr.cell? ⟨g, j * 3 + 2, none⟩ = some c ∧ PartAt wr (.agg #[a, b, c]) (ps.getD j 0) := by
        rcases hpk with ⟨h1, h2⟩ | ⟨g, h1, h2⟩
        · exfalso
          have := HN.out
          rw [h2] at this
          simp at this
          omega
        · simp only [Value.slice.injEq] at h1
          exact ⟨g, h1.1, h2⟩
      obtain ⟨a1, a2, a3, k1, k2, k3, hpa⟩ := hrow k (by rw [HN.out]; exact hlt)
      have HTK := Lib.hid (told_take x ps k (by rw [HN.out]; exact hlt))
      obtain ⟨pc, hpc⟩ : ∃ z, ps.getD k 0 = z := ⟨_, rfl⟩
      rw [hpc] at hpa HTK
      obtain ⟨f1, f2, f3, cap, he, _⟩ := hpa.ok
      obtain ⟨rfl, rfl, rfl⟩ : a1 = .func (.func f1) #[] cap ∧ a2 = .func (.func f2) #[] cap ∧ a3 = .func (.func f3) #[] cap := by simpa using he
      clear he
      have HLK := Lib.hid (show (Sc.told (ps.take k) x).length ≤ 900006 from Nat.le_trans (HLN.out _) (by rw [List.length_take]; have h3 : min k ps.length ≤ 3 := (by have := HN.out; omega); omega))
      have hkl := HTL.out pc
      obtain ⟨W4, hW4⟩ : ∃ z, wr.alloc (.cells #[.func (.func f1) #[] cap, .func (.func f2) #[] cap, .func (.func f3) #[] cap] 124) = z := ⟨_, rfl⟩
      obtain ⟨R, hR⟩ : ∃ z, wr.heap.size = z := ⟨_, rfl⟩
      have hb4 : Below wr.heap.size wr W4 := by rw [← hW4]; exact (Below.refl _ _).alloc (Nat.le_refl _) _
      have hR4 : W4.heap[R]? = some (.cells #[.func (.func f1) #[] cap, .func (.func f2) #[] cap, .func (.func f3) #[] cap] 124 (0, 0)) := by rw [← hW4, ← hR]; exact World.alloc_heap_new _ _
      have r0 : W4.cell? ⟨R, 0, none⟩ = some (.func (.func f1) #[] cap) := by simp [World.cell?, hR4]
      have r1 : W4.cell? ⟨R, 1, none⟩ = some (.func (.func f2) #[] cap) := by simp [World.cell?, hR4]
      have r2 : W4.cell? ⟨R, 2, none⟩ = some (.func (.func f3) #[] cap) := by simp [World.cell?, hR4]
      have HB4 := Lib.hid (HBL.out.trans (hb4.mono HBL.out.size))
      have HC4 := Lib.hid hb4
      have K1 := Lib.hid (KL.out (.agg #[.func (.func f1) #[] cap, .func (.func f2) #[] cap, .func (.func f3) #[] cap]) pc W4 (hpa.below hb4) HB4.out)
      obtain ⟨tb, htb⟩ : ∃ z : ByteArray, (⟨(Sc.tell x pc).toArray⟩ : ByteArray) = z := ⟨_, rfl⟩
      have HTB := Lib.hid (show tb.data.toList = Sc.tell x pc by rw [← htb])
      have htbs : tb.size ≤ 300001 := by rw [← htb]; exact hkl
      rw [htb] at K1
      have HSC := Lib.hid (show Lib.strCells ((⟨#[32]⟩ : ByteArray) ++ tb) = Lib.byteCells (32 :: Sc.tell x pc) from str_cells _ _ (by rw [← HTB.out]; simp))
      have hjs : ((⟨#[32]⟩ : ByteArray) ++ tb).size ≤ 1000000 := by rw [ByteArray.size_append]; have : (⟨#[32]⟩ : ByteArray).size = 1 := rfl; omega
      have HJS := Lib.hid hjs
      have HW4 := Lib.hid hW4
      have HR := Lib.hid hR
      clear hrow hpk hpa hpc hb4 hR4 hW4 hR htb hkl hjs
      go_upto_region 5 with (fail)
      rw [HR.out, HW4.out]
      go_wp2_with fail
      refine K1.out.mono ?_
      rintro e w5 ⟨rfl, hb5⟩
      have HC5 := Lib.hid (HC4.out.trans (hb5.mono HC4.out.size))
      have HB5 := Lib.hid (HB4.out.trans (hb5.mono HB4.out.size))
      clear hb5
      have HBD5 := Lib.hid (HBD.out.keep HC5.out (by have := HSZ.out; omega))
      have HSZ5 := Lib.hid (Nat.le_trans HSZ.out HC5.out.size)
      have HKS := Lib.hid (builder_text D (D + 1) p (Lib.byteCells (Sc.told (ps.take k) x)) ((⟨#[32]⟩ : ByteArray) ++ tb) w5 HPP.out HBD5.out (by omega) HSZ5.out (by rw [Lib.byteCells_length]; have := HLK.out; omega) HJS.out)
      go_wp2_with fail
      refine HKS.out.mono ?_
      rintro e w6 ⟨rfl, hbd6, hfr⟩
      have HBD6 := Lib.hid (show BD w6 D (D + 1) (.pointer (some ⟨D, 0, none⟩)) (Lib.byteCells (Sc.told (ps.take (k + 1)) x)) by rw [HTK.out, bytes_app, ← HSC.out]; exact hbd6)
      have HBL6 := Lib.hid (HB5.out.trans (hfr.below (by rw [HDD.out]; exact Nat.le_refl _) (by rw [HDD.out]; omega)))
      have HSZ6 := Lib.hid (Nat.le_trans HSZ5.out hfr.size)
      clear hbd6 hfr HKS
      go_wp2
      go_roundw
      case rel => exact ⟨k + 1, _, hlt, by go_num, HBD6.out, .inr rfl, HBL6.out, HSZ6.out⟩
      case measure => simp [intOf]; omega
    · have HTK := Lib.hid (show ps.take k = ps from List.take_of_length_le (by rw [HN.out]; omega))
      have K := Lib.hid (builder_string D (D + 1) p (Sc.told (ps.take k) x) wr HPP.out HBD.out (by omega) HSZ.out)
      rw [HTK.out] at K
      go_wp2_with fail
      refine K.out.mono ?_
      rintro e w2 ⟨rfl, hb2⟩
      have HB2 := Lib.hid (HBL.out.trans (hb2.mono (by rw [HDD.out]; exact Nat.le_refl _)))
      clear hb2
      go_wp2
      go_ret
      exact ⟨rfl, HB2.out⟩
end Go.Proofs.YtbaakfcbakpmpaaGreatDoor

/- script: the line of a step, or of an out as such a one. No conditions but those that each law states. -/
namespace Go.Proofs.YtbaakfcbakpmpaaGreatDoor
set_option linter.unusedVariables false
set_option linter.unusedSimpArgs false
open Go.RowKit Go.Shelf
open Go.ChangeMaps (setBlock)
set_option maxHeartbeats 8000000
set_option maxRecDepth 100000
theorem sh_find (k : Int) : ∀ (T : Sc.Shapes) (vs : List Value) (i j : Nat), vs.length = T.length →
    (∃ nm ps q, (T.find? fun e => e.1 == k) = some (k, nm, ps) ∧ q < T.length ∧ T.getD q (0, [], []) = (k, nm, ps) ∧ Instr.findNow (.int .i64) (.int .i64 k) (shEs i T vs) j = some (some (j + q, .agg #[.string ⟨nm.toArray⟩, vs.getD q undef]))) ∨
    ((T.find? fun e => e.1 == k) = none ∧ Instr.findNow (.int .i64) (.int .i64 k) (shEs i T vs) j = some none)
  | [], vs, i, j, h => .inr ⟨rfl, by match vs, h with | [], _ => rfl⟩
  | (k2, nm, ps) :: T, [], i, j, h => by simp at h
  | (k2, nm, ps) :: T, v :: vs, i, j, h => by
    have hs : Instr.sameNow (.int .i64) (.int .i64 k) (.int .i64 k2) = some (k == k2) := by first | rfl | simp [Instr.sameNow]
    by_cases hk : k2 = k
    · subst hk
      refine .inl ⟨nm, ps, 0, by simp, by simp, rfl, ?_⟩
      show (match Instr.sameNow (.int .i64) (.int .i64 k2) (.int .i64 k2) with | some true => _ | some false => _ | none => none) = _
      rw [hs]
      simp
      rfl
    · have h1 : (k2 == k) = false := by simpa using hk
      have h2 : (k == k2) = false := by simpa using Ne.symm hk
      have hstep : Instr.findNow (.int .i64) (.int .i64 k) (shEs i ((k2, nm, ps) :: T) (v :: vs)) j = Instr.findNow (.int .i64) (.int .i64 k) (shEs (i + 1) T vs) (j + 1) := by
        show (match Instr.sameNow (.int .i64) (.int .i64 k) (.int .i64 k2) with | some true => _ | some false => _ | none => none) = _
        rw [hs, h2]
      have hfs : (((k2, nm, ps) :: T).find? fun e => e.1 == k) = T.find? fun e => e.1 == k := by
        rw [List.find?_cons]
        simp only [h1]
      rw [hstep, hfs]
      rcases sh_find k T vs (i + 1) (j + 1) (by simpa using h) with ⟨nm', ps', q, a1, a2, a3, a4⟩ | h
      · refine .inl ⟨nm', ps', q + 1, a1, by simp; omega, by simpa using a3, ?_⟩
        rw [a4]
        simp
        omega
      · exact .inr h
theorem sh_look {T : Sc.Shapes} {W : World} {b : Nat} (h : ShAt W b T) (k : Int) :
    (∃ nm ps pv, Sc.shape T k = some (nm, ps) ∧ PtsAt W pv ps ∧ (Instr.lookup 85 (.map (some b)) (.int .i64 k) true).run Tryz.prog W = .ok (.tuple #[.agg #[.string ⟨nm.toArray⟩, pv], .bool true]) W) ∨
    (Sc.shape T k = none ∧ (Instr.lookup 85 (.map (some b)) (.int .i64 k) true).run Tryz.prog W = .ok (.tuple #[.agg #[.string ⟨#[]⟩, .slice none 0 0], .bool false]) W) := by
  obtain ⟨vs, h1, h2, h3⟩ := h
  have hz : (zeroValue 118).run Tryz.prog W = .ok (.agg #[.string ⟨#[]⟩, .slice none 0 0]) W := by kernel_rfl
  rcases sh_find k T vs 0 0 h1 with ⟨nm, ps, q, a1, a2, a3, a4⟩ | ⟨a1, a2⟩
  · have hp := h3 q a2
    rw [a3] at hp
    refine .inl ⟨nm, ps, _, by unfold Sc.shape; rw [a1]; rfl, hp, ?_⟩
    have hn : Instr.findNow (.int .i64) (.int .i64 k) (shEs 0 T vs).toArray.toList 0 = some (some (0 + q, .agg #[.string ⟨nm.toArray⟩, vs.getD q undef])) := by simpa using a4
    simp [Instr.lookup, run_underlying Tryz.underlying85, MapKept.run_getObj_map h2, MapKept.run_checkKey (k := .int .i64 k) Tryz.underlying3 (by simp [MapKept.IsKey]) _ 9999, MapKept.run_findKey Tryz.underlying3 hn, Result.andThen]
  · refine .inr ⟨by unfold Sc.shape; rw [a1]; rfl, ?_⟩
    have hn : Instr.findNow (.int .i64) (.int .i64 k) (shEs 0 T vs).toArray.toList 0 = some none := by simpa using a2
    simp [Instr.lookup, run_underlying Tryz.underlying85, MapKept.run_getObj_map h2, MapKept.run_checkKey (k := .int .i64 k) Tryz.underlying3 (by simp [MapKept.IsKey]) _ 9999, MapKept.run_findKey Tryz.underlying3 hn, Result.andThen, hz]
def txtEnd (o : Option (List UInt8)) : Ending := match o with
  | some l => .returned (.string ⟨l.toArray⟩)
  | none => .panicked [{ v := errno 2, recovered := false }]
theorem clears_rest {T : Sc.Shapes} (hT : T = Sc.stepT ∨ T = Sc.outT) {k : Int} {nm ps : List UInt8} (h : Sc.shape T k = some (nm, ps)) (x : Sc.St) :
    decide (((Sc.clears ps x).conn : Int) = 0 ∧ (Sc.clears ps x).topic = 0 ∧ ((Sc.clears ps x).n : Int) = 0 ∧ ((Sc.clears ps x).draw : Int) = 0 ∧ (Sc.clears ps x).bytes = []) = Sc.rest ps x := by
  have hm := Sc.shape_mem h
  obtain ⟨k1, c, t, n, d, b⟩ := x
  rcases hT with rfl | rfl
  · simp only [Sc.stepT, List.mem_cons, List.not_mem_nil, or_false, Prod.mk.injEq] at hm
    rcases hm with hm | hm | hm | hm | hm | hm | hm | hm | hm
    all_goals
      obtain ⟨rfl, rfl, rfl⟩ := hm
      rw [Bool.eq_iff_iff]
      simp [Sc.clears, Sc.clear, Sc.rest]
      try (constructor <;> intro h <;> simp_all)
  · simp only [Sc.outT, List.mem_cons, List.not_mem_nil, or_false, Prod.mk.injEq] at hm
    rcases hm with hm | hm | hm | hm | hm | hm
    all_goals
      obtain ⟨rfl, rfl, rfl⟩ := hm
      rw [Bool.eq_iff_iff]
      simp [Sc.clears, Sc.clear, Sc.rest]
      try (constructor <;> intro h <;> simp_all)
theorem shape_few {T : Sc.Shapes} (hT : T = Sc.stepT ∨ T = Sc.outT) {k : Int} {nm ps : List UInt8} (h : Sc.shape T k = some (nm, ps)) : ps.length ≤ 3 ∧ nm.length ≤ 10 ∧ ∀ p ∈ ps, Sc.isP p := by
  have hm := Sc.shape_mem h
  have K := Sc.shOk_of hT hm
  refine ⟨?_, ?_, K.let_⟩
  all_goals
    rcases hT with rfl | rfl
    · simp only [Sc.stepT, List.mem_cons, List.not_mem_nil, or_false, Prod.mk.injEq] at hm
      rcases hm with hm | hm | hm | hm | hm | hm | hm | hm | hm
      all_goals
        obtain ⟨rfl, rfl, rfl⟩ := hm
        decide
    · simp only [Sc.outT, List.mem_cons, List.not_mem_nil, or_false, Prod.mk.injEq] at hm
      rcases hm with hm | hm | hm | hm | hm | hm
      all_goals
        obtain ⟨rfl, rfl, rfl⟩ := hm
        decide
/-- bytes stand when a number of a step is stored -/
theorem brow_set {w : World} {R i : Nat} {v y : Value} {l : List UInt8} {x : Sc.St} {u : Value} (h : BRow w v l) (hR : w.heap[R]? = some (stObj x u)) (hu : ∃ p n c, u = .slice p n c) : BRow (w.setCell ⟨R, i, none⟩ y) v l := by
  obtain ⟨ao, cap, rfl, hc, h⟩ := h
  refine ⟨ao, cap, rfl, hc, ?_⟩
  rcases h with h | ⟨g, o, rfl, h⟩
  · exact .inl h
  · refine .inr ⟨g, o, rfl, fun j hj => ?_⟩
    have hc := h j hj
    have hne : g ≠ R := by
      intro e
      subst e
      unfold stObj at hR
      simp only [World.cell?, hR] at hc
      rcases Nat.lt_or_ge (o + j) 5 with h5 | h5
      · obtain ⟨m, hm⟩ : ∃ m, o + j = m := ⟨_, rfl⟩
        rw [hm] at hc h5
        match m, h5 with
        | 0, _ => simp [by8] at hc
        | 1, _ => simp [by8] at hc
        | 2, _ => simp [by8] at hc
        | 3, _ => simp [by8] at hc
        | 4, _ => simp [by8] at hc
      · obtain ⟨p, n, c, rfl⟩ := hu
        obtain ⟨m, hm⟩ : ∃ m, o + j = m := ⟨_, rfl⟩
        rw [hm] at hc h5
        match m, h5 with
        | 5, _ => simp [by8] at hc
        | m + 6, _ => simp at hc
    exact (World.cell?_of_block (a := ⟨g, o + j, none⟩) (Below.heap_setCell _ _ _ _ hne)).trans hc
/-- a part taken out of a step that lies in a block -/
theorem br_set {w : World} {R i : Nat} {v y : Value} {l : List UInt8} {x : Sc.St} {u : Value} (h : BR w v l) (hR : w.heap[R]? = some (stObj x u)) (hu : ∃ p n c, u = .slice p n c) : BR (w.setCell ⟨R, i, none⟩ y) v l := by
  obtain ⟨ao, cap, rfl, h⟩ := h
  refine ⟨ao, cap, rfl, h.imp id (fun ⟨g, o, h1, h2⟩ => ⟨g, o, h1, fun j hj => ?_⟩)⟩
  have hb : BRow w (.slice (some ⟨g, o, none⟩) l.length l.length) l := ⟨_, _, rfl, Nat.le_refl _, .inr ⟨g, o, rfl, h2⟩⟩
  obtain ⟨ao', cap', e, _, h3⟩ := brow_set (i := i) (y := y) hb hR hu
  cases e
  rcases h3 with ⟨h3, _⟩ | ⟨g', o', h3, h4⟩
  · cases h3
  · cases h3; exact h4 j hj
theorem st_clear {w : World} {R : Nat} {x : Sc.St} {u : Value} {p : UInt8} (hp : Sc.isP p) (h : w.heap[R]? = some (stObj x u)) : (w.setCell ⟨R, offP p, none⟩ (zeroP p)).heap[R]? = some (stObj (Sc.clear p x) (if p = 66 then .slice none 0 0 else u)) := by
  unfold stObj at h
  have h1 := heap_setCell_same w R (offP p) _ _ (zeroP p) h
  rw [h1]
  rcases hp with rfl | rfl | rfl | rfl | rfl <;> simp [offP, zeroP, stObj, Sc.clear]
def lnF (H S n c : Nat) (q : Option Addr) (nb tb : ByteArray) : Nat → World → Value → Prop
  | 0, _, v => v = .pointer (some ⟨H, 0, none⟩)
  | 1, _, v => v = .string nb
  | 2, _, v => v = .func (.func 63) #[] #[.pointer (some ⟨S, 0, none⟩)]
  | 3, _, v => v = .pointer (some ⟨H, 1, none⟩)
  | 4, _, v => v = .slice q n c
  | 5, _, v => v = .string tb
  | 6, _, v => v = .string (nb ++ tb)
  | 7, _, v => v = .string (nb ++ tb)
  | _, _, _ => False
theorem sc_line {T : Sc.Shapes} (hT : T = Sc.stepT ∨ T = Sc.outT) (b : Nat) (k : Int) (x : Sc.St) (u : Value) (w : World) (hm : ShAt w b T) (hu : BR w u x.bytes) (hl : x.bytes.length ≤ 100000) (hx : x.ok) (ht : Tabs w) :
    Calls Tryz.prog 39 #[.map (some b), .int .i64 k, stVal x u] w fun e w' => e = txtEnd (Sc.line T k x) ∧ Below w.heap.size w w' := by
  have hmf : ∀ (fn : Fn) (first cap : Array Value) (w : World), (Instr.makeFunc fn first cap).run Tryz.prog w = .ok (.func fn first cap) w := fun _ _ _ _ => rfl
  obtain ⟨up, uc, hus⟩ : ∃ p c, u = .slice p x.bytes.length c := by obtain ⟨p, c, h, _⟩ := hu; exact ⟨p, c, h⟩
  obtain ⟨UN, hUN⟩ : ∃ z, x.bytes.length = z := ⟨_, rfl⟩
  rw [hUN] at hus
  subst hus
  obtain ⟨S, hS⟩ : ∃ z, w.heap.size = z := ⟨_, rfl⟩
  obtain ⟨W1, hW1⟩ : ∃ z, w.alloc (stObj x (.slice up UN uc)) = z := ⟨_, rfl⟩
  have hb1 : Below w.heap.size w W1 := by rw [← hW1]; exact (Below.refl _ _).alloc (Nat.le_refl _) _
  have hz1 : W1.heap.size = S + 1 := by rw [← hW1, ← hS]; simp
  have hS1 : W1.heap[S]? = some (stObj x (.slice up UN uc)) := by rw [← hW1, ← hS]; exact World.alloc_heap_new _ _
  have HS1 := Lib.hid hS1
  have HB1 := Lib.hid hb1
  have HZ1 := Lib.hid hz1
  have HW1 := Lib.hid hW1
  have HSS := Lib.hid hS
  have HU := Lib.hid hu
  have HX := Lib.hid hx
  have HT := Lib.hid ht
  have HL := Lib.hid hl
  have HUN := Lib.hid hUN
  obtain ⟨s0, s1, s2, s3, s4, s5, _⟩ := SR.of hS1
  unfold stObj at HW1
  rcases sh_look (hm.below hb1) k with ⟨nm, ps, pv, hsh, hpt, hlk⟩ | ⟨hsh, hlk⟩
  · have HSH := Lib.hid hsh
    obtain ⟨hp3, hn10, hpl⟩ := shape_few hT hsh
    have HCR := Lib.hid (clears_rest hT hsh x)
    have HPL := Lib.hid hpl
    have HPT := Lib.hid hpt
    have HNM := Lib.hid hn10
    obtain ⟨n, hnn⟩ : ∃ n, ps.length = n := ⟨_, rfl⟩
    have HN := Lib.hid hnn
    have hn3 : n ≤ 3 := by omega
    obtain ⟨q, c, rfl⟩ : ∃ q c, pv = .slice q n c := by
      rcases hpt with ⟨h1, h2⟩ | ⟨g, h1, _⟩
      · subst h2; simp at hnn; subst hnn; exact ⟨_, _, h1⟩
      · rw [hnn] at h1; exact ⟨_, _, h1⟩
    obtain ⟨nb, hnb⟩ : ∃ z : ByteArray, (⟨nm.toArray⟩ : ByteArray) = z := ⟨_, rfl⟩
    rw [hnb] at hlk
    have HNB := Lib.hid hnb
    by_cases htp : 0 ≤ x.topic ∧ x.topic ≤ 2147483647
    · obtain ⟨ht1, ht2⟩ := htp
      have HLN := Lib.hid (show Sc.line T k x = if Sc.rest ps x then some (nm ++ Sc.told ps x) else none by
        unfold Sc.line Sc.fit
        rw [HSH.out]
        simp only [decide_eq_true (And.intro ht1 ht2), Bool.true_and])
      have HFI := Lib.hid (show x.fine from ⟨HX.out, ht1, ht2⟩)
      obtain ⟨tp, htp⟩ : ∃ z, x.topic = z := ⟨_, rfl⟩
      have HTP := Lib.hid htp
      rw [htp] at ht1 ht2 s2 HW1
      clear hm hu hl hx ht hUN hS hW1 hb1 hz1 hS1 hsh hp3 hn10 hpl hpt hnn hnb
      unfold stVal
      rw [htp]
      clear htp
      go_enter Tryz.func39, Tryz.ntmps39
      go_upto_region 1 with (fail)
      rw [HSS.out, HW1.out]
      go_upto_region 2 with (fail)
      obtain ⟨H, hH⟩ : ∃ z, W1.heap.size = z := ⟨_, rfl⟩
      obtain ⟨W2, hW2⟩ : ∃ z, W1.alloc (.cells #[.string nb, .slice q n c] 118) = z := ⟨_, rfl⟩
      have hb2 : Below W1.heap.size W1 W2 := by rw [← hW2]; exact (Below.refl _ _).alloc (Nat.le_refl _) _
      have HH2 := Lib.hid (show W2.heap[H]? = some (.cells #[.string nb, .slice q n c] 118 (0, 0)) by rw [← hW2, ← hH]; exact World.alloc_heap_new _ _)
      have HZ2 := Lib.hid (show W2.heap.size = H + 1 by rw [← hW2, ← hH]; simp)
      have hS2 := (hb2.block _ (Array.getElem?_eq_some_iff.1 HS1.out).1).trans HS1.out
      have HS2 := Lib.hid hS2
      have HC2 := Lib.hid hb2
      have HHS := Lib.hid (show H = S + 1 by rw [← hH]; exact HZ1.out)
      clear s0 s1 s2 s3 s4 s5
      obtain ⟨s0, s1, s2, s3, s4, s5, _⟩ := SR.of hS2
      rw [HTP.out] at s2
      rw [hH, hW2]
      clear hb2 hS2 hW2 hlk hH
      go_wp2_with fail
      refine (sc_must 2 W2).mono ?_
      rintro e w' ⟨rfl, hw⟩
      subst w'
      go_upto_region 4 with (fail)
      obtain ⟨R, hR⟩ : ∃ z, W2.heap.size = z := ⟨_, rfl⟩
      obtain ⟨W3, hW3⟩ : ∃ z, W2.alloc (stObj x (.slice up UN uc)) = z := ⟨_, rfl⟩
      have hb3 : Below W2.heap.size W2 W3 := by rw [← hW3]; exact (Below.refl _ _).alloc (Nat.le_refl _) _
      have hHH3 := (hb3.block _ (Array.getElem?_eq_some_iff.1 HH2.out).1).trans HH2.out
      have HH3 := Lib.hid hHH3
      have HS3 := Lib.hid ((hb3.block _ (Array.getElem?_eq_some_iff.1 HS2.out).1).trans HS2.out)
      have HR3 := Lib.hid (show W3.heap[R]? = some (stObj x (.slice up UN uc)) by rw [← hW3, ← hR]; exact World.alloc_heap_new _ _)
      have HC3 := Lib.hid (HC2.out.trans (hb3.mono HC2.out.size))
      have HRR := Lib.hid (show R = S + 2 by rw [← hR, HZ2.out, HHS.out])
      have h0 : W3.cell? ⟨H, 0, none⟩ = some (.string nb) := by simp [World.cell?, hHH3]
      have h1 : W3.cell? ⟨H, 1, none⟩ = some (.slice q n c) := by simp [World.cell?, hHH3]
      have hW3' := hW3
      unfold stObj at hW3'
      rw [HTP.out] at hW3'
      rw [hR, hW3']
      clear hb3 hW3 hW3' hHH3 hR s0 s1 s2 s3 s4 s5
      go_wp2_with fail
      go_loopw [34] (fun i wr => ∃ j : Nat, j ≤ n ∧ i = .int .i64 j ∧ (∃ uk, wr.heap[R]? = some (stObj (Sc.clears (ps.take j) x) uk) ∧ BR wr uk (Sc.clears (ps.take j) x).bytes) ∧ wr.heap[S]? = some (stObj x (.slice up UN uc)) ∧ wr.heap[H]? = some (.cells #[.string nb, .slice q n c] 118 (0, 0)) ∧ Below W1.heap.size W1 wr) (fun i _ => n - (intOf i).toNat)
      case atStart => exact ⟨0, Nat.zero_le _, rfl, ⟨_, HR3.out, (HU.out.below HB1.out).below HC3.out⟩, HS3.out, HH3.out, HC3.out⟩
      case round =>
        obtain ⟨j, hj, rfl, ⟨uk, hr, huk⟩, hsw, hhw, hbl⟩ := hrel
        have HRW := Lib.hid hr
        have HUK := Lib.hid huk
        have HSW := Lib.hid hsw
        have HHW := Lib.hid hhw
        have HBL := Lib.hid hbl
        clear hr huk hsw hhw hbl h0 h1 HR3 HS3 HH3 HC3 HS2 HH2 HC2
        by_cases hlt : j < n
        · have hpk := HPT.out.below HBL.out
          obtain ⟨g, rfl, hrow⟩ : ∃ g, q = some ⟨g, 0, none⟩ ∧ ∀ j, j < ps.length → ∃ a b c, wr.cell? ⟨g, j * 3, none⟩ = some a ∧ wr.cell? ⟨g, j * 3 + 1, none⟩ = some b ∧ wr.cell? ⟨g, j * 3 + 2, none⟩ = some c ∧ PartAt wr (.agg #[a, b, c]) (ps.getD j 0) := by
            rcases hpk with ⟨h1, h2⟩ | ⟨g, h1, h2⟩
            · exfalso
              have := HN.out
              rw [h2] at this
              simp at this
              omega
            · simp only [Value.slice.injEq] at h1
              exact ⟨g, h1.1, h2⟩
          obtain ⟨a1, a2, a3, k1, k2, k3, hpa⟩ := hrow j (by rw [HN.out]; exact hlt)
          have hjl : j < ps.length := by rw [HN.out]; exact hlt
          have HTK := Lib.hid (show Sc.clears (ps.take (j + 1)) x = Sc.clear (ps.getD j 0) (Sc.clears (ps.take j) x) by
            unfold Sc.clears
            rw [List.take_succ_eq_append_getElem hjl, List.foldl_append, List.getD_eq_getElem?_getD, List.getElem?_eq_getElem hjl]; rfl)
          have hip := HPL.out (ps.getD j 0) (by rw [List.getD_eq_getElem?_getD, List.getElem?_eq_getElem hjl]; exact List.getElem_mem _)
          obtain ⟨pc, hpc⟩ : ∃ z, ps.getD j 0 = z := ⟨_, rfl⟩
          rw [hpc] at hpa HTK hip
          obtain ⟨f1, f2, f3, cap, he, _⟩ := hpa.ok
          obtain ⟨rfl, rfl, rfl⟩ : a1 = .func (.func f1) #[] cap ∧ a2 = .func (.func f2) #[] cap ∧ a3 = .func (.func f3) #[] cap := by simpa using he
          obtain ⟨W4, hW4⟩ : ∃ z, wr.alloc (.cells #[.func (.func f1) #[] cap, .func (.func f2) #[] cap, .func (.func f3) #[] cap] 124) = z := ⟨_, rfl⟩
          obtain ⟨Z, hZ⟩ : ∃ z, wr.heap.size = z := ⟨_, rfl⟩
          have hb4 : Below wr.heap.size wr W4 := by rw [← hW4]; exact (Below.refl _ _).alloc (Nat.le_refl _) _
          have hR4 : W4.heap[Z]? = some (.cells #[.func (.func f1) #[] cap, .func (.func f2) #[] cap, .func (.func f3) #[] cap] 124 (0, 0)) := by rw [← hW4, ← hZ]; exact World.alloc_heap_new _ _
          have r1 : W4.cell? ⟨Z, 1, none⟩ = some (.func (.func f2) #[] cap) := by simp [World.cell?, hR4]
          have hr4 := (hb4.block _ (Array.getElem?_eq_some_iff.1 HRW.out).1).trans HRW.out
          have HB4 := Lib.hid (HBL.out.trans (hb4.mono HBL.out.size))
          have HR4 := Lib.hid hr4
          have HS4 := Lib.hid ((hb4.block _ (Array.getElem?_eq_some_iff.1 HSW.out).1).trans HSW.out)
          have HH4 := Lib.hid ((hb4.block _ (Array.getElem?_eq_some_iff.1 HHW.out).1).trans HHW.out)
          have HU4 := Lib.hid (HUK.out.below hb4)
          obtain ⟨g1, g2, g3, cap2, he2, hok⟩ := (hpa.below hb4).ok
          obtain ⟨rfl, rfl, rfl, rfl⟩ : f1 = g1 ∧ f2 = g2 ∧ f3 = g3 ∧ cap = cap2 := by simp at he2; exact ⟨he2.1.1, he2.2.1.1, he2.2.2.1, he2.1.2⟩
          have K1 := Lib.hid (hok.clear R _ uk (SR.of hr4))
          have heg := hok.e2
          unfold EntersF at heg
          have HIP := Lib.hid hip
          have HW4 := Lib.hid hW4
          have HZ := Lib.hid hZ
          clear hrow hpk hpa hpc hb4 hR4 hW4 hZ he he2 hok hr4 hip hjl
          go_upto_region 7 with (fail)
          rw [HZ.out, HW4.out]
          go_wp2_with fail
          refine K1.out.mono ?_
          rintro e w5 ⟨rfl, hw5⟩
          have HR5 := Lib.hid (show w5.heap[R]? = some (stObj (Sc.clear pc (Sc.clears (ps.take j) x)) (if pc = 66 then .slice none 0 0 else uk)) by rw [hw5]; exact st_clear HIP.out HR4.out)
          have HS5 := Lib.hid (show w5.heap[S]? = some (stObj x (.slice up UN uc)) by rw [hw5]; exact (Below.heap_setCell _ _ _ _ (by have := HRR.out; show S ≠ R; omega)).trans HS4.out)
          have HH5 := Lib.hid (show w5.heap[H]? = some (.cells #[.string nb, .slice (some ⟨g, 0, none⟩) n c] 118 (0, 0)) by rw [hw5]; exact (Below.heap_setCell _ _ _ _ (by have := HRR.out; have := HHS.out; show H ≠ R; omega)).trans HH4.out)
          have HB5 := Lib.hid (show Below W1.heap.size W1 w5 by rw [hw5]; exact HB4.out.setCell (p := ⟨R, offP pc, none⟩) (by rw [HZ1.out]; have := HRR.out; show S + 1 ≤ R; omega) _)
          have HU5 := Lib.hid (show BR w5 (if pc = 66 then .slice none 0 0 else uk) (Sc.clear pc (Sc.clears (ps.take j) x)).bytes by
            rcases HIP.out with rfl | rfl | rfl | rfl | rfl
            · rw [hw5]; exact br_set HU4.out HR4.out (by obtain ⟨p, c, h, _⟩ := HU4.out; exact ⟨_, _, _, h⟩)
            · rw [hw5]; exact br_set HU4.out HR4.out (by obtain ⟨p, c, h, _⟩ := HU4.out; exact ⟨_, _, _, h⟩)
            · rw [hw5]; exact br_set HU4.out HR4.out (by obtain ⟨p, c, h, _⟩ := HU4.out; exact ⟨_, _, _, h⟩)
            · rw [hw5]; exact br_set HU4.out HR4.out (by obtain ⟨p, c, h, _⟩ := HU4.out; exact ⟨_, _, _, h⟩)
            · exact (BRow.nil _).br)
          clear hw5
          go_wp2
          go_roundw
          case rel => exact ⟨j + 1, hlt, by go_num, ⟨_, by rw [HTK.out]; exact HR5.out, by rw [HTK.out]; exact HU5.out⟩, HS5.out, HH5.out, HB5.out⟩
          case measure => simp [intOf]; omega
        · have hjn : ps.take j = ps := List.take_of_length_le (by rw [HN.out]; omega)
          have hr := HRW.out
          have huk := HUK.out
          rw [hjn] at hr huk
          obtain ⟨⟨ck, cc, ct, cn, cd, cb⟩, hcl⟩ : ∃ z, Sc.clears ps x = z := ⟨_, rfl⟩
          rw [hcl] at hr huk
          simp only at huk
          have hcr := HCR.out
          rw [hcl] at hcr
          have hcr : decide ((cc : Int) = 0 ∧ ct = 0 ∧ (cn : Int) = 0 ∧ (cd : Int) = 0 ∧ cb = []) = Sc.rest ps x := hcr
          have HCR2 := Lib.hid hcr
          obtain ⟨bv, hbv⟩ : ∃ z, Sc.rest ps x = z := ⟨_, rfl⟩
          rw [hbv] at HCR2
          have HLN2 := HLN.out
          rw [hbv] at HLN2
          have HLN3 := Lib.hid HLN2
          obtain ⟨q0, q1, q2, q3, q4, q5, qf⟩ := SR.of hr
          have hz0 := qf 0
          obtain ⟨w5, hw5⟩ : ∃ z, wr.setCell ⟨R, 0, none⟩ (.int .i64 0) = z := ⟨_, rfl⟩
          have hR5 : w5.heap[R]? = some (stObj ⟨0, cc, ct, cn, cd, cb⟩ uk) := by
            rw [← hw5]
            have := heap_setCell_same wr R 0 _ _ (.int .i64 0) (show wr.heap[R]? = some (.cells _ _ (0, 0)) from hr)
            rw [this]
            rfl
          have HS5 := Lib.hid (show w5.heap[S]? = some (stObj x (.slice up UN uc)) by rw [← hw5]; exact (Below.heap_setCell _ _ _ _ (by have := HRR.out; show S ≠ R; omega)).trans HSW.out)
          have HH5 := Lib.hid (show w5.heap[H]? = some (.cells #[.string nb, .slice q n c] 118 (0, 0)) by rw [← hw5]; exact (Below.heap_setCell _ _ _ _ (by have := HRR.out; have := HHS.out; show H ≠ R; omega)).trans HHW.out)
          have HB5 := Lib.hid (show Below W1.heap.size W1 w5 by rw [← hw5]; exact HBL.out.setCell (p := ⟨R, 0, none⟩) (by rw [HZ1.out]; have := HRR.out; show S + 1 ≤ R; omega) _)
          have huk5 : BR w5 uk cb := by rw [← hw5]; exact br_set huk hr (by obtain ⟨p, c, h, _⟩ := huk; exact ⟨_, _, _, h⟩)
          have K3 := sc_Same 0 (cc : Int) ct (cn : Int) (cd : Int) 0 0 0 0 0 uk (.slice none 0 0) cb [] w5 huk5 ((BRow.nil _).br)
          have hK : ∀ (P : Prop) [Decidable P], decide ((0 : Int) = 0 ∧ P) = decide P := fun P _ => by simp
          rw [hK, HCR2.out] at K3
          clear hK
          have K3 := Lib.hid K3
          obtain ⟨p0, p1, p2, p3, p4, p5, _⟩ := SR.of hR5
          have HW5 := Lib.hid hw5
          clear hjn hr huk hcl hcr hbv HLN2 qf hw5 hR5 huk5
          go_upto_region 10 with (fail)
          clear hlt hj
          rw [HW5.out]
          clear q0 q1 q2 q3 q4 q5 hz0
          go_wp2_with fail
          refine K3.out.mono ?_
          rintro e w6 ⟨rfl, hb6⟩
          have HB6 := Lib.hid (HB5.out.trans (hb6.mono HB5.out.size))
          have HS6 := Lib.hid ((hb6.block _ (Array.getElem?_eq_some_iff.1 HS5.out).1).trans HS5.out)
          have HH6 := Lib.hid ((hb6.block _ (Array.getElem?_eq_some_iff.1 HH5.out).1).trans HH5.out)
          clear hb6 p0 p1 p2 p3 p4 p5 K3
          cases bv
          · go_wp2_with fail
            refine (sc_must_no 2 w6).mono ?_
            rintro e w' ⟨rfl, hw⟩
            subst w'
            refine ⟨rfl, ?_, HB1.out.trans (HB6.out.mono HB1.out.size)⟩
            rw [HLN3.out]
            first | rfl | simp [txtEnd]
          · go_wp2_with fail
            refine (sc_must 2 w6).mono ?_
            rintro e w' ⟨rfl, hw⟩
            subst w'
            have hBW := HB1.out.trans (HB6.out.mono HB1.out.size)
            have HBW := Lib.hid hBW
            have KT := Lib.hid (show ∀ W, Below w6.heap.size w6 W → Calls Tryz.prog 62 #[.func (.func 63) #[] #[.pointer (some ⟨S, 0, none⟩)], .slice q n c] W fun e w' => e = .returned (.string ⟨(Sc.told ps x).toArray⟩) ∧ Below W.heap.size W w' from fun W hb =>
              sc_told S x (.slice up UN uc) (.slice q n c) ps W ((HPT.out.below HB6.out).below hb) (by rw [HN.out]; exact hn3) ((hb.block _ (Array.getElem?_eq_some_iff.1 HS6.out).1).trans HS6.out) ((HU.out.below HBW.out).below hb) HL.out HFI.out ((HT.out.below HBW.out).below hb))
            have htl := told_len x HL.out HFI.out ps
            obtain ⟨tb, htb⟩ : ∃ z : ByteArray, (⟨(Sc.told ps x).toArray⟩ : ByteArray) = z := ⟨_, rfl⟩
            have htbs : tb.size ≤ 900006 := by
              have h1 : tb.size = (Sc.told ps x).length := by rw [← htb]; simp [ByteArray.size]
              have h2 := HN.out
              rw [h1]
              refine Nat.le_trans htl ?_
              rw [h2]
              omega
            have hnbs : nb.size ≤ 10 := by
              have h1 : nb.size = nm.length := by rw [← HNB.out]; simp [ByteArray.size]
              rw [h1]; exact HNM.out
            have HRES := Lib.hid (show Ending.returned (.string (nb ++ tb)) = txtEnd (Sc.line T k x) by
              rw [HLN3.out, if_pos (by first | trivial | rfl)]
              unfold txtEnd
              rw [← HNB.out, ← htb]
              rw [show (⟨nm.toArray⟩ : ByteArray) ++ ⟨(Sc.told ps x).toArray⟩ = ⟨(nm ++ Sc.told ps x).toArray⟩ by apply ByteArray.ext; simp])
            rw [htb] at KT
            have HHC := Lib.hid (show ∀ W, Below w6.heap.size w6 W → W.cell? ⟨H, 0, none⟩ = some (.string nb) ∧ W.cell? ⟨H, 1, none⟩ = some (.slice q n c) from fun W hb => by
              have h2 := (hb.block _ (Array.getElem?_eq_some_iff.1 HH6.out).1).trans HH6.out
              constructor <;> simp [World.cell?, h2])
            clear htl htb hBW
            go_upto_region 11 with (fail)
            refine region_slotsG (fun i => (if i = 7 then 6 else 47 + min i 6)) (lnF H S n c q nb tb) (fun _ => true) (by kernel_rfl) (by kernel_rfl) (fun i => by show (if i = 7 then 6 else 47 + min i 6) < _; simp; split <;> omega) (fun i j hi hj h => by have hi : i < 8 := hi; have hj : j < 8 := hj; have h : (if i = 7 then 6 else 47 + min i 6) = (if j = 7 then 6 else 47 + min j 6) := h; split at h <;> split at h <;> omega) ?mono ?dst ?gu ?ng ?skip ?step ?done
            case mono =>
              intro i W W' v h hbw
              match i, h with
              | 0, h | 1, h | 2, h | 3, h | 4, h | 5, h | 6, h | 7, h => exact h
              | n + 8, h => exact h.elim
            case dst =>
              intro i o ho
              match i, ho with
              | 0, ho | 1, ho | 2, ho | 3, ho | 4, ho | 5, ho | 6, ho | 7, ho => cases ho; rfl
              | n + 8, ho => exact absurd ho (by simp)
            case gu =>
              intro i o g b ho hgd W v hv
              match i, ho with
              | 0, ho => cases ho; cases hgd
              | 1, ho => cases ho; cases hgd
              | 2, ho => cases ho; cases hgd
              | 3, ho => cases ho; cases hgd
              | 4, ho => cases ho; cases hgd
              | 5, ho => cases ho; cases hgd
              | 6, ho => cases ho; cases hgd
              | 7, ho => cases ho; cases hgd
              | n + 8, ho => exact absurd ho (by simp)
            case ng =>
              intro i o ho hgd
              match i, ho with
              | 0, ho => cases ho; first | rfl | cases hgd
              | 1, ho => cases ho; first | rfl | cases hgd
              | 2, ho => cases ho; first | rfl | cases hgd
              | 3, ho => cases ho; first | rfl | cases hgd
              | 4, ho => cases ho; first | rfl | cases hgd
              | 5, ho => cases ho; first | rfl | cases hgd
              | 6, ho => cases ho; first | rfl | cases hgd
              | 7, ho => cases ho; first | rfl | cases hgd
              | n + 8, ho => exact absurd ho (by simp)
            case skip =>
              intro i W hi hsel
              match i, hi, hsel with
              | 0, _, hsel => first | exact absurd hsel (by decide) | rfl
              | 1, _, hsel => first | exact absurd hsel (by decide) | rfl
              | 2, _, hsel => first | exact absurd hsel (by decide) | rfl
              | 3, _, hsel => first | exact absurd hsel (by decide) | rfl
              | 4, _, hsel => first | exact absurd hsel (by decide) | rfl
              | 5, _, hsel => first | exact absurd hsel (by decide) | rfl
              | 6, _, hsel => first | exact absurd hsel (by decide) | rfl
              | 7, _, hsel => first | exact absurd hsel (by decide) | rfl
              | n + 8, hi, _ => exact absurd hi (by simp)
            case step =>
              intro f a' W i o ho hsel hpre hbel hrest
              match i, ho, hsel with
              | 0, ho, _ =>
                cases ho
                have q7 : a'.tmps.getD 7 undef = .pointer (some ⟨H, 0, none⟩) := (hrest 7 (by intro i hi; have hi : i < 8 := hi; show (if i = 7 then 6 else 47 + min i 6) ≠ _; split <;> omega))
                have e7 := rg_ev q7
                exact rg_same (.pointer (some ⟨H, 0, none⟩)) (by unfold Oper.wp execOp; go_simp; all_goals ((try simp only [e7]); (try go_simp); (try rw [if_pos (by omega)]); (try rw [if_neg (by omega)]); first | done | rfl | exact ⟨rfl, rfl⟩ | trivial)) rfl
              | 1, ho, _ =>
                cases ho
                have q47 : a'.tmps.getD 47 undef = .pointer (some ⟨H, 0, none⟩) := (hpre { on := 0, ground := .data } (by simp) rfl)
                have ce := HHC.out W hbel
                obtain ⟨c0, c1⟩ := ce
                have e47 := rg_ev q47
                exact rg_same (.string nb) (by unfold Oper.wp execOp; go_simp; all_goals ((try simp only [e47]); (try go_simp); (try rw [if_pos (by omega)]); (try rw [if_neg (by omega)]); first | done | rfl | exact ⟨rfl, rfl⟩ | trivial)) rfl
              | 2, ho, _ =>
                cases ho
                have q5 : a'.tmps.getD 5 undef = .pointer (some ⟨S, 0, none⟩) := (hrest 5 (by intro i hi; have hi : i < 8 := hi; show (if i = 7 then 6 else 47 + min i 6) ≠ _; split <;> omega))
                have e5 := rg_ev q5
                exact rg_same (.func (.func 63) #[] #[.pointer (some ⟨S, 0, none⟩)]) (by unfold Oper.wp execOp; go_simp; all_goals ((try simp only [e5]); (try go_simp); (try rw [if_pos (by omega)]); (try rw [if_neg (by omega)]); first | done | rfl | exact ⟨rfl, rfl⟩ | trivial)) rfl
              | 3, ho, _ =>
                cases ho
                have q7 : a'.tmps.getD 7 undef = .pointer (some ⟨H, 0, none⟩) := (hrest 7 (by intro i hi; have hi : i < 8 := hi; show (if i = 7 then 6 else 47 + min i 6) ≠ _; split <;> omega))
                have e7 := rg_ev q7
                exact rg_same (.pointer (some ⟨H, 1, none⟩)) (by unfold Oper.wp execOp; go_simp; all_goals ((try simp only [e7]); (try go_simp); (try rw [if_pos (by omega)]); (try rw [if_neg (by omega)]); first | done | rfl | exact ⟨rfl, rfl⟩ | trivial)) rfl
              | 4, ho, _ =>
                cases ho
                have q50 : a'.tmps.getD 50 undef = .pointer (some ⟨H, 1, none⟩) := (hpre { on := 3, ground := .data } (by simp) rfl)
                have ce := HHC.out W hbel
                obtain ⟨c0, c1⟩ := ce
                have e50 := rg_ev q50
                exact rg_same (.slice q n c) (by unfold Oper.wp execOp; go_simp; all_goals ((try simp only [e50]); (try go_simp); (try rw [if_pos (by omega)]); (try rw [if_neg (by omega)]); first | done | rfl | exact ⟨rfl, rfl⟩ | trivial)) rfl
              | 5, ho, _ =>
                cases ho
                have q49 : a'.tmps.getD 49 undef = .func (.func 63) #[] #[.pointer (some ⟨S, 0, none⟩)] := (hpre { on := 2, ground := .data } (by simp) rfl)
                have q51 : a'.tmps.getD 51 undef = .slice q n c := (hpre { on := 4, ground := .data } (by simp) rfl)
                exact rg_call2 49 51 62 _ _ _ _ rfl q49 q51 (enters_of Tryz.func62 (by kernel_rfl) rfl) (KT.out W hbel) (fun e w' h => ⟨_, h.1, _, rfl, rfl, h.2⟩)
              | 6, ho, _ =>
                cases ho
                have q48 : a'.tmps.getD 48 undef = .string nb := (hpre { on := 1, ground := .data } (by simp) rfl)
                have q52 : a'.tmps.getD 52 undef = .string tb := (hpre { on := 5, ground := .data } (by simp) rfl)
                have e48 := rg_ev q48
                have e52 := rg_ev q52
                exact rg_same (.string (nb ++ tb)) (by unfold Oper.wp execOp; go_simp; all_goals ((try simp only [e48, e52]); (try go_simp); (try rw [if_pos (by omega)]); (try rw [if_neg (by omega)]); first | done | rfl | exact ⟨rfl, rfl⟩ | trivial)) rfl
              | 7, ho, _ =>
                cases ho
                have q53 : a'.tmps.getD 53 undef = .string (nb ++ tb) := (hpre { on := 6, ground := .data } (by simp) rfl)
                have e53 := rg_ev q53
                exact rg_same (.string (nb ++ tb)) (by unfold Oper.wp execOp; go_simp; all_goals ((try simp only [e53]); (try go_simp); (try rw [if_pos (by omega)]); (try rw [if_neg (by omega)]); first | done | rfl | exact ⟨rfl, rfl⟩ | trivial)) rfl
              | n + 8, ho, _ => exact absurd ho (by simp)
            case done =>
              intro vs W hbel hvs
              have v0 : vs 0 = .pointer (some ⟨H, 0, none⟩) := hvs 0 (by decide)
              have v1 : vs 1 = .string nb := hvs 1 (by decide)
              have v2 : vs 2 = .func (.func 63) #[] #[.pointer (some ⟨S, 0, none⟩)] := hvs 2 (by decide)
              have v3 : vs 3 = .pointer (some ⟨H, 1, none⟩) := hvs 3 (by decide)
              have v4 : vs 4 = .slice q n c := hvs 4 (by decide)
              have v5 : vs 5 = .string tb := hvs 5 (by decide)
              have v6 : vs 6 = .string (nb ++ tb) := hvs 6 (by decide)
              have v7 : vs 7 = .string (nb ++ tb) := hvs 7 (by decide)
              have HBR := Lib.hid hbel
              simp only [fillN, List.size_toArray, List.length_cons, List.length_nil, Nat.reduceAdd, show List.range 8 = [0, 1, 2, 3, 4, 5, 6, 7] from rfl, List.foldl_cons, List.foldl_nil, show (if 0 = 7 then 6 else 47 + min 0 6) = 47 from rfl, show (if 1 = 7 then 6 else 47 + min 1 6) = 48 from rfl, show (if 2 = 7 then 6 else 47 + min 2 6) = 49 from rfl, show (if 3 = 7 then 6 else 47 + min 3 6) = 50 from rfl, show (if 4 = 7 then 6 else 47 + min 4 6) = 51 from rfl, show (if 5 = 7 then 6 else 47 + min 5 6) = 52 from rfl, show (if 6 = 7 then 6 else 47 + min 6 6) = 53 from rfl, show (if 7 = 7 then 6 else 47 + min 7 6) = 6 from rfl, v0, v1, v2, v3, v4, v5, v6, v7]
              clear v0 v1 v2 v3 v4 v5 v6 v7 hvs hbel
              go_simp
              go_wp2_with fail
              go_ret
              exact ⟨HRES.out, HBW.out.trans (HBR.out.mono HBW.out.size)⟩
    · have HLN := Lib.hid (show Sc.line T k x = none by
        unfold Sc.line Sc.fit
        rw [HSH.out]
        simp only [decide_eq_false htp, Bool.false_and, Bool.false_eq_true, if_false])
      obtain ⟨tp, htp2⟩ : ∃ z, x.topic = z := ⟨_, rfl⟩
      have HTP := Lib.hid htp2
      rw [htp2] at htp s2 HW1
      clear hm hu hl hx ht hUN hS hW1 hb1 hz1 hS1 hsh hp3 hn10 hpl hpt hnn hnb
      unfold stVal
      rw [htp2]
      clear htp2
      by_cases h0 : 0 ≤ tp
      · have h1 : ¬ tp ≤ 2147483647 := fun h => htp ⟨h0, h⟩
        have h3 : decide (tp ≤ 2147483647) = false := decide_eq_false h1
        clear htp
        go_enter Tryz.func39, Tryz.ntmps39
        go_upto_region 1 with (fail)
        rw [HSS.out, HW1.out]
        go_upto_region 2 with (fail)
        obtain ⟨H, hH⟩ : ∃ z, W1.heap.size = z := ⟨_, rfl⟩
        obtain ⟨W2, hW2⟩ : ∃ z, W1.alloc (.cells #[.string nb, .slice q n c] 118) = z := ⟨_, rfl⟩
        have hb2 : Below W1.heap.size W1 W2 := by rw [← hW2]; exact (Below.refl _ _).alloc (Nat.le_refl _) _
        have HB2 := Lib.hid (HB1.out.trans (hb2.mono HB1.out.size))
        have s2' := cell_below hb2 s2
        clear s0 s1 s2 s3 s4 s5
        rw [hH, hW2]
        clear hb2 hW2 hlk hH
        go_wp2_with fail
        refine (sc_must_no 2 W2).mono ?_
        rintro e w' ⟨rfl, hw⟩
        subst w'
        refine ⟨rfl, ?_, HB2.out⟩
        rw [HLN.out]; rfl
      · have h3 : decide (0 ≤ tp) = false := decide_eq_false h0
        clear htp
        go_enter Tryz.func39, Tryz.ntmps39
        go_upto_region 1 with (fail)
        rw [HSS.out, HW1.out]
        go_upto_region 2 with (fail)
        obtain ⟨H, hH⟩ : ∃ z, W1.heap.size = z := ⟨_, rfl⟩
        obtain ⟨W2, hW2⟩ : ∃ z, W1.alloc (.cells #[.string nb, .slice q n c] 118) = z := ⟨_, rfl⟩
        have hb2 : Below W1.heap.size W1 W2 := by rw [← hW2]; exact (Below.refl _ _).alloc (Nat.le_refl _) _
        have HB2 := Lib.hid (HB1.out.trans (hb2.mono HB1.out.size))
        have s2' := cell_below hb2 s2
        clear s0 s1 s2 s3 s4 s5
        rw [hH, hW2]
        clear hb2 hW2 hlk hH
        go_wp2_with fail
        refine (sc_must_no 2 W2).mono ?_
        rintro e w' ⟨rfl, hw⟩
        subst w'
        refine ⟨rfl, ?_, HB2.out⟩
        rw [HLN.out]; rfl
  · have HLN := Lib.hid (show Sc.line T k x = none by
      unfold Sc.line
      rw [hsh])
    obtain ⟨tp, htp2⟩ : ∃ z, x.topic = z := ⟨_, rfl⟩
    rw [htp2] at s2 HW1
    clear hm hu hl hx ht hUN hS hW1 hb1 hz1 hS1 hsh
    unfold stVal
    rw [htp2]
    clear htp2
    obtain ⟨nb, hnb⟩ : ∃ z : ByteArray, (⟨#[]⟩ : ByteArray) = z := ⟨_, rfl⟩
    rw [hnb] at hlk
    obtain ⟨q, n, c, hq⟩ : ∃ q n c, (Value.slice none 0 0) = .slice q n c := ⟨_, _, _, rfl⟩
    rw [hq] at hlk
    clear hnb hq
    go_enter Tryz.func39, Tryz.ntmps39
    go_upto_region 1 with (fail)
    rw [HSS.out, HW1.out]
    go_upto_region 2 with (fail)
    obtain ⟨H, hH⟩ : ∃ z, W1.heap.size = z := ⟨_, rfl⟩
    obtain ⟨W2, hW2⟩ : ∃ z, W1.alloc (.cells #[.string nb, .slice q n c] 118) = z := ⟨_, rfl⟩
    have hb2 : Below W1.heap.size W1 W2 := by rw [← hW2]; exact (Below.refl _ _).alloc (Nat.le_refl _) _
    have HB2 := Lib.hid (HB1.out.trans (hb2.mono HB1.out.size))
    have s2' := cell_below hb2 s2
    clear s0 s1 s2 s3 s4 s5
    rw [hH, hW2]
    clear hb2 hW2 hlk hH
    go_wp2_with fail
    refine (sc_must_no 2 W2).mono ?_
    rintro e w' ⟨rfl, hw⟩
    subst w'
    refine ⟨rfl, ?_, HB2.out⟩
    rw [HLN.out]; rfl
end Go.Proofs.YtbaakfcbakpmpaaGreatDoor

/- As region_last3, where what a slot holds may hang on which operations are done. -/
namespace Go.Proofs.YtbaakfcbakpmpaaGreatDoor
set_option linter.unusedVariables false
set_option linter.unusedSimpArgs false
open Go.RowKit
structure Stand3 (a0 : Act) (m : Nat) (slot : Nat → Nat) (F : (Nat → Bool) → Nat → World → Value → Prop) (T : (Nat → Bool) → World → Prop) (f : Nat → Bool) (a : Act) (w : World) : Prop where
  defers : a.defers = a0.defers
  size : a.tmps.size = a0.tmps.size
  rest : ∀ j, (∀ i, i < m → slot i ≠ j) → a.tmps.getD j undef = a0.tmps.getD j undef
  yet : ∀ i, i < m → f i = false → a.tmps.getD (slot i) undef = a0.tmps.getD (slot i) undef
  told : T f w
  have_ : ∀ i, i < m → f i = true → F f i w (a.tmps.getD (slot i) undef)
theorem rg_same3 {P : Program} {o : Oper} {a : Act} {w : World} {Q : Exit → Act → World → Prop} {F : (Nat → Bool) → Nat → World → Value → Prop} {T : (Nat → Bool) → World → Prop} {f : Nat → Bool} {i : Nat} (v : Value)
    (h : o.wp P a w (fun a' w' => a' = a.put o.dst v ∧ w' = w) Q) (hF : F (fun j => if j = i then true else f j) i w v) (hT : T (fun j => if j = i then true else f j) w) (hM : ∀ j v', F f j w v' → F (fun j => if j = i then true else f j) j w v') :
    o.wp P a w (fun a' w' => ∃ v, a' = a.put o.dst v ∧ F (fun j => if j = i then true else f j) i w' v ∧ T (fun j => if j = i then true else f j) w' ∧ ∀ j v', f j = true → F f j w v' → F (fun j => if j = i then true else f j) j w' v') Q := by
  refine Oper.wp_mono ?_ h
  rintro a' w' ⟨rfl, rfl⟩
  exact ⟨v, rfl, hF, hT, fun j v' _ h => hM j v' h⟩
section
variable {P : Program} {ops : Array Oper} {Q : Exit → Act → World → Prop}
theorem region_last3 {id : Nat} {a0 : Act} {w0 : World} (m : Nat) (slot : Nat → Nat) (F : (Nat → Bool) → Nat → World → Value → Prop) (T : (Nat → Bool) → World → Prop) (hm : P.follows .mixedOrders = true) (hb : backB .any ops = true)
    (hsz : ops.size = m + 1) (hanc : ((List.range m).all fun j => (ancOf .any ops m m).contains j) = true)
    (hs : ∀ i, slot i < a0.tmps.size) (hinj : ∀ i j, i < m → j < m → slot i = slot j → i = j) (h0 : T (fun _ => false) w0.drew)
    (hdst : ∀ i o, i < m → ops[i]? = some o → o.dst = some (slot i))
    (hstep : ∀ (f : Nat → Bool) (a : Act) (w : World) (i : Nat) (o : Oper), i < m → ops[i]? = some o → f i = false → (∀ e ∈ o.after, Region.binds .any e = true → f e.on = true ∧ F f e.on w (a.tmps.getD (slot e.on) undef)) → T f w →
      (∀ j, (∀ i, i < m → slot i ≠ j) → a.tmps.getD j undef = a0.tmps.getD j undef) →
      o.wp P a w (fun a' w' => ∃ v, a' = a.put o.dst v ∧ F (fun j => if j = i then true else f j) i w' v ∧ T (fun j => if j = i then true else f j) w' ∧ ∀ j v', f j = true → F f j w v' → F (fun j => if j = i then true else f j) j w' v') Q)
    (hlast : ∀ (f : Nat → Bool) (vs : Nat → Value) (w : World) (o : Oper), ops[m]? = some o → (∀ i, i < m → f i = true) → T f w → (∀ i, i < m → F f i w (vs i)) →
      o.wp P { a0 with tmps := fillN slot vs m a0.tmps } w (fun a' w' => Q .normal a' w') Q) :
    (Code.region id ops true).wp P Q a0 w0 := by
  refine region_inv hm hb (fun f a w => ShutF .any ops f ∧ (f m = false → Stand3 a0 m slot F T f a w) ∧ (f m = true → Q .normal a w))
    ⟨(fun i h => by cases h), (fun _ => ⟨rfl, rfl, (fun _ _ => rfl), (fun _ _ _ => rfl), h0, (fun _ _ h => by cases h)⟩), (fun h => by cases h)⟩ ?_ ?_
  · rintro f a w i o ho hf hpre ⟨hc, h1, h2⟩
    have hi := (Array.getElem?_eq_some_iff.1 ho).1
    have hee := edges_of ho hpre
    have hc' : ShutF .any ops (fun j => if j = i then true else f j) := by
      intro x hx y hy
      show (if y = i then true else f y) = true
      by_cases hyi : y = i
      · rw [if_pos hyi]
      · rw [if_neg hyi]
        by_cases hxi : x = i
        · subst hxi; exact hee y hy
        · exact hc x (by simpa [hxi] using hx) y hy
    have hpres : ∀ {g : Nat → Bool}, ShutF .any ops g → (∀ j ∈ edgesOf .any ops m, g j = true) → ∀ j, j < m → g j = true := fun hg he j hj => by
      have h4 := List.all_eq_true.1 hanc j (List.mem_range.2 hj)
      exact anc_true hg m m he j (by simpa using h4)
    by_cases him : i = m
    · subst him
      have hI := h1 hf
      have hall := hpres hc hee
      have e : a = { a0 with tmps := fillN slot (fun j => a.tmps.getD (slot j) undef) i a0.tmps } := by
        have h5 : a.tmps = fillN slot (fun j => a.tmps.getD (slot j) undef) i a0.tmps := by
          refine ext_getD (by rw [fillN_size, hI.size]) (fun j => ?_)
          by_cases hj : ∃ k, k < i ∧ slot k = j
          · obtain ⟨k, hk, rfl⟩ := hj
            rw [fillN_at slot _ _ hs _ hinj k hk]
          · rw [fillN_get slot _ _ hs _ j (fun k hk e => hj ⟨k, hk, e⟩), hI.rest j (fun k hk e => hj ⟨k, hk, e⟩)]
        obtain ⟨t, d⟩ := a
        have h6 := hI.defers
        simp only at h5 h6
        rw [← h5, h6]
      have h7 := hlast f (fun j => a.tmps.getD (slot j) undef) w o ho hall hI.told (fun j hj => hI.have_ j hj (hall j hj))
      rw [← e] at h7
      exact Oper.wp_mono (fun a' w' hT => ⟨hc', fun h => by simp at h, fun _ => hT⟩) h7
    · have hlt : i < m := by omega
      have hfm : f m = false := by
        cases hfm : f m with
        | false => rfl
        | true =>
          have := hpres hc (hc m hfm) i hlt
          rw [hf] at this
          cases this
      have hI := h1 hfm
      refine Oper.wp_mono ?_ (hstep f a w i o hlt ho hf (fun e he hbd => ⟨hpre e he hbd, hI.have_ e.on (by have := (back_of hb ho).2 e he hbd; omega) (hpre e he hbd)⟩) hI.told hI.rest)
      rintro a' w' ⟨v, rfl, hv, ht, hst⟩
      rw [hdst i o hlt ho]
      have hsl : slot i < a.tmps.size := by rw [hI.size]; exact hs i
      refine ⟨hc', fun _ => ⟨hI.defers, by rw [← hI.size]; exact Array.size_setIfInBounds .., fun j hj => ?_, fun j hj hfj => ?_, ht, fun j hj hfj => ?_⟩, fun h => ?_⟩
      · show (a.tmps.setIfInBounds (slot i) v).getD j undef = _
        rw [getD_set _ _ _ _ hsl, if_neg (Ne.symm (hj i hlt))]
        exact hI.rest j hj
      · show (a.tmps.setIfInBounds (slot i) v).getD (slot j) undef = _
        have hji : j ≠ i := fun e => by simp [e] at hfj
        rw [getD_set _ _ _ _ hsl, if_neg (fun e => hji (hinj j i hj hlt e))]
        exact hI.yet j hj (by simpa [hji] using hfj)
      · show F (fun j => if j = i then true else f j) j w' ((a.tmps.setIfInBounds (slot i) v).getD (slot j) undef)
        rw [getD_set _ _ _ _ hsl]
        by_cases hji : j = i
        · subst hji; rw [if_pos rfl]; exact hv
        · rw [if_neg (fun e => hji (hinj j i hj hlt e))]
          have h2 : f j = true := by simpa [hji] using hfj
          exact hst j _ h2 (hI.have_ j hj h2)
      · have h' : (if m = i then true else f m) = true := h
        rw [if_neg (Ne.symm him), hfm] at h'; cases h'
  · rintro f a w hall ⟨_, _, h3⟩
    exact h3 (hall m (by omega))
end
end Go.Proofs.YtbaakfcbakpmpaaGreatDoor

/- A region that draws its order, of which the last two operations wait for all: by what the slots hold. A step knows the frame's calls put off (it may panic). -/
namespace Go.Proofs.YtbaakfcbakpmpaaGreatDoor
set_option linter.unusedVariables false
set_option linter.unusedSimpArgs false
open Go.RowKit
set_option maxHeartbeats 2000000
section
variable {P : Program} {ops : Array Oper} {Q : Exit → Act → World → Prop}
theorem region_last7 {id : Nat} {a0 : Act} {w0 : World} (m : Nat) (slot : Nat → Nat) (F : (Nat → Bool) → Nat → World → Value → Prop) (T : (Nat → Bool) → World → Prop) (hm : P.follows .mixedOrders = true) (hb : backB .any ops = true)
    (hsz : ops.size = m + 2) (hanc : ((List.range m).all fun j => (ancOf .any ops m m).contains j) = true) (hanc2 : (edgesOf .any ops (m + 1)).contains m = true)
    (hs : ∀ i, slot i < a0.tmps.size) (hinj : ∀ i j, i < m → j < m → slot i = slot j → i = j) (h0 : T (fun _ => false) w0.drew)
    (hdst : ∀ i o, i < m → ops[i]? = some o → o.dst = some (slot i))
    (hstep : ∀ (f : Nat → Bool) (a : Act) (w : World) (i : Nat) (o : Oper), i < m → ops[i]? = some o → f i = false → (∀ e ∈ o.after, Region.binds .any e = true → f e.on = true ∧ F f e.on w (a.tmps.getD (slot e.on) undef)) → T f w →
      (∀ j, (∀ i, i < m → slot i ≠ j) → a.tmps.getD j undef = a0.tmps.getD j undef) → a.defers = a0.defers →
      o.wp P a w (fun a' w' => ∃ v, a' = a.put o.dst v ∧ F (fun j => if j = i then true else f j) i w' v ∧ T (fun j => if j = i then true else f j) w' ∧ ∀ j v', f j = true → F f j w v' → F (fun j => if j = i then true else f j) j w' v') Q)
    (hlast : ∀ (f : Nat → Bool) (vs : Nat → Value) (w : World) (o : Oper), ops[m]? = some o → (∀ i, i < m → f i = true) → T f w → (∀ i, i < m → F f i w (vs i)) →
      ∀ o2, ops[m + 1]? = some o2 → o.wp P { a0 with tmps := fillN slot vs m a0.tmps } w (fun a' w' => o2.wp P a' w' (fun a'' w'' => Q .normal a'' w'') Q) Q) :
    (Code.region id ops true).wp P Q a0 w0 := by
  refine region_inv hm hb (fun f a w => ShutF .any ops f ∧ (f m = false → Stand3 a0 m slot F T f a w) ∧ (f m = true → f (m + 1) = false → ∀ o2, ops[m + 1]? = some o2 → o2.wp P a w (fun a'' w'' => Q .normal a'' w'') Q) ∧ (f (m + 1) = true → Q .normal a w))
    ⟨(fun i h => by cases h), (fun _ => ⟨rfl, rfl, (fun _ _ => rfl), (fun _ _ _ => rfl), h0, (fun _ _ h => by cases h)⟩), (fun h => by cases h), (fun h => by cases h)⟩ ?_ ?_
  · rintro f a w i o ho hf hpre ⟨hc, h1, h2, h3⟩
    have hi := (Array.getElem?_eq_some_iff.1 ho).1
    have hee := edges_of ho hpre
    have hc' : ShutF .any ops (fun j => if j = i then true else f j) := by
      intro x hx y hy
      show (if y = i then true else f y) = true
      by_cases hyi : y = i
      · rw [if_pos hyi]
      · rw [if_neg hyi]
        by_cases hxi : x = i
        · subst hxi; exact hee y hy
        · exact hc x (by simpa [hxi] using hx) y hy
    have hpres : ∀ {g : Nat → Bool}, ShutF .any ops g → (∀ j ∈ edgesOf .any ops m, g j = true) → ∀ j, j < m → g j = true := fun hg he j hj => by
      have h4 := List.all_eq_true.1 hanc j (List.mem_range.2 hj)
      exact anc_true hg m m he j (by simpa using h4)
    have hf1 : f m = false → f (m + 1) = false := fun h => by
      cases h4 : f (m + 1) with
      | false => rfl
      | true =>
        have := hc (m + 1) h4 m (by simpa using hanc2)
        rw [h] at this
        cases this
    by_cases him : i = m
    · subst him
      have hI := h1 hf
      have hall := hpres hc hee
      have e : a = { a0 with tmps := fillN slot (fun j => a.tmps.getD (slot j) undef) i a0.tmps } := by
        have h5 : a.tmps = fillN slot (fun j => a.tmps.getD (slot j) undef) i a0.tmps := by
          refine ext_getD (by rw [fillN_size, hI.size]) (fun j => ?_)
          by_cases hj : ∃ k, k < i ∧ slot k = j
          · obtain ⟨k, hk, rfl⟩ := hj
            rw [fillN_at slot _ _ hs _ hinj k hk]
          · rw [fillN_get slot _ _ hs _ j (fun k hk e => hj ⟨k, hk, e⟩), hI.rest j (fun k hk e => hj ⟨k, hk, e⟩)]
        obtain ⟨t, d⟩ := a
        have h6 := hI.defers
        simp only at h5 h6
        rw [← h5, h6]
      obtain ⟨o2, ho2⟩ : ∃ o2, ops[i + 1]? = some o2 := ⟨_, Array.getElem?_eq_getElem (by omega)⟩
      have h7 := hlast f (fun j => a.tmps.getD (slot j) undef) w o ho hall hI.told (fun j hj => hI.have_ j hj (hall j hj)) o2 ho2
      rw [← e] at h7
      refine Oper.wp_mono (fun a' w' hT => ⟨hc', fun h => by simp at h, fun _ _ o3 ho3 => ?_, fun h => ?_⟩) h7
      · obtain rfl : o2 = o3 := Option.some.inj (ho2.symm.trans ho3)
        exact hT
      · have h' : (if i + 1 = i then true else f (i + 1)) = true := h
        rw [if_neg (by omega), hf1 hf] at h'
        cases h'
    by_cases him1 : i = m + 1
    · subst him1
      have hfm : f m = true := by simpa using hee m (by simpa using hanc2)
      refine Oper.wp_mono (fun a' w' hT => ⟨hc', fun h => ?_, fun _ h => by simp at h, fun _ => hT⟩) (h2 hfm hf o ho)
      have h' : (if m = m + 1 then true else f m) = false := h
      rw [if_neg (by omega), hfm] at h'
      cases h'
    · have hlt : i < m := by omega
      have hfm : f m = false := by
        cases hfm : f m with
        | false => rfl
        | true =>
          have := hpres hc (hc m hfm) i hlt
          rw [hf] at this
          cases this
      have hI := h1 hfm
      refine Oper.wp_mono ?_ (hstep f a w i o hlt ho hf (fun e he hbd => ⟨hpre e he hbd, hI.have_ e.on (by have := (back_of hb ho).2 e he hbd; omega) (hpre e he hbd)⟩) hI.told hI.rest hI.defers)
      rintro a' w' ⟨v, rfl, hv, ht, hst⟩
      rw [hdst i o hlt ho]
      have hsl : slot i < a.tmps.size := by rw [hI.size]; exact hs i
      refine ⟨hc', fun _ => ⟨hI.defers, by rw [← hI.size]; exact Array.size_setIfInBounds .., fun j hj => ?_, fun j hj hfj => ?_, ht, fun j hj hfj => ?_⟩, fun h _ => ?_, fun h => ?_⟩
      · show (a.tmps.setIfInBounds (slot i) v).getD j undef = _
        rw [getD_set _ _ _ _ hsl, if_neg (Ne.symm (hj i hlt))]
        exact hI.rest j hj
      · show (a.tmps.setIfInBounds (slot i) v).getD (slot j) undef = _
        have hji : j ≠ i := fun e => by simp [e] at hfj
        rw [getD_set _ _ _ _ hsl, if_neg (fun e => hji (hinj j i hj hlt e))]
        exact hI.yet j hj (by simpa [hji] using hfj)
      · show F (fun j => if j = i then true else f j) j w' ((a.tmps.setIfInBounds (slot i) v).getD (slot j) undef)
        rw [getD_set _ _ _ _ hsl]
        by_cases hji : j = i
        · subst hji; rw [if_pos rfl]; exact hv
        · rw [if_neg (fun e => hji (hinj j i hj hlt e))]
          have h2 : f j = true := by simpa [hji] using hfj
          exact hst j _ h2 (hI.have_ j hj h2)
      · have h' : (if m = i then true else f m) = true := h
        rw [if_neg (Ne.symm him), hfm] at h'; cases h'
      · have h' : (if m + 1 = i then true else f (m + 1)) = true := h
        rw [if_neg (Ne.symm him1), hf1 hfm] at h'; cases h'
  · rintro f a w hall ⟨_, _, _, h3⟩
    exact h3 (hall (m + 1) (by omega))
theorem region_tail2 {id : Nat} {a0 : Act} {w0 : World} (m : Nat) (slot : Nat → Nat) (F : Nat → World → Value → Prop) (hm : P.follows .mixedOrders = true) (hb : backB .any ops = true)
    (hsz : ops.size = m + 2) (hanc : ((List.range m).all fun j => (ancOf .any ops m m).contains j) = true) (hanc2 : (edgesOf .any ops (m + 1)).contains m = true)
    (hs : ∀ i, slot i < a0.tmps.size) (hinj : ∀ i j, i < m → j < m → slot i = slot j → i = j) (hF : ∀ i w w' v, F i w v → Below w.heap.size w w' → F i w' v)
    (hdst : ∀ i o, i < m → ops[i]? = some o → o.dst = some (slot i))
    (hstep : ∀ (a : Act) (w : World) (i : Nat) (o : Oper), i < m → ops[i]? = some o → (∀ e ∈ o.after, Region.binds .any e = true → F e.on w (a.tmps.getD (slot e.on) undef)) → Below w0.heap.size w0 w →
      (∀ j, (∀ i, i < m → slot i ≠ j) → a.tmps.getD j undef = a0.tmps.getD j undef) → a.defers = a0.defers →
      o.wp P a w (fun a' w' => ∃ v, a' = a.put o.dst v ∧ F i w' v ∧ Below w.heap.size w w') Q)
    (hlast : ∀ (vs : Nat → Value) (w : World) (o o2 : Oper), ops[m]? = some o → ops[m + 1]? = some o2 → Below w0.heap.size w0 w → (∀ i, i < m → F i w (vs i)) →
      o.wp P { a0 with tmps := fillN slot vs m a0.tmps } w (fun a' w' => o2.wp P a' w' (fun a'' w'' => Q .normal a'' w'') Q) Q) :
    (Code.region id ops true).wp P Q a0 w0 :=
  region_last7 m slot (fun _ => F) (fun _ w => Below w0.heap.size w0 w) hm hb hsz hanc hanc2 hs hinj ⟨rfl, rfl, rfl, Nat.le_refl _, fun _ _ => rfl⟩ hdst
    (fun f a w i o hi ho _ hpre hT hrest hdf => Oper.wp_mono (fun a' w' ⟨v, h1, h2, h3⟩ => ⟨v, h1, h2, hT.trans (h3.mono hT.size), fun j v' _ hv => hF j w w' v' hv h3⟩) (hstep a w i o hi ho (fun e he hbd => (hpre e he hbd).2) hT hrest hdf))
    (fun f vs w o ho _ hT hF o2 ho2 => hlast vs w o o2 ho ho2 hT hF)
end
end Go.Proofs.YtbaakfcbakpmpaaGreatDoor

/- script: Text, OutText. No conditions but those that each law states. -/
namespace Go.Proofs.YtbaakfcbakpmpaaGreatDoor
set_option linter.unusedVariables false
set_option linter.unusedSimpArgs false
open Go.RowKit Go.Shelf
set_option maxHeartbeats 8000000
set_option maxRecDepth 100000
theorem rg_call3 {P : Program} {o : Oper} {a : Act} {w : World} {K : Act → World → Prop} {Q : Exit → Act → World → Prop} (r s t k : Nat) (ty : Array TypeId) (x u v : Value) (R : Ending → World → Prop) (ho : o.op = Op.call { callee := .value (.func k), args := #[.tmp r, .tmp s, .tmp t], argTypes := ty }) (hx : a.tmps.getD r undef = x) (hu : a.tmps.getD s undef = u) (hv : a.tmps.getD t undef = v)
    (eg : ∀ args w, (callFunc k args).run P w = .ok (.enter k args) w) (hc : Calls P k #[x, u, v] w R) (hR : ∀ e w', R e w' → (∃ r, e = .returned r ∧ K (a.put o.dst r) w') ∨ ∃ ch, e = .panicked ch ∧ Q (.panic ch) a w') : o.wp P a w K Q := by
  have e := rg_ev hv
  have e1 := rg_ev hu
  have e0 := rg_ev hx
  have e2 : a.eval (.func k) = .func (.func k) #[] #[] := rfl
  unfold Oper.wp execOp
  simp [ho, resolve, invoke, e2, e, e1, e0, eg, go_sem]
  refine hc.mono ?_
  intro z w' hz
  rcases hR z w' hz with ⟨r, rfl, hk⟩ | ⟨ch, rfl, hk⟩
  · exact hk
  · exact hk
theorem rg_call0 {P : Program} {o : Oper} {a : Act} {w : World} {K : Act → World → Prop} {Q : Exit → Act → World → Prop} (k : Nat) (ty : Array TypeId) (R : Ending → World → Prop) (ho : o.op = Op.call { callee := .value (.func k), args := #[], argTypes := ty })
    (eg : ∀ args w, (callFunc k args).run P w = .ok (.enter k args) w) (hc : Calls P k #[] w R) (hR : ∀ e w', R e w' → ∃ r, e = .returned r ∧ K (a.put o.dst r) w') : o.wp P a w K Q := by
  have e2 : a.eval (.func k) = .func (.func k) #[] #[] := rfl
  unfold Oper.wp execOp
  simp [ho, resolve, invoke, e2, eg, go_sem]
  refine hc.mono ?_
  intro z w' hz
  obtain ⟨r, rfl, hk⟩ := hR z w' hz
  exact hk
def txtOut (o : Option (List UInt8)) : Value := match o with
  | some l => .tuple #[.string ⟨l.toArray⟩, .int .i64 0]
  | none => .tuple #[.string ⟨#[]⟩, .int .i64 2]
def otVal (k : Int) (x : Sc.St) (u : Value) : Value := .agg #[.int .i64 k, .int .u64 (x.conn : Int), .int .i64 x.topic, u]
theorem sc_cleartx (a : Addr) (w : World) (old : Value) (hc : w.cell? a = some old) (hz : w.frozen? a = false) :
    Calls Tryz.prog 38 #[.pointer (some a)] w fun e w' => e = .returned (.tuple #[]) ∧ w' = w.setCell a (.string ⟨#[]⟩) := by
  go_enter Tryz.func38, Tryz.ntmps38
  go_wp2
  simp [bodyPost, results, Tryz.results38, go_sem]
theorem tx_door (a : Act) (S : Nat) (W : World) (Q : Ending → World → Prop) (hd : a.defers = [{ target := Target.fn (Fn.func 37) #[], args := #[.pointer (some ⟨S + 1 + 1, 0, none⟩), .func (.func 38) #[] #[.pointer (some ⟨S + 1, 0, none⟩)]] }]) (h2 : a.tmps.getD 2 undef = .pointer (some ⟨S + 1, 0, none⟩)) (h3 : a.tmps.getD 3 undef = .pointer (some ⟨S + 1 + 1, 0, none⟩))
    (hT : W.heap[S + 1]? = some (.cells #[.string ⟨#[]⟩] 9 (0, 0))) (hE : W.heap[S + 1 + 1]? = some (.cells #[.int .i64 0] 31 (0, 0))) (hQ : Q (.returned (txtOut none)) ((W.setCell ⟨S + 1, 0, none⟩ (.string ⟨#[]⟩)).setCell ⟨S + 1 + 1, 0, none⟩ (.int .i64 2))) :
    bodyPostD Tryz.prog Tryz.f12 Q (.panic [{ v := errno 2, recovered := false }]) a W := by
  obtain ⟨tm, df⟩ := a
  simp only at hd h2 h3
  subst hd
  have e2 := rg_ev (a := ⟨tm, []⟩) h2
  have e3 := rg_ev (a := ⟨tm, []⟩) h3
  simp only at e2 e3
  have c0 : W.cell? ⟨S + 1, 0, none⟩ = some (.string ⟨#[]⟩) := by simp [World.cell?, hT]
  have z0 : W.frozen? ⟨S + 1, 0, none⟩ = false := frozen_of_row _ _ _ _ _ hT
  have hE2 : (W.setCell ⟨S + 1, 0, none⟩ (.string ⟨#[]⟩)).heap[S + 1 + 1]? = some (.cells #[.int .i64 0] 31 (0, 0)) := (Below.heap_setCell _ _ _ _ (by show S + 1 + 1 ≠ S + 1; omega)).trans hE
  have c2 : (W.setCell ⟨S + 1, 0, none⟩ (.string ⟨#[]⟩)).cell? ⟨S + 1 + 1, 0, none⟩ = some (.int .i64 0) := by simp [World.cell?, hE2]
  have z2 : (W.setCell ⟨S + 1, 0, none⟩ (.string ⟨#[]⟩)).frozen? ⟨S + 1 + 1, 0, none⟩ = false := frozen_of_row _ _ _ _ _ hE2
  refine leaves_cons (f := 37) (args := #[.pointer (some ⟨S + 1 + 1, 0, none⟩), .func (.func 38) #[] #[.pointer (some ⟨S + 1, 0, none⟩)]]) (by simp) (by simp [go_sem]) ?_
  refine (sc_caught ⟨S + 1 + 1, 0, none⟩ 38 #[.pointer (some ⟨S + 1, 0, none⟩)] 2 [] W (W.setCell ⟨S + 1, 0, none⟩ (.string ⟨#[]⟩)) (fun W => enters_of Tryz.func38 (by kernel_rfl) rfl _ W) (sc_cleartx _ _ _ c0 z0) (.int .i64 0) c2 z2).mono ?_
  rintro e u' w'' ⟨rfl, rfl, rfl⟩
  have hT1 : ((W.setCell ⟨S + 1, 0, none⟩ (.string ⟨#[]⟩)).setCell ⟨S + 1 + 1, 0, none⟩ (.int .i64 2)).heap[S + 1]? = some (.cells #[.string ⟨#[]⟩] 9 (0, 0)) := (Below.heap_setCell _ _ _ _ (by show S + 1 ≠ S + 1 + 1; omega)).trans (heap_setCell_same _ _ 0 _ _ _ hT)
  have hE3 : ((W.setCell ⟨S + 1, 0, none⟩ (.string ⟨#[]⟩)).setCell ⟨S + 1 + 1, 0, none⟩ (.int .i64 2)).heap[S + 1 + 1]? = some (.cells #[.int .i64 2] 31 (0, 0)) := heap_setCell_same _ _ 0 _ _ _ hE2
  obtain ⟨X, hX⟩ : ∃ X, (W.setCell ⟨S + 1, 0, none⟩ (.string ⟨#[]⟩)).setCell ⟨S + 1 + 1, 0, none⟩ (.int .i64 2) = X := ⟨_, rfl⟩
  rw [hX] at hT1 hE3 hQ ⊢
  have x0 : X.cell? ⟨S + 1, 0, none⟩ = some (.string ⟨#[]⟩) := by simp [World.cell?, hT1]
  have x1 : X.cell? ⟨S + 1 + 1, 0, none⟩ = some (.int .i64 2) := by simp [World.cell?, hE3]
  clear hX hT1 hE3 hE2 c0 z0 c2 z2 hT hE
  simp [Leaves, settle, results, Tryz.results12, go_sem, e2, e3, x0, x1]
  exact hQ
def txNF (S UN uc : Nat) (up : Option Addr) (x : Sc.St) (lb : ByteArray) : Nat → World → Value → Prop
  | 0, w, v => ∃ b, v = .map (some b) ∧ ShAt w b Sc.stepT
  | 1, _, v => v = .pointer (some ⟨S, 0, none⟩)
  | 2, _, v => v = .int .i64 x.kind
  | 3, _, v => v = .agg #[.int .i64 x.kind, .int .u64 (x.conn : Int), .int .i64 x.topic, .int .u64 (x.n : Int), .int .u64 (x.draw : Int), .slice up UN uc]
  | 4, w, v => False
  | _, _, _ => False
def txYF (S UN uc : Nat) (up : Option Addr) (x : Sc.St) (lb : ByteArray) : Nat → World → Value → Prop
  | 0, w, v => ∃ b, v = .map (some b) ∧ ShAt w b Sc.stepT
  | 1, _, v => v = .pointer (some ⟨S, 0, none⟩)
  | 2, _, v => v = .int .i64 x.kind
  | 3, _, v => v = .agg #[.int .i64 x.kind, .int .u64 (x.conn : Int), .int .i64 x.topic, .int .u64 (x.n : Int), .int .u64 (x.draw : Int), .slice up UN uc]
  | 4, _, v => v = .string lb
  | _, _, _ => False
theorem sc_Text (x : Sc.St) (u : Value) (w : World) (hu : BR w u x.bytes) (hl : x.bytes.length ≤ 100000) (hx : x.ok) (ht : Tabs w) :
    Calls Tryz.prog 12 #[stVal x u] w fun e w' => e = .returned (txtOut (Sc.line Sc.stepT x.kind x)) ∧ Below w.heap.size w w' := by
  have hmf : ∀ (fn : Fn) (first cap : Array Value) (w : World), (Instr.makeFunc fn first cap).run Tryz.prog w = .ok (.func fn first cap) w := fun _ _ _ _ => rfl
  obtain ⟨up, uc, hus⟩ : ∃ p c, u = .slice p x.bytes.length c := by obtain ⟨p, c, h, _⟩ := hu; exact ⟨p, c, h⟩
  obtain ⟨UN, hUN⟩ : ∃ z, x.bytes.length = z := ⟨_, rfl⟩
  rw [hUN] at hus
  subst hus
  clear hUN
  obtain ⟨S, hS⟩ : ∃ z, w.heap.size = z := ⟨_, rfl⟩
  obtain ⟨W3, hW3⟩ : ∃ z, ((w.alloc (stObj x (.slice up UN uc))).alloc (.cells #[.string ⟨#[]⟩] 9)).alloc (.cells #[.int .i64 0] 31) = z := ⟨_, rfl⟩
  have hb3 : Below w.heap.size w W3 := by rw [← hW3]; exact (((Below.refl _ _).alloc (Nat.le_refl _) _).alloc (by simp) _).alloc (by simp; omega) _
  have hz3 : W3.heap.size = S + 3 := by rw [← hW3, ← hS]; simp
  have hS3 : W3.heap[S]? = some (stObj x (.slice up UN uc)) := by
    rw [← hW3, Below.heap_alloc _ _ _ (by simp; omega), Below.heap_alloc _ _ _ (by simp; omega), ← hS]
    exact World.alloc_heap_new _ _
  have hT3 : W3.heap[S + 1]? = some (.cells #[.string ⟨#[]⟩] 9 (0, 0)) := by
    rw [← hW3, Below.heap_alloc _ _ _ (by simp; omega), ← hS]
    have := World.alloc_heap_new (w.alloc (stObj x (.slice up UN uc))) (.cells #[.string ⟨#[]⟩] 9)
    simpa using this
  have hE3 : W3.heap[S + 1 + 1]? = some (.cells #[.int .i64 0] 31 (0, 0)) := by
    rw [← hW3, ← hS]
    have := World.alloc_heap_new ((w.alloc (stObj x (.slice up UN uc))).alloc (.cells #[.string ⟨#[]⟩] 9)) (.cells #[.int .i64 0] 31)
    simpa using this
  have HB3 := Lib.hid hb3
  have HZ3 := Lib.hid hz3
  have HS3 := Lib.hid hS3
  have HT3 := Lib.hid hT3
  have HE3 := Lib.hid hE3
  have HW3 := Lib.hid hW3
  have HSS := Lib.hid hS
  have KS := Lib.hid sc_steps
  have KL := Lib.hid (show ∀ (b : Nat) (W : World), ShAt W b Sc.stepT → Below W3.heap.size W3 W → Calls Tryz.prog 39 #[.map (some b), .int .i64 x.kind, stVal x (.slice up UN uc)] W fun e w' => e = txtEnd (Sc.line Sc.stepT x.kind x) ∧ Below W.heap.size W w' from fun b W h hb =>
    sc_line (.inl rfl) b x.kind x _ W h ((hu.below hb3).below hb) hl hx ((ht.below hb3).below hb))
  obtain ⟨o, ho⟩ : ∃ z, Sc.line Sc.stepT x.kind x = z := ⟨_, rfl⟩
  rw [ho] at KL ⊢
  have HBB := Lib.hid (show ∀ W, Below W3.heap.size W3 W → Below w.heap.size w W from fun W hb => hb3.trans (hb.mono hb3.size))
  clear hu hl hx ht hS hW3 hb3 hz3 hS3 hT3 hE3 ho
  unfold stObj at HW3
  unfold stVal at KL ⊢
  go_enter_defers Tryz.func12, Tryz.ntmps12
  go_upto_region 2 with (fail)
  rw [HSS.out, HW3.out]
  have HDOOR := Lib.hid (show ∀ (a : Act) (W : World), a.defers = [{ target := Target.fn (Fn.func 37) #[], args := #[.pointer (some ⟨S + 1 + 1, 0, none⟩), .func (.func 38) #[] #[.pointer (some ⟨S + 1, 0, none⟩)]] }] → a.tmps.getD 2 undef = .pointer (some ⟨S + 1, 0, none⟩) → a.tmps.getD 3 undef = .pointer (some ⟨S + 1 + 1, 0, none⟩) → Below W3.heap.size W3 W →
      bodyPostD Tryz.prog Tryz.f12 (fun e w' => e = .returned (txtOut none) ∧ Below w.heap.size w w') (.panic [{ v := errno 2, recovered := false }]) a W from fun a W hd h2 h3 hb =>
    tx_door a S W _ hd h2 h3 ((hb.block _ (Array.getElem?_eq_some_iff.1 HT3.out).1).trans HT3.out) ((hb.block _ (Array.getElem?_eq_some_iff.1 HE3.out).1).trans HE3.out)
      ⟨rfl, ((HBB.out W hb).setCell (p := ⟨S + 1, 0, none⟩) (by rw [HSS.out]; show S ≤ S + 1; omega) _).setCell (p := ⟨S + 1 + 1, 0, none⟩) (by rw [HSS.out]; show S ≤ S + 1 + 1; omega) _⟩)
  cases o with
  | none =>
    refine region_tail2 5 (fun i => 5 + min i 4) (txNF S UN uc up x ⟨#[]⟩) (by kernel_rfl) (by kernel_rfl) rfl (by kernel_rfl) (by kernel_rfl) (fun i => by show 5 + min i 4 < _; simp; omega) (fun i j hi hj h => by have h : 5 + min i 4 = 5 + min j 4 := h; omega) ?mono ?dst ?step ?last
    case mono =>
      intro i W W' v h hbw
      match i, h with
      | 1, h | 2, h | 3, h | 4, h => exact h
      | 0, h => exact (by obtain ⟨b, h1, h2⟩ := h; exact ⟨b, h1, h2.below hbw⟩)
      | n + 5, h => exact h.elim
    case dst =>
      intro i o hi ho
      match i, hi, ho with
      | 0, _, ho => cases ho; rfl
      | 1, _, ho => cases ho; rfl
      | 2, _, ho => cases ho; rfl
      | 3, _, ho => cases ho; rfl
      | 4, _, ho => cases ho; rfl
      | n + 5, hi, _ => exact absurd hi (by omega)
    case step =>
      intro a' W i o hib ho hpre hbel hrest hdf
      match i, hib, ho with
      | 0, _, ho =>
        cases ho
        exact rg_call0 40 _ _ rfl (enters_of Tryz.func40 (by kernel_rfl) rfl) (KS.out W) (fun e w' h => by obtain ⟨b, h1, h2, h3⟩ := h; exact ⟨_, h1, _, rfl, ⟨b, rfl, h2⟩, h3⟩)
      | 1, _, ho =>
        cases ho
        have q1 : a'.tmps.getD 1 undef = .pointer (some ⟨S, 0, none⟩) := hrest 1 (by intro i hi; show 5 + min i 4 ≠ _; omega)
        have e1 := rg_ev q1
        exact rg_same (.pointer (some ⟨S, 0, none⟩)) (by unfold Oper.wp execOp; go_simp; all_goals ((try simp only [e1]); (try go_simp); (try rw [if_pos (by omega)]); (try rw [if_neg (by omega)]); first | done | rfl | exact ⟨rfl, rfl⟩ | trivial)) rfl
      | 2, _, ho =>
        cases ho
        have q6 : a'.tmps.getD 6 undef = .pointer (some ⟨S, 0, none⟩) := hpre { on := 1, ground := .data } (by simp) rfl
        have hSW := (hbel.block _ (Array.getElem?_eq_some_iff.1 HS3.out).1).trans HS3.out
        obtain ⟨s0, s1, s2, s3, s4, s5, _⟩ := SR.of hSW
        have e6 := rg_ev q6
        exact rg_same (.int .i64 x.kind) (by unfold Oper.wp execOp; go_simp; all_goals ((try simp only [e6]); (try go_simp); (try rw [if_pos (by omega)]); (try rw [if_neg (by omega)]); first | done | rfl | exact ⟨rfl, rfl⟩ | trivial)) rfl
      | 3, _, ho =>
        cases ho
        have q1 : a'.tmps.getD 1 undef = .pointer (some ⟨S, 0, none⟩) := hrest 1 (by intro i hi; show 5 + min i 4 ≠ _; omega)
        have hSW := (hbel.block _ (Array.getElem?_eq_some_iff.1 HS3.out).1).trans HS3.out
        obtain ⟨s0, s1, s2, s3, s4, s5, _⟩ := SR.of hSW
        have e1 := rg_ev q1
        exact rg_same (.agg #[.int .i64 x.kind, .int .u64 (x.conn : Int), .int .i64 x.topic, .int .u64 (x.n : Int), .int .u64 (x.draw : Int), .slice up UN uc]) (by unfold Oper.wp execOp; go_simp; all_goals ((try simp only [e1]); (try go_simp); (try rw [if_pos (by omega)]); (try rw [if_neg (by omega)]); first | done | rfl | exact ⟨rfl, rfl⟩ | trivial)) rfl
      | 4, _, ho =>
        cases ho
        have h5 := hpre { on := 0, ground := .data } (by simp) rfl
        have q7 : a'.tmps.getD 7 undef = .int .i64 x.kind := hpre { on := 2, ground := .data } (by simp) rfl
        have q8 : a'.tmps.getD 8 undef = .agg #[.int .i64 x.kind, .int .u64 (x.conn : Int), .int .i64 x.topic, .int .u64 (x.n : Int), .int .u64 (x.draw : Int), .slice up UN uc] := hpre { on := 3, ground := .data } (by simp) rfl
        obtain ⟨b, hb1, hb2⟩ := h5
        exact rg_call3 5 7 8 39 _ _ _ _ _ rfl hb1 q7 q8 (enters_of Tryz.func39 (by kernel_rfl) rfl) (KL.out b W hb2 hbel) (fun e w' h => .inr ⟨_, h.1, HDOOR.out _ _ hdf (hrest 2 (by intro i hi; show 5 + min i 4 ≠ _; omega)) (hrest 3 (by intro i hi; show 5 + min i 4 ≠ _; omega)) (hbel.trans (h.2.mono hbel.size))⟩)
      | n + 5, hib, _ => exact absurd hib (by omega)
    case last =>
      intro vs W o o2 ho ho2 hbel hvs
      exact (hvs 4 (by decide)).elim
  | some l =>
    obtain ⟨lb, hlb⟩ : ∃ z : ByteArray, (⟨l.toArray⟩ : ByteArray) = z := ⟨_, rfl⟩
    have HLB := Lib.hid hlb
    clear hlb
    refine region_tail2 5 (fun i => 5 + min i 4) (txYF S UN uc up x lb) (by kernel_rfl) (by kernel_rfl) rfl (by kernel_rfl) (by kernel_rfl) (fun i => by show 5 + min i 4 < _; simp; omega) (fun i j hi hj h => by have h : 5 + min i 4 = 5 + min j 4 := h; omega) ?mono ?dst ?step ?last
    case mono =>
      intro i W W' v h hbw
      match i, h with
      | 1, h | 2, h | 3, h | 4, h => exact h
      | 0, h => exact (by obtain ⟨b, h1, h2⟩ := h; exact ⟨b, h1, h2.below hbw⟩)
      | n + 5, h => exact h.elim
    case dst =>
      intro i o hi ho
      match i, hi, ho with
      | 0, _, ho => cases ho; rfl
      | 1, _, ho => cases ho; rfl
      | 2, _, ho => cases ho; rfl
      | 3, _, ho => cases ho; rfl
      | 4, _, ho => cases ho; rfl
      | n + 5, hi, _ => exact absurd hi (by omega)
    case step =>
      intro a' W i o hib ho hpre hbel hrest hdf
      match i, hib, ho with
      | 0, _, ho =>
        cases ho
        exact rg_call0 40 _ _ rfl (enters_of Tryz.func40 (by kernel_rfl) rfl) (KS.out W) (fun e w' h => by obtain ⟨b, h1, h2, h3⟩ := h; exact ⟨_, h1, _, rfl, ⟨b, rfl, h2⟩, h3⟩)
      | 1, _, ho =>
        cases ho
        have q1 : a'.tmps.getD 1 undef = .pointer (some ⟨S, 0, none⟩) := hrest 1 (by intro i hi; show 5 + min i 4 ≠ _; omega)
        have e1 := rg_ev q1
        exact rg_same (.pointer (some ⟨S, 0, none⟩)) (by unfold Oper.wp execOp; go_simp; all_goals ((try simp only [e1]); (try go_simp); (try rw [if_pos (by omega)]); (try rw [if_neg (by omega)]); first | done | rfl | exact ⟨rfl, rfl⟩ | trivial)) rfl
      | 2, _, ho =>
        cases ho
        have q6 : a'.tmps.getD 6 undef = .pointer (some ⟨S, 0, none⟩) := hpre { on := 1, ground := .data } (by simp) rfl
        have hSW := (hbel.block _ (Array.getElem?_eq_some_iff.1 HS3.out).1).trans HS3.out
        obtain ⟨s0, s1, s2, s3, s4, s5, _⟩ := SR.of hSW
        have e6 := rg_ev q6
        exact rg_same (.int .i64 x.kind) (by unfold Oper.wp execOp; go_simp; all_goals ((try simp only [e6]); (try go_simp); (try rw [if_pos (by omega)]); (try rw [if_neg (by omega)]); first | done | rfl | exact ⟨rfl, rfl⟩ | trivial)) rfl
      | 3, _, ho =>
        cases ho
        have q1 : a'.tmps.getD 1 undef = .pointer (some ⟨S, 0, none⟩) := hrest 1 (by intro i hi; show 5 + min i 4 ≠ _; omega)
        have hSW := (hbel.block _ (Array.getElem?_eq_some_iff.1 HS3.out).1).trans HS3.out
        obtain ⟨s0, s1, s2, s3, s4, s5, _⟩ := SR.of hSW
        have e1 := rg_ev q1
        exact rg_same (.agg #[.int .i64 x.kind, .int .u64 (x.conn : Int), .int .i64 x.topic, .int .u64 (x.n : Int), .int .u64 (x.draw : Int), .slice up UN uc]) (by unfold Oper.wp execOp; go_simp; all_goals ((try simp only [e1]); (try go_simp); (try rw [if_pos (by omega)]); (try rw [if_neg (by omega)]); first | done | rfl | exact ⟨rfl, rfl⟩ | trivial)) rfl
      | 4, _, ho =>
        cases ho
        have h5 := hpre { on := 0, ground := .data } (by simp) rfl
        have q7 : a'.tmps.getD 7 undef = .int .i64 x.kind := hpre { on := 2, ground := .data } (by simp) rfl
        have q8 : a'.tmps.getD 8 undef = .agg #[.int .i64 x.kind, .int .u64 (x.conn : Int), .int .i64 x.topic, .int .u64 (x.n : Int), .int .u64 (x.draw : Int), .slice up UN uc] := hpre { on := 3, ground := .data } (by simp) rfl
        obtain ⟨b, hb1, hb2⟩ := h5
        exact rg_call3 5 7 8 39 _ _ _ _ _ rfl hb1 q7 q8 (enters_of Tryz.func39 (by kernel_rfl) rfl) (KL.out b W hb2 hbel) (fun e w' h => by
          rw [← HLB.out]
          exact .inl ⟨_, h.1, _, rfl, rfl, h.2⟩)
      | n + 5, hib, _ => exact absurd hib (by omega)
    case last =>
      intro vs W o o2 ho ho2 hbel hvs
      have hop1 : o.op = Op.store 9 (.tmp 2) (.tmp 9) := by cases ho; rfl
      have hds1 : o.dst = none := by cases ho; rfl
      have hop2 : o2.op = Op.store 31 (.tmp 3) (.const (.int .i64 0)) := by cases ho2; rfl
      have hds2 : o2.dst = none := by cases ho2; rfl
      clear ho ho2
      have HBR := Lib.hid hbel
      obtain ⟨y0, v0, w0⟩ : ∃ z, vs 0 = z ∧ txYF S UN uc up x lb 0 W z := ⟨_, rfl, hvs 0 (by decide)⟩
      have v1 : vs 1 = .pointer (some ⟨S, 0, none⟩) := hvs 1 (by decide)
      have v2 : vs 2 = .int .i64 x.kind := hvs 2 (by decide)
      have v3 : vs 3 = .agg #[.int .i64 x.kind, .int .u64 (x.conn : Int), .int .i64 x.topic, .int .u64 (x.n : Int), .int .u64 (x.draw : Int), .slice up UN uc] := hvs 3 (by decide)
      have v4 : vs 4 = .string lb := hvs 4 (by decide)
      simp only [fillN, List.size_toArray, List.length_cons, List.length_nil, Nat.reduceAdd, show List.range 5 = [0, 1, 2, 3, 4] from rfl, List.foldl_cons, List.foldl_nil, show 5 + min 0 4 = 5 from rfl, show 5 + min 1 4 = 6 from rfl, show 5 + min 2 4 = 7 from rfl, show 5 + min 3 4 = 8 from rfl, show 5 + min 4 4 = 9 from rfl, v0, v1, v2, v3, v4]
      clear v0 v1 v2 v3 v4 hvs
      have hTW := (hbel.block _ (Array.getElem?_eq_some_iff.1 HT3.out).1).trans HT3.out
      have hEW := (hbel.block _ (Array.getElem?_eq_some_iff.1 HE3.out).1).trans HE3.out
      have t0 : W.cell? ⟨S + 1, 0, none⟩ = some (.string ⟨#[]⟩) := by simp [World.cell?, hTW]
      have tz : W.frozen? ⟨S + 1, 0, none⟩ = false := frozen_of_row _ _ _ _ _ hTW
      have hE2 : (W.setCell ⟨S + 1, 0, none⟩ (.string lb)).heap[S + 1 + 1]? = some (.cells #[.int .i64 0] 31 (0, 0)) := (Below.heap_setCell _ _ _ _ (by show S + 1 + 1 ≠ S + 1; omega)).trans hEW
      have c2 : (W.setCell ⟨S + 1, 0, none⟩ (.string lb)).cell? ⟨S + 1 + 1, 0, none⟩ = some (.int .i64 0) := by simp [World.cell?, hE2]
      have z2 : (W.setCell ⟨S + 1, 0, none⟩ (.string lb)).frozen? ⟨S + 1 + 1, 0, none⟩ = false := frozen_of_row _ _ _ _ _ hE2
      have hT1 : ((W.setCell ⟨S + 1, 0, none⟩ (.string lb)).setCell ⟨S + 1 + 1, 0, none⟩ (.int .i64 0)).heap[S + 1]? = some (.cells #[.string lb] 9 (0, 0)) := (Below.heap_setCell _ _ _ _ (by show S + 1 ≠ S + 1 + 1; omega)).trans (heap_setCell_same _ _ 0 _ _ _ hTW)
      have hE4 : ((W.setCell ⟨S + 1, 0, none⟩ (.string lb)).setCell ⟨S + 1 + 1, 0, none⟩ (.int .i64 0)).heap[S + 1 + 1]? = some (.cells #[.int .i64 0] 31 (0, 0)) := heap_setCell_same _ _ 0 _ _ _ hE2
      have HXT := Lib.hid hT1
      have HXE := Lib.hid hE4
      have HXB := Lib.hid (((HBB.out W hbel).setCell (p := ⟨S + 1, 0, none⟩) (by rw [HSS.out]; show S ≤ S + 1; omega) (.string lb)).setCell (p := ⟨S + 1 + 1, 0, none⟩) (by rw [HSS.out]; show S ≤ S + 1 + 1; omega) (.int .i64 0))
      clear hTW hEW hE2 hT1 hE4 hbel
      unfold Oper.wp execOp
      simp only [hop1, hop2]
      go_simp
      clear t0 tz c2 z2 hop1 hop2 hds1 hds2
      obtain ⟨X, hX⟩ : ∃ X, (W.setCell ⟨S + 1, 0, none⟩ (.string lb)).setCell ⟨S + 1 + 1, 0, none⟩ (.int .i64 0) = X := ⟨_, rfl⟩
      rw [hX] at HXT HXE HXB ⊢
      have x0 : X.cell? ⟨S + 1, 0, none⟩ = some (.string lb) := by simp [World.cell?, HXT.out]
      have x1 : X.cell? ⟨S + 1 + 1, 0, none⟩ = some (.int .i64 0) := by simp [World.cell?, HXE.out]
      clear hX
      go_wp2_with fail
      refine leaves_cons (f := 37) (args := #[.pointer (some ⟨S + 1 + 1, 0, none⟩), .func (.func 38) #[] #[.pointer (some ⟨S + 1, 0, none⟩)]]) (by simp) (by simp [go_sem]) ?_
      refine (sc_caught_idle _ _ _).mono ?_
      rintro e u' w'' ⟨rfl, rfl, rfl⟩
      simp [Leaves, settle, results, Tryz.results12, go_sem, x0, x1]
      exact ⟨by rw [← HLB.out]; rfl, HXB.out⟩
end Go.Proofs.YtbaakfcbakpmpaaGreatDoor

/- script: Text, OutText. No conditions but those that each law states. -/
namespace Go.Proofs.YtbaakfcbakpmpaaGreatDoor
set_option linter.unusedVariables false
set_option linter.unusedSimpArgs false
open Go.RowKit Go.Shelf
set_option maxHeartbeats 8000000
set_option maxRecDepth 100000
def otObj (k : Int) (x : Sc.St) (u : Value) : Obj := .cells #[.int .i64 k, .int .u64 (x.conn : Int), .int .i64 x.topic, u] 29 (0, 0)
theorem sc_clearot (a : Addr) (w : World) (old : Value) (hc : w.cell? a = some old) (hz : w.frozen? a = false) :
    Calls Tryz.prog 41 #[.pointer (some a)] w fun e w' => e = .returned (.tuple #[]) ∧ w' = w.setCell a (.string ⟨#[]⟩) := by
  go_enter Tryz.func41, Tryz.ntmps41
  go_wp2
  simp [bodyPost, results, Tryz.results41, go_sem]
theorem ot_door (a : Act) (S : Nat) (W : World) (Q : Ending → World → Prop) (hd : a.defers = [{ target := Target.fn (Fn.func 37) #[], args := #[.pointer (some ⟨S + 1 + 1, 0, none⟩), .func (.func 41) #[] #[.pointer (some ⟨S + 1, 0, none⟩)]] }]) (h2 : a.tmps.getD 2 undef = .pointer (some ⟨S + 1, 0, none⟩)) (h3 : a.tmps.getD 3 undef = .pointer (some ⟨S + 1 + 1, 0, none⟩))
    (hT : W.heap[S + 1]? = some (.cells #[.string ⟨#[]⟩] 9 (0, 0))) (hE : W.heap[S + 1 + 1]? = some (.cells #[.int .i64 0] 31 (0, 0))) (hQ : Q (.returned (txtOut none)) ((W.setCell ⟨S + 1, 0, none⟩ (.string ⟨#[]⟩)).setCell ⟨S + 1 + 1, 0, none⟩ (.int .i64 2))) :
    bodyPostD Tryz.prog Tryz.f13 Q (.panic [{ v := errno 2, recovered := false }]) a W := by
  obtain ⟨tm, df⟩ := a
  simp only at hd h2 h3
  subst hd
  have e2 := rg_ev (a := ⟨tm, []⟩) h2
  have e3 := rg_ev (a := ⟨tm, []⟩) h3
  simp only at e2 e3
  have c0 : W.cell? ⟨S + 1, 0, none⟩ = some (.string ⟨#[]⟩) := by simp [World.cell?, hT]
  have z0 : W.frozen? ⟨S + 1, 0, none⟩ = false := frozen_of_row _ _ _ _ _ hT
  have hE2 : (W.setCell ⟨S + 1, 0, none⟩ (.string ⟨#[]⟩)).heap[S + 1 + 1]? = some (.cells #[.int .i64 0] 31 (0, 0)) := (Below.heap_setCell _ _ _ _ (by show S + 1 + 1 ≠ S + 1; omega)).trans hE
  have c2 : (W.setCell ⟨S + 1, 0, none⟩ (.string ⟨#[]⟩)).cell? ⟨S + 1 + 1, 0, none⟩ = some (.int .i64 0) := by simp [World.cell?, hE2]
  have z2 : (W.setCell ⟨S + 1, 0, none⟩ (.string ⟨#[]⟩)).frozen? ⟨S + 1 + 1, 0, none⟩ = false := frozen_of_row _ _ _ _ _ hE2
  refine leaves_cons (f := 37) (args := #[.pointer (some ⟨S + 1 + 1, 0, none⟩), .func (.func 41) #[] #[.pointer (some ⟨S + 1, 0, none⟩)]]) (by simp) (by simp [go_sem]) ?_
  refine (sc_caught ⟨S + 1 + 1, 0, none⟩ 41 #[.pointer (some ⟨S + 1, 0, none⟩)] 2 [] W (W.setCell ⟨S + 1, 0, none⟩ (.string ⟨#[]⟩)) (fun W => enters_of Tryz.func41 (by kernel_rfl) rfl _ W) (sc_clearot _ _ _ c0 z0) (.int .i64 0) c2 z2).mono ?_
  rintro e u' w'' ⟨rfl, rfl, rfl⟩
  have hT1 : ((W.setCell ⟨S + 1, 0, none⟩ (.string ⟨#[]⟩)).setCell ⟨S + 1 + 1, 0, none⟩ (.int .i64 2)).heap[S + 1]? = some (.cells #[.string ⟨#[]⟩] 9 (0, 0)) := (Below.heap_setCell _ _ _ _ (by show S + 1 ≠ S + 1 + 1; omega)).trans (heap_setCell_same _ _ 0 _ _ _ hT)
  have hE3 : ((W.setCell ⟨S + 1, 0, none⟩ (.string ⟨#[]⟩)).setCell ⟨S + 1 + 1, 0, none⟩ (.int .i64 2)).heap[S + 1 + 1]? = some (.cells #[.int .i64 2] 31 (0, 0)) := heap_setCell_same _ _ 0 _ _ _ hE2
  obtain ⟨X, hX⟩ : ∃ X, (W.setCell ⟨S + 1, 0, none⟩ (.string ⟨#[]⟩)).setCell ⟨S + 1 + 1, 0, none⟩ (.int .i64 2) = X := ⟨_, rfl⟩
  rw [hX] at hT1 hE3 hQ ⊢
  have x0 : X.cell? ⟨S + 1, 0, none⟩ = some (.string ⟨#[]⟩) := by simp [World.cell?, hT1]
  have x1 : X.cell? ⟨S + 1 + 1, 0, none⟩ = some (.int .i64 2) := by simp [World.cell?, hE3]
  clear hX hT1 hE3 hE2 c0 z0 c2 z2 hT hE
  simp [Leaves, settle, results, Tryz.results13, go_sem, e2, e3, x0, x1]
  exact hQ
def otNF (S UN uc : Nat) (up : Option Addr) (k : Int) (x : Sc.St) (lb : ByteArray) : Nat → World → Value → Prop
  | 0, w, v => ∃ b, v = .map (some b) ∧ ShAt w b Sc.outT
  | 1, _, v => v = .pointer (some ⟨S, 0, none⟩)
  | 2, _, v => v = .int .i64 k
  | 3, _, v => v = .pointer (some ⟨S, 1, none⟩)
  | 4, _, v => v = .int .u64 (x.conn : Int)
  | 5, _, v => v = .pointer (some ⟨S, 2, none⟩)
  | 6, _, v => v = .int .i64 x.topic
  | 7, _, v => v = .pointer (some ⟨S, 3, none⟩)
  | 8, _, v => v = .slice up UN uc
  | 9, _, v => v = .agg #[.int .i64 0, .int .u64 (x.conn : Int), .int .i64 x.topic, .int .u64 0, .int .u64 0, .slice up UN uc]
  | 10, w, v => False
  | _, _, _ => False
def otYF (S UN uc : Nat) (up : Option Addr) (k : Int) (x : Sc.St) (lb : ByteArray) : Nat → World → Value → Prop
  | 0, w, v => ∃ b, v = .map (some b) ∧ ShAt w b Sc.outT
  | 1, _, v => v = .pointer (some ⟨S, 0, none⟩)
  | 2, _, v => v = .int .i64 k
  | 3, _, v => v = .pointer (some ⟨S, 1, none⟩)
  | 4, _, v => v = .int .u64 (x.conn : Int)
  | 5, _, v => v = .pointer (some ⟨S, 2, none⟩)
  | 6, _, v => v = .int .i64 x.topic
  | 7, _, v => v = .pointer (some ⟨S, 3, none⟩)
  | 8, _, v => v = .slice up UN uc
  | 9, _, v => v = .agg #[.int .i64 0, .int .u64 (x.conn : Int), .int .i64 x.topic, .int .u64 0, .int .u64 0, .slice up UN uc]
  | 10, _, v => v = .string lb
  | _, _, _ => False
theorem sc_OutText (k : Int) (x : Sc.St) (u : Value) (w : World) (hu : BR w u x.bytes) (hl : x.bytes.length ≤ 100000) (hx : x.ok) (ht : Tabs w) (h0 : x.n = 0 ∧ x.draw = 0 ∧ x.kind = 0) :
    Calls Tryz.prog 13 #[otVal k x u] w fun e w' => e = .returned (txtOut (Sc.line Sc.outT k x)) ∧ Below w.heap.size w w' := by
  have hmf : ∀ (fn : Fn) (first cap : Array Value) (w : World), (Instr.makeFunc fn first cap).run Tryz.prog w = .ok (.func fn first cap) w := fun _ _ _ _ => rfl
  obtain ⟨up, uc, hus⟩ : ∃ p c, u = .slice p x.bytes.length c := by obtain ⟨p, c, h, _⟩ := hu; exact ⟨p, c, h⟩
  obtain ⟨UN, hUN⟩ : ∃ z, x.bytes.length = z := ⟨_, rfl⟩
  rw [hUN] at hus
  subst hus
  clear hUN
  obtain ⟨S, hS⟩ : ∃ z, w.heap.size = z := ⟨_, rfl⟩
  obtain ⟨W3, hW3⟩ : ∃ z, ((w.alloc (otObj k x (.slice up UN uc))).alloc (.cells #[.string ⟨#[]⟩] 9)).alloc (.cells #[.int .i64 0] 31) = z := ⟨_, rfl⟩
  have hb3 : Below w.heap.size w W3 := by rw [← hW3]; exact (((Below.refl _ _).alloc (Nat.le_refl _) _).alloc (by simp) _).alloc (by simp; omega) _
  have hz3 : W3.heap.size = S + 3 := by rw [← hW3, ← hS]; simp
  have hS3 : W3.heap[S]? = some (otObj k x (.slice up UN uc)) := by
    rw [← hW3, Below.heap_alloc _ _ _ (by simp; omega), Below.heap_alloc _ _ _ (by simp; omega), ← hS]
    exact World.alloc_heap_new _ _
  have hT3 : W3.heap[S + 1]? = some (.cells #[.string ⟨#[]⟩] 9 (0, 0)) := by
    rw [← hW3, Below.heap_alloc _ _ _ (by simp; omega), ← hS]
    have := World.alloc_heap_new (w.alloc (otObj k x (.slice up UN uc))) (.cells #[.string ⟨#[]⟩] 9)
    simpa using this
  have hE3 : W3.heap[S + 1 + 1]? = some (.cells #[.int .i64 0] 31 (0, 0)) := by
    rw [← hW3, ← hS]
    have := World.alloc_heap_new ((w.alloc (otObj k x (.slice up UN uc))).alloc (.cells #[.string ⟨#[]⟩] 9)) (.cells #[.int .i64 0] 31)
    simpa using this
  have HB3 := Lib.hid hb3
  have HZ3 := Lib.hid hz3
  have HS3 := Lib.hid hS3
  have HT3 := Lib.hid hT3
  have HE3 := Lib.hid hE3
  have HW3 := Lib.hid hW3
  have HSS := Lib.hid hS
  have KS := Lib.hid sc_outs
  have KL := Lib.hid (show ∀ (b : Nat) (W : World), ShAt W b Sc.outT → Below W3.heap.size W3 W → Calls Tryz.prog 39 #[.map (some b), .int .i64 k, stVal x (.slice up UN uc)] W fun e w' => e = txtEnd (Sc.line Sc.outT k x) ∧ Below W.heap.size W w' from fun b W h hb =>
    sc_line (.inr rfl) b k x _ W h ((hu.below hb3).below hb) hl hx ((ht.below hb3).below hb))
  obtain ⟨o, ho⟩ : ∃ z, Sc.line Sc.outT k x = z := ⟨_, rfl⟩
  rw [ho] at KL ⊢
  have HBB := Lib.hid (show ∀ W, Below W3.heap.size W3 W → Below w.heap.size w W from fun W hb => hb3.trans (hb.mono hb3.size))
  clear hu hl hx ht hS hW3 hb3 hz3 hS3 hT3 hE3 ho
  have hsv : stVal x (.slice up UN uc) = .agg #[.int .i64 0, .int .u64 (x.conn : Int), .int .i64 x.topic, .int .u64 0, .int .u64 0, .slice up UN uc] := by
    unfold stVal
    rw [h0.1, h0.2.1, h0.2.2]
    rfl
  rw [hsv] at KL
  unfold otObj at HW3
  unfold otVal
  clear hsv h0
  go_enter_defers Tryz.func13, Tryz.ntmps13
  go_upto_region 2 with (fail)
  rw [HSS.out, HW3.out]
  have HDOOR := Lib.hid (show ∀ (a : Act) (W : World), a.defers = [{ target := Target.fn (Fn.func 37) #[], args := #[.pointer (some ⟨S + 1 + 1, 0, none⟩), .func (.func 41) #[] #[.pointer (some ⟨S + 1, 0, none⟩)]] }] → a.tmps.getD 2 undef = .pointer (some ⟨S + 1, 0, none⟩) → a.tmps.getD 3 undef = .pointer (some ⟨S + 1 + 1, 0, none⟩) → Below W3.heap.size W3 W →
      bodyPostD Tryz.prog Tryz.f13 (fun e w' => e = .returned (txtOut none) ∧ Below w.heap.size w w') (.panic [{ v := errno 2, recovered := false }]) a W from fun a W hd h2 h3 hb =>
    ot_door a S W _ hd h2 h3 ((hb.block _ (Array.getElem?_eq_some_iff.1 HT3.out).1).trans HT3.out) ((hb.block _ (Array.getElem?_eq_some_iff.1 HE3.out).1).trans HE3.out)
      ⟨rfl, ((HBB.out W hb).setCell (p := ⟨S + 1, 0, none⟩) (by rw [HSS.out]; show S ≤ S + 1; omega) _).setCell (p := ⟨S + 1 + 1, 0, none⟩) (by rw [HSS.out]; show S ≤ S + 1 + 1; omega) _⟩)
  cases o with
  | none =>
    refine region_tail2 11 (fun i => 5 + min i 10) (otNF S UN uc up k x ⟨#[]⟩) (by kernel_rfl) (by kernel_rfl) rfl (by kernel_rfl) (by kernel_rfl) (fun i => by show 5 + min i 10 < _; simp; omega) (fun i j hi hj h => by have h : 5 + min i 10 = 5 + min j 10 := h; omega) ?mono ?dst ?step ?last
    case mono =>
      intro i W W' v h hbw
      match i, h with
      | 1, h | 2, h | 3, h | 4, h | 5, h | 6, h | 7, h | 8, h | 9, h | 10, h => exact h
      | 0, h => exact (by obtain ⟨b, h1, h2⟩ := h; exact ⟨b, h1, h2.below hbw⟩)
      | n + 11, h => exact h.elim
    case dst =>
      intro i o hi ho
      match i, hi, ho with
      | 0, _, ho => cases ho; rfl
      | 1, _, ho => cases ho; rfl
      | 2, _, ho => cases ho; rfl
      | 3, _, ho => cases ho; rfl
      | 4, _, ho => cases ho; rfl
      | 5, _, ho => cases ho; rfl
      | 6, _, ho => cases ho; rfl
      | 7, _, ho => cases ho; rfl
      | 8, _, ho => cases ho; rfl
      | 9, _, ho => cases ho; rfl
      | 10, _, ho => cases ho; rfl
      | n + 11, hi, _ => exact absurd hi (by omega)
    case step =>
      intro a' W i o hib ho hpre hbel hrest hdf
      match i, hib, ho with
      | 0, _, ho =>
        cases ho
        exact rg_call0 42 _ _ rfl (enters_of Tryz.func42 (by kernel_rfl) rfl) (KS.out W) (fun e w' h => by obtain ⟨b, h1, h2, h3⟩ := h; exact ⟨_, h1, _, rfl, ⟨b, rfl, h2⟩, h3⟩)
      | 1, _, ho =>
        cases ho
        have q1 : a'.tmps.getD 1 undef = .pointer (some ⟨S, 0, none⟩) := hrest 1 (by intro i hi; show 5 + min i 10 ≠ _; omega)
        have e1 := rg_ev q1
        exact rg_same (.pointer (some ⟨S, 0, none⟩)) (by unfold Oper.wp execOp; go_simp; all_goals ((try simp only [e1]); (try go_simp); (try rw [if_pos (by omega)]); (try rw [if_neg (by omega)]); first | done | rfl | exact ⟨rfl, rfl⟩ | trivial)) rfl
      | 2, _, ho =>
        cases ho
        have q6 : a'.tmps.getD 6 undef = .pointer (some ⟨S, 0, none⟩) := hpre { on := 1, ground := .data } (by simp) rfl
        have hSW := (hbel.block _ (Array.getElem?_eq_some_iff.1 HS3.out).1).trans HS3.out
        unfold otObj at hSW
        have c0 : W.cell? ⟨S, 0, none⟩ = some (.int .i64 k) := by simp [World.cell?, hSW]
        have e6 := rg_ev q6
        exact rg_same (.int .i64 k) (by unfold Oper.wp execOp; go_simp; all_goals ((try simp only [e6]); (try go_simp); (try rw [if_pos (by omega)]); (try rw [if_neg (by omega)]); first | done | rfl | exact ⟨rfl, rfl⟩ | trivial)) rfl
      | 3, _, ho =>
        cases ho
        have q1 : a'.tmps.getD 1 undef = .pointer (some ⟨S, 0, none⟩) := hrest 1 (by intro i hi; show 5 + min i 10 ≠ _; omega)
        have e1 := rg_ev q1
        exact rg_same (.pointer (some ⟨S, 1, none⟩)) (by unfold Oper.wp execOp; go_simp; all_goals ((try simp only [e1]); (try go_simp); (try rw [if_pos (by omega)]); (try rw [if_neg (by omega)]); first | done | rfl | exact ⟨rfl, rfl⟩ | trivial)) rfl
      | 4, _, ho =>
        cases ho
        have q8 : a'.tmps.getD 8 undef = .pointer (some ⟨S, 1, none⟩) := hpre { on := 3, ground := .data } (by simp) rfl
        have hSW := (hbel.block _ (Array.getElem?_eq_some_iff.1 HS3.out).1).trans HS3.out
        unfold otObj at hSW
        have c1 : W.cell? ⟨S, 1, none⟩ = some (.int .u64 (x.conn : Int)) := by simp [World.cell?, hSW]
        have e8 := rg_ev q8
        exact rg_same (.int .u64 (x.conn : Int)) (by unfold Oper.wp execOp; go_simp; all_goals ((try simp only [e8]); (try go_simp); (try rw [if_pos (by omega)]); (try rw [if_neg (by omega)]); first | done | rfl | exact ⟨rfl, rfl⟩ | trivial)) rfl
      | 5, _, ho =>
        cases ho
        have q1 : a'.tmps.getD 1 undef = .pointer (some ⟨S, 0, none⟩) := hrest 1 (by intro i hi; show 5 + min i 10 ≠ _; omega)
        have e1 := rg_ev q1
        exact rg_same (.pointer (some ⟨S, 2, none⟩)) (by unfold Oper.wp execOp; go_simp; all_goals ((try simp only [e1]); (try go_simp); (try rw [if_pos (by omega)]); (try rw [if_neg (by omega)]); first | done | rfl | exact ⟨rfl, rfl⟩ | trivial)) rfl
      | 6, _, ho =>
        cases ho
        have q10 : a'.tmps.getD 10 undef = .pointer (some ⟨S, 2, none⟩) := hpre { on := 5, ground := .data } (by simp) rfl
        have hSW := (hbel.block _ (Array.getElem?_eq_some_iff.1 HS3.out).1).trans HS3.out
        unfold otObj at hSW
        have c2 : W.cell? ⟨S, 2, none⟩ = some (.int .i64 x.topic) := by simp [World.cell?, hSW]
        have e10 := rg_ev q10
        exact rg_same (.int .i64 x.topic) (by unfold Oper.wp execOp; go_simp; all_goals ((try simp only [e10]); (try go_simp); (try rw [if_pos (by omega)]); (try rw [if_neg (by omega)]); first | done | rfl | exact ⟨rfl, rfl⟩ | trivial)) rfl
      | 7, _, ho =>
        cases ho
        have q1 : a'.tmps.getD 1 undef = .pointer (some ⟨S, 0, none⟩) := hrest 1 (by intro i hi; show 5 + min i 10 ≠ _; omega)
        have e1 := rg_ev q1
        exact rg_same (.pointer (some ⟨S, 3, none⟩)) (by unfold Oper.wp execOp; go_simp; all_goals ((try simp only [e1]); (try go_simp); (try rw [if_pos (by omega)]); (try rw [if_neg (by omega)]); first | done | rfl | exact ⟨rfl, rfl⟩ | trivial)) rfl
      | 8, _, ho =>
        cases ho
        have q12 : a'.tmps.getD 12 undef = .pointer (some ⟨S, 3, none⟩) := hpre { on := 7, ground := .data } (by simp) rfl
        have hSW := (hbel.block _ (Array.getElem?_eq_some_iff.1 HS3.out).1).trans HS3.out
        unfold otObj at hSW
        have c3 : W.cell? ⟨S, 3, none⟩ = some (.slice up UN uc) := by simp [World.cell?, hSW]
        have e12 := rg_ev q12
        exact rg_same (.slice up UN uc) (by unfold Oper.wp execOp; go_simp; all_goals ((try simp only [e12]); (try go_simp); (try rw [if_pos (by omega)]); (try rw [if_neg (by omega)]); first | done | rfl | exact ⟨rfl, rfl⟩ | trivial)) rfl
      | 9, _, ho =>
        cases ho
        have q9 : a'.tmps.getD 9 undef = .int .u64 (x.conn : Int) := hpre { on := 4, ground := .data } (by simp) rfl
        have q11 : a'.tmps.getD 11 undef = .int .i64 x.topic := hpre { on := 6, ground := .data } (by simp) rfl
        have q13 : a'.tmps.getD 13 undef = .slice up UN uc := hpre { on := 8, ground := .data } (by simp) rfl
        have e9 := rg_ev q9
        have e11 := rg_ev q11
        have e13 := rg_ev q13
        exact rg_same (.agg #[.int .i64 0, .int .u64 (x.conn : Int), .int .i64 x.topic, .int .u64 0, .int .u64 0, .slice up UN uc]) (by unfold Oper.wp execOp; go_simp; all_goals ((try simp only [e9, e11, e13]); (try go_simp); (try rw [if_pos (by omega)]); (try rw [if_neg (by omega)]); first | done | rfl | exact ⟨rfl, rfl⟩ | trivial)) rfl
      | 10, _, ho =>
        cases ho
        have h5 := hpre { on := 0, ground := .data } (by simp) rfl
        have q7 : a'.tmps.getD 7 undef = .int .i64 k := hpre { on := 2, ground := .data } (by simp) rfl
        have q14 : a'.tmps.getD 14 undef = .agg #[.int .i64 0, .int .u64 (x.conn : Int), .int .i64 x.topic, .int .u64 0, .int .u64 0, .slice up UN uc] := hpre { on := 9, ground := .data } (by simp) rfl
        obtain ⟨b, hb1, hb2⟩ := h5
        exact rg_call3 5 7 14 39 _ _ _ _ _ rfl hb1 q7 q14 (enters_of Tryz.func39 (by kernel_rfl) rfl) (KL.out b W hb2 hbel) (fun e w' h => .inr ⟨_, h.1, HDOOR.out _ _ hdf (hrest 2 (by intro i hi; show 5 + min i 10 ≠ _; omega)) (hrest 3 (by intro i hi; show 5 + min i 10 ≠ _; omega)) (hbel.trans (h.2.mono hbel.size))⟩)
      | n + 11, hib, _ => exact absurd hib (by omega)
    case last =>
      intro vs W o o2 ho ho2 hbel hvs
      exact (hvs 10 (by decide)).elim
  | some l =>
    obtain ⟨lb, hlb⟩ : ∃ z : ByteArray, (⟨l.toArray⟩ : ByteArray) = z := ⟨_, rfl⟩
    have HLB := Lib.hid hlb
    clear hlb
    refine region_tail2 11 (fun i => 5 + min i 10) (otYF S UN uc up k x lb) (by kernel_rfl) (by kernel_rfl) rfl (by kernel_rfl) (by kernel_rfl) (fun i => by show 5 + min i 10 < _; simp; omega) (fun i j hi hj h => by have h : 5 + min i 10 = 5 + min j 10 := h; omega) ?mono ?dst ?step ?last
    case mono =>
      intro i W W' v h hbw
      match i, h with
      | 1, h | 2, h | 3, h | 4, h | 5, h | 6, h | 7, h | 8, h | 9, h | 10, h => exact h
      | 0, h => exact (by obtain ⟨b, h1, h2⟩ := h; exact ⟨b, h1, h2.below hbw⟩)
      | n + 11, h => exact h.elim
    case dst =>
      intro i o hi ho
      match i, hi, ho with
      | 0, _, ho => cases ho; rfl
      | 1, _, ho => cases ho; rfl
      | 2, _, ho => cases ho; rfl
      | 3, _, ho => cases ho; rfl
      | 4, _, ho => cases ho; rfl
      | 5, _, ho => cases ho; rfl
      | 6, _, ho => cases ho; rfl
      | 7, _, ho => cases ho; rfl
      | 8, _, ho => cases ho; rfl
      | 9, _, ho => cases ho; rfl
      | 10, _, ho => cases ho; rfl
      | n + 11, hi, _ => exact absurd hi (by omega)
    case step =>
      intro a' W i o hib ho hpre hbel hrest hdf
      match i, hib, ho with
      | 0, _, ho =>
        cases ho
        exact rg_call0 42 _ _ rfl (enters_of Tryz.func42 (by kernel_rfl) rfl) (KS.out W) (fun e w' h => by obtain ⟨b, h1, h2, h3⟩ := h; exact ⟨_, h1, _, rfl, ⟨b, rfl, h2⟩, h3⟩)
      | 1, _, ho =>
        cases ho
        have q1 : a'.tmps.getD 1 undef = .pointer (some ⟨S, 0, none⟩) := hrest 1 (by intro i hi; show 5 + min i 10 ≠ _; omega)
        have e1 := rg_ev q1
        exact rg_same (.pointer (some ⟨S, 0, none⟩)) (by unfold Oper.wp execOp; go_simp; all_goals ((try simp only [e1]); (try go_simp); (try rw [if_pos (by omega)]); (try rw [if_neg (by omega)]); first | done | rfl | exact ⟨rfl, rfl⟩ | trivial)) rfl
      | 2, _, ho =>
        cases ho
        have q6 : a'.tmps.getD 6 undef = .pointer (some ⟨S, 0, none⟩) := hpre { on := 1, ground := .data } (by simp) rfl
        have hSW := (hbel.block _ (Array.getElem?_eq_some_iff.1 HS3.out).1).trans HS3.out
        unfold otObj at hSW
        have c0 : W.cell? ⟨S, 0, none⟩ = some (.int .i64 k) := by simp [World.cell?, hSW]
        have e6 := rg_ev q6
        exact rg_same (.int .i64 k) (by unfold Oper.wp execOp; go_simp; all_goals ((try simp only [e6]); (try go_simp); (try rw [if_pos (by omega)]); (try rw [if_neg (by omega)]); first | done | rfl | exact ⟨rfl, rfl⟩ | trivial)) rfl
      | 3, _, ho =>
        cases ho
        have q1 : a'.tmps.getD 1 undef = .pointer (some ⟨S, 0, none⟩) := hrest 1 (by intro i hi; show 5 + min i 10 ≠ _; omega)
        have e1 := rg_ev q1
        exact rg_same (.pointer (some ⟨S, 1, none⟩)) (by unfold Oper.wp execOp; go_simp; all_goals ((try simp only [e1]); (try go_simp); (try rw [if_pos (by omega)]); (try rw [if_neg (by omega)]); first | done | rfl | exact ⟨rfl, rfl⟩ | trivial)) rfl
      | 4, _, ho =>
        cases ho
        have q8 : a'.tmps.getD 8 undef = .pointer (some ⟨S, 1, none⟩) := hpre { on := 3, ground := .data } (by simp) rfl
        have hSW := (hbel.block _ (Array.getElem?_eq_some_iff.1 HS3.out).1).trans HS3.out
        unfold otObj at hSW
        have c1 : W.cell? ⟨S, 1, none⟩ = some (.int .u64 (x.conn : Int)) := by simp [World.cell?, hSW]
        have e8 := rg_ev q8
        exact rg_same (.int .u64 (x.conn : Int)) (by unfold Oper.wp execOp; go_simp; all_goals ((try simp only [e8]); (try go_simp); (try rw [if_pos (by omega)]); (try rw [if_neg (by omega)]); first | done | rfl | exact ⟨rfl, rfl⟩ | trivial)) rfl
      | 5, _, ho =>
        cases ho
        have q1 : a'.tmps.getD 1 undef = .pointer (some ⟨S, 0, none⟩) := hrest 1 (by intro i hi; show 5 + min i 10 ≠ _; omega)
        have e1 := rg_ev q1
        exact rg_same (.pointer (some ⟨S, 2, none⟩)) (by unfold Oper.wp execOp; go_simp; all_goals ((try simp only [e1]); (try go_simp); (try rw [if_pos (by omega)]); (try rw [if_neg (by omega)]); first | done | rfl | exact ⟨rfl, rfl⟩ | trivial)) rfl
      | 6, _, ho =>
        cases ho
        have q10 : a'.tmps.getD 10 undef = .pointer (some ⟨S, 2, none⟩) := hpre { on := 5, ground := .data } (by simp) rfl
        have hSW := (hbel.block _ (Array.getElem?_eq_some_iff.1 HS3.out).1).trans HS3.out
        unfold otObj at hSW
        have c2 : W.cell? ⟨S, 2, none⟩ = some (.int .i64 x.topic) := by simp [World.cell?, hSW]
        have e10 := rg_ev q10
        exact rg_same (.int .i64 x.topic) (by unfold Oper.wp execOp; go_simp; all_goals ((try simp only [e10]); (try go_simp); (try rw [if_pos (by omega)]); (try rw [if_neg (by omega)]); first | done | rfl | exact ⟨rfl, rfl⟩ | trivial)) rfl
      | 7, _, ho =>
        cases ho
        have q1 : a'.tmps.getD 1 undef = .pointer (some ⟨S, 0, none⟩) := hrest 1 (by intro i hi; show 5 + min i 10 ≠ _; omega)
        have e1 := rg_ev q1
        exact rg_same (.pointer (some ⟨S, 3, none⟩)) (by unfold Oper.wp execOp; go_simp; all_goals ((try simp only [e1]); (try go_simp); (try rw [if_pos (by omega)]); (try rw [if_neg (by omega)]); first | done | rfl | exact ⟨rfl, rfl⟩ | trivial)) rfl
      | 8, _, ho =>
        cases ho
        have q12 : a'.tmps.getD 12 undef = .pointer (some ⟨S, 3, none⟩) := hpre { on := 7, ground := .data } (by simp) rfl
        have hSW := (hbel.block _ (Array.getElem?_eq_some_iff.1 HS3.out).1).trans HS3.out
        unfold otObj at hSW
        have c3 : W.cell? ⟨S, 3, none⟩ = some (.slice up UN uc) := by simp [World.cell?, hSW]
        have e12 := rg_ev q12
        exact rg_same (.slice up UN uc) (by unfold Oper.wp execOp; go_simp; all_goals ((try simp only [e12]); (try go_simp); (try rw [if_pos (by omega)]); (try rw [if_neg (by omega)]); first | done | rfl | exact ⟨rfl, rfl⟩ | trivial)) rfl
      | 9, _, ho =>
        cases ho
        have q9 : a'.tmps.getD 9 undef = .int .u64 (x.conn : Int) := hpre { on := 4, ground := .data } (by simp) rfl
        have q11 : a'.tmps.getD 11 undef = .int .i64 x.topic := hpre { on := 6, ground := .data } (by simp) rfl
        have q13 : a'.tmps.getD 13 undef = .slice up UN uc := hpre { on := 8, ground := .data } (by simp) rfl
        have e9 := rg_ev q9
        have e11 := rg_ev q11
        have e13 := rg_ev q13
        exact rg_same (.agg #[.int .i64 0, .int .u64 (x.conn : Int), .int .i64 x.topic, .int .u64 0, .int .u64 0, .slice up UN uc]) (by unfold Oper.wp execOp; go_simp; all_goals ((try simp only [e9, e11, e13]); (try go_simp); (try rw [if_pos (by omega)]); (try rw [if_neg (by omega)]); first | done | rfl | exact ⟨rfl, rfl⟩ | trivial)) rfl
      | 10, _, ho =>
        cases ho
        have h5 := hpre { on := 0, ground := .data } (by simp) rfl
        have q7 : a'.tmps.getD 7 undef = .int .i64 k := hpre { on := 2, ground := .data } (by simp) rfl
        have q14 : a'.tmps.getD 14 undef = .agg #[.int .i64 0, .int .u64 (x.conn : Int), .int .i64 x.topic, .int .u64 0, .int .u64 0, .slice up UN uc] := hpre { on := 9, ground := .data } (by simp) rfl
        obtain ⟨b, hb1, hb2⟩ := h5
        exact rg_call3 5 7 14 39 _ _ _ _ _ rfl hb1 q7 q14 (enters_of Tryz.func39 (by kernel_rfl) rfl) (KL.out b W hb2 hbel) (fun e w' h => by
          rw [← HLB.out]
          exact .inl ⟨_, h.1, _, rfl, rfl, h.2⟩)
      | n + 11, hib, _ => exact absurd hib (by omega)
    case last =>
      intro vs W o o2 ho ho2 hbel hvs
      have hop1 : o.op = Op.store 9 (.tmp 2) (.tmp 15) := by cases ho; rfl
      have hds1 : o.dst = none := by cases ho; rfl
      have hop2 : o2.op = Op.store 31 (.tmp 3) (.const (.int .i64 0)) := by cases ho2; rfl
      have hds2 : o2.dst = none := by cases ho2; rfl
      clear ho ho2
      have HBR := Lib.hid hbel
      obtain ⟨y0, v0, w0⟩ : ∃ z, vs 0 = z ∧ otYF S UN uc up k x lb 0 W z := ⟨_, rfl, hvs 0 (by decide)⟩
      have v1 : vs 1 = .pointer (some ⟨S, 0, none⟩) := hvs 1 (by decide)
      have v2 : vs 2 = .int .i64 k := hvs 2 (by decide)
      have v3 : vs 3 = .pointer (some ⟨S, 1, none⟩) := hvs 3 (by decide)
      have v4 : vs 4 = .int .u64 (x.conn : Int) := hvs 4 (by decide)
      have v5 : vs 5 = .pointer (some ⟨S, 2, none⟩) := hvs 5 (by decide)
      have v6 : vs 6 = .int .i64 x.topic := hvs 6 (by decide)
      have v7 : vs 7 = .pointer (some ⟨S, 3, none⟩) := hvs 7 (by decide)
      have v8 : vs 8 = .slice up UN uc := hvs 8 (by decide)
      have v9 : vs 9 = .agg #[.int .i64 0, .int .u64 (x.conn : Int), .int .i64 x.topic, .int .u64 0, .int .u64 0, .slice up UN uc] := hvs 9 (by decide)
      have v10 : vs 10 = .string lb := hvs 10 (by decide)
      simp only [fillN, List.size_toArray, List.length_cons, List.length_nil, Nat.reduceAdd, show List.range 11 = [0, 1, 2, 3, 4, 5, 6, 7, 8, 9, 10] from rfl, List.foldl_cons, List.foldl_nil, show 5 + min 0 10 = 5 from rfl, show 5 + min 1 10 = 6 from rfl, show 5 + min 2 10 = 7 from rfl, show 5 + min 3 10 = 8 from rfl, show 5 + min 4 10 = 9 from rfl, show 5 + min 5 10 = 10 from rfl, show 5 + min 6 10 = 11 from rfl, show 5 + min 7 10 = 12 from rfl, show 5 + min 8 10 = 13 from rfl, show 5 + min 9 10 = 14 from rfl, show 5 + min 10 10 = 15 from rfl, v0, v1, v2, v3, v4, v5, v6, v7, v8, v9, v10]
      clear v0 v1 v2 v3 v4 v5 v6 v7 v8 v9 v10 hvs
      have hTW := (hbel.block _ (Array.getElem?_eq_some_iff.1 HT3.out).1).trans HT3.out
      have hEW := (hbel.block _ (Array.getElem?_eq_some_iff.1 HE3.out).1).trans HE3.out
      have t0 : W.cell? ⟨S + 1, 0, none⟩ = some (.string ⟨#[]⟩) := by simp [World.cell?, hTW]
      have tz : W.frozen? ⟨S + 1, 0, none⟩ = false := frozen_of_row _ _ _ _ _ hTW
      have hE2 : (W.setCell ⟨S + 1, 0, none⟩ (.string lb)).heap[S + 1 + 1]? = some (.cells #[.int .i64 0] 31 (0, 0)) := (Below.heap_setCell _ _ _ _ (by show S + 1 + 1 ≠ S + 1; omega)).trans hEW
      have c2 : (W.setCell ⟨S + 1, 0, none⟩ (.string lb)).cell? ⟨S + 1 + 1, 0, none⟩ = some (.int .i64 0) := by simp [World.cell?, hE2]
      have z2 : (W.setCell ⟨S + 1, 0, none⟩ (.string lb)).frozen? ⟨S + 1 + 1, 0, none⟩ = false := frozen_of_row _ _ _ _ _ hE2
      have hT1 : ((W.setCell ⟨S + 1, 0, none⟩ (.string lb)).setCell ⟨S + 1 + 1, 0, none⟩ (.int .i64 0)).heap[S + 1]? = some (.cells #[.string lb] 9 (0, 0)) := (Below.heap_setCell _ _ _ _ (by show S + 1 ≠ S + 1 + 1; omega)).trans (heap_setCell_same _ _ 0 _ _ _ hTW)
      have hE4 : ((W.setCell ⟨S + 1, 0, none⟩ (.string lb)).setCell ⟨S + 1 + 1, 0, none⟩ (.int .i64 0)).heap[S + 1 + 1]? = some (.cells #[.int .i64 0] 31 (0, 0)) := heap_setCell_same _ _ 0 _ _ _ hE2
      have HXT := Lib.hid hT1
      have HXE := Lib.hid hE4
      have HXB := Lib.hid (((HBB.out W hbel).setCell (p := ⟨S + 1, 0, none⟩) (by rw [HSS.out]; show S ≤ S + 1; omega) (.string lb)).setCell (p := ⟨S + 1 + 1, 0, none⟩) (by rw [HSS.out]; show S ≤ S + 1 + 1; omega) (.int .i64 0))
      clear hTW hEW hE2 hT1 hE4 hbel
      unfold Oper.wp execOp
      simp only [hop1, hop2]
      go_simp
      clear t0 tz c2 z2 hop1 hop2 hds1 hds2
      obtain ⟨X, hX⟩ : ∃ X, (W.setCell ⟨S + 1, 0, none⟩ (.string lb)).setCell ⟨S + 1 + 1, 0, none⟩ (.int .i64 0) = X := ⟨_, rfl⟩
      rw [hX] at HXT HXE HXB ⊢
      have x0 : X.cell? ⟨S + 1, 0, none⟩ = some (.string lb) := by simp [World.cell?, HXT.out]
      have x1 : X.cell? ⟨S + 1 + 1, 0, none⟩ = some (.int .i64 0) := by simp [World.cell?, HXE.out]
      clear hX
      go_wp2_with fail
      refine leaves_cons (f := 37) (args := #[.pointer (some ⟨S + 1 + 1, 0, none⟩), .func (.func 41) #[] #[.pointer (some ⟨S + 1, 0, none⟩)]]) (by simp) (by simp [go_sem]) ?_
      refine (sc_caught_idle _ _ _).mono ?_
      rintro e u' w'' ⟨rfl, rfl, rfl⟩
      simp [Leaves, settle, results, Tryz.results13, go_sem, x0, x1]
      exact ⟨by rw [← HLB.out]; rfl, HXB.out⟩
end Go.Proofs.YtbaakfcbakpmpaaGreatDoor
