/- Texts of this claim, one behind the other: Si, Sj, Sk, Rz, Sl, Sm, Sn, So, Sr. -/
import Derived.Test.YtbaakfcbakpmpaaGreatDoorUim4
import Derived.Test.YtbaakfcbakpmpaaGreatDoorUim2
import Derived.OwnWalkIn
import Derived.LoopIn
import Derived.RangeFuncKeeps
import Derived.LoopNIn
import Derived.Maps.AppendAt
/- script: a line that is read. No conditions but those that each law states. -/
namespace Go.Proofs.YtbaakfcbakpmpaaGreatDoor
set_option linter.unusedVariables false
set_option linter.unusedSimpArgs false
open Go.RowKit Go.Shelf
open Go.ChangeMaps (setBlock)
set_option maxHeartbeats 8000000
set_option maxRecDepth 100000
/-! the map's entries, gone over -/
theorem mem_shEs : ∀ (T : Sc.Shapes) (vs : List Value) (j : Nat) (e : MapEntry), vs.length = T.length → e ∈ shEs j T vs → ∃ i, i < T.length ∧ e = shE (T.getD i (0, [], [])) (vs.getD i undef) (j + i)
  | [], vs, j, e, h, he => by
    match vs, h with
    | [], _ => cases he
  | t :: T, [], j, e, h, he => by simp at h
  | t :: T, v :: vs, j, e, h, he => by
    rcases List.mem_cons.1 (show e ∈ shE t v j :: shEs (j + 1) T vs from he) with rfl | he
    · exact ⟨0, by simp, rfl⟩
    · obtain ⟨i, h1, h2⟩ := mem_shEs T vs (j + 1) e (by simpa using h) he
      exact ⟨i + 1, by simpa using h1, by rw [h2]; simp; congr 1; omega⟩
theorem shEs_mem : ∀ (T : Sc.Shapes) (vs : List Value) (j i : Nat), vs.length = T.length → i < T.length → shE (T.getD i (0, [], [])) (vs.getD i undef) (j + i) ∈ shEs j T vs
  | [], vs, j, i, h, hi => by simp at hi
  | t :: T, [], j, i, h, hi => by simp at h
  | t :: T, v :: vs, j, 0, h, hi => List.mem_cons_self
  | t :: T, v :: vs, j, i + 1, h, hi => by
    have := shEs_mem T vs (j + 1) i (by simpa using h) (by simpa using hi)
    rw [show j + 1 + i = j + (i + 1) by omega] at this
    exact List.mem_cons_of_mem _ this
theorem born_shEs : ∀ (T : Sc.Shapes) (vs : List Value) (j : Nat), vs.length = T.length → (shEs j T vs).map (·.born) = List.range' j T.length
  | [], vs, j, h => by
    match vs, h with
    | [], _ => rfl
  | t :: T, [], j, h => by simp at h
  | t :: T, v :: vs, j, h => by
    show j :: (shEs (j + 1) T vs).map (·.born) = _
    rw [born_shEs T vs (j + 1) (by simpa using h)]; rfl
theorem left_less {es : Array MapEntry} {seen : Array Nat} {e : MapEntry} (h : e ∈ (leftOf es seen).toList) : (leftOf es (seen.push e.born)).size < (leftOf es seen).size := by
  have h1 : (leftOf es (seen.push e.born)).toList = (leftOf es seen).toList.filter fun x => !(x.born == e.born) := by
    unfold leftOf
    simp only [Array.toList_filter, List.filter_filter]
    congr 1
    funext x
    rw [Bool.eq_iff_iff]
    by_cases h1 : x.born ∈ seen <;> by_cases h2 : x.born = e.born <;> simp [h1, h2]
  have h2 : ((leftOf es seen).toList.filter fun x => !(x.born == e.born)).length < (leftOf es seen).toList.length := List.length_filter_lt_length_iff_exists.2 ⟨e, h, by simp⟩
  rw [← h1] at h2
  simpa using h2
theorem left_none {T : Sc.Shapes} {vs : List Value} {seen : Array Nat} (hv : vs.length = T.length) (h : (leftOf (shEs 0 T vs).toArray seen).size = 0) (i : Nat) (hi : i < T.length) : i ∈ seen.toList := by
  have hm := shEs_mem T vs 0 i hv hi
  unfold leftOf at h
  have h1 : ((shEs 0 T vs).filter fun e => !seen.contains e.born) = [] := by
    have := Array.size_eq_zero_iff.1 h
    simpa using congrArg Array.toList this
  have h2 := List.filter_eq_nil_iff.1 h1 _ hm
  simp [shE] at h2
  simpa using h2
theorem left_mem {T : Sc.Shapes} {vs : List Value} {seen : Array Nat} {e : MapEntry} (hv : vs.length = T.length) (h : e ∈ (leftOf (shEs 0 T vs).toArray seen).toList) : ∃ i, i < T.length ∧ e = shE (T.getD i (0, [], [])) (vs.getD i undef) i := by
  unfold leftOf at h
  simp at h
  obtain ⟨i, h1, h2⟩ := mem_shEs T vs 0 e hv h.1
  exact ⟨i, h1, by rw [h2]; simp⟩
/-! the reader -/
def rdObj (x : Sc.St) (u wv : Value) : Obj := .cells #[.int .i64 x.kind, .int .u64 (x.conn : Int), .int .i64 x.topic, .int .u64 (x.n : Int), .int .u64 (x.draw : Int), u, wv] 96 (0, 0)
def isSl (v : Value) : Prop := ∃ p n c, v = .slice p n c
theorem BRow.sl {w : World} {v : Value} {l : List UInt8} (h : BRow w v l) : isSl v := by obtain ⟨p, c, h, _⟩ := h; exact ⟨_, _, _, h⟩
theorem SR.ofR {w : World} {R : Nat} {x : Sc.St} {u wv : Value} (h : w.heap[R]? = some (rdObj x u wv)) : SR w R x u := by
  unfold rdObj at h
  refine ⟨?_, ?_, ?_, ?_, ?_, ?_, fun i => frozen_of_row _ _ _ _ _ h⟩ <;> simp [World.cell?, h]
theorem KeepM.setCell (R i : Nat) (W : World) (y : Value) : KeepM R W (W.setCell ⟨R, i, none⟩ y) := ⟨by simp, fun k _ hn => Below.heap_setCell _ _ _ _ hn⟩
theorem rd_cell {W : World} {R i : Nat} {x : Sc.St} {u wv v : Value} (hR : W.heap[R]? = some (rdObj x u wv)) (h : W.cell? ⟨R, i, none⟩ = some v) : (∃ k n, v = .int k n ∧ i < 5) ∨ (v = u ∧ i = 5) ∨ (v = wv ∧ i = 6) := by
  unfold rdObj at hR
  simp only [World.cell?, hR] at h
  match i, h with
  | 0, h => simp at h; exact .inl ⟨_, _, h.symm, by omega⟩
  | 1, h => simp at h; exact .inl ⟨_, _, h.symm, by omega⟩
  | 2, h => simp at h; exact .inl ⟨_, _, h.symm, by omega⟩
  | 3, h => simp at h; exact .inl ⟨_, _, h.symm, by omega⟩
  | 4, h => simp at h; exact .inl ⟨_, _, h.symm, by omega⟩
  | 5, h => simp at h; exact .inr (.inl ⟨h.symm, rfl⟩)
  | 6, h => simp at h; exact .inr (.inr ⟨h.symm, rfl⟩)
  | n + 7, h => simp at h
theorem cell_keepR {R : Nat} {W W' : World} {g i : Nat} {f : Fn} {a c : Array Value} {x : Sc.St} {u wv : Value} (hR : W.heap[R]? = some (rdObj x u wv)) (hu : isSl u) (hw : isSl wv) (k : KeepM R W W') (h : W.cell? ⟨g, i, none⟩ = some (.func f a c)) : W'.cell? ⟨g, i, none⟩ = some (.func f a c) := by
  have hne : g ≠ R := by
    intro e
    subst e
    obtain ⟨p, n, c', rfl⟩ := hu
    obtain ⟨p2, n2, c2, rfl⟩ := hw
    rcases rd_cell hR h with ⟨_, _, h, _⟩ | ⟨h, _⟩ | ⟨h, _⟩ <;> cases h
  rw [← h]
  simp only [World.cell?, k.2 g (lt_of_cell h) hne]
theorem BoxAt.keepR {R : Nat} {W W' : World} {b g : Nat} {x : Sc.St} {u wv : Value} (hR : W.heap[R]? = some (rdObj x u wv)) (k : KeepM R W W') (h : BoxAt W b g) : BoxAt W' b g := by
  have hne : b ≠ R := by
    intro e
    subst e
    unfold BoxAt at h
    unfold rdObj at hR
    rw [hR] at h
    simp at h
  exact (k.2 b (Array.getElem?_eq_some_iff.1 h).1 hne).trans h
theorem PartAt.keepR {R : Nat} {W W' : World} {v : Value} {p : UInt8} {x : Sc.St} {u wv : Value} (hR : W.heap[R]? = some (rdObj x u wv)) (k : KeepM R W W') (h : PartAt W v p) : PartAt W' v p := by
  rcases h with ⟨hp, b, h1, h2⟩ | h | h
  · exact .inl ⟨hp, b, h1, h2.keepR hR k⟩
  · exact .inr (.inl h)
  · exact .inr (.inr h)
theorem PtsAt.keepR {R : Nat} {W W' : World} {v : Value} {ps : List UInt8} {x : Sc.St} {u wv : Value} (hR : W.heap[R]? = some (rdObj x u wv)) (hu : isSl u) (hw : isSl wv) (k : KeepM R W W') (h : PtsAt W v ps) : PtsAt W' v ps := by
  rcases h with h | ⟨g, h1, h2⟩
  · exact .inl h
  · refine .inr ⟨g, h1, fun j hj => ?_⟩
    obtain ⟨a, b, c, k1, k2, k3, k4⟩ := h2 j hj
    obtain ⟨f1, f2, f3, cap, he, _⟩ := k4.ok
    obtain ⟨rfl, rfl, rfl⟩ : a = .func (.func f1) #[] cap ∧ b = .func (.func f2) #[] cap ∧ c = .func (.func f3) #[] cap := by simpa using he
    exact ⟨_, _, _, cell_keepR hR hu hw k k1, cell_keepR hR hu hw k k2, cell_keepR hR hu hw k k3, k4.keepR hR k⟩
theorem brow_setR {w : World} {R i : Nat} {v y : Value} {l : List UInt8} {x : Sc.St} {u wv : Value} (h : BRow w v l) (hR : w.heap[R]? = some (rdObj x u wv)) (hu : isSl u) (hw : isSl wv) : BRow (w.setCell ⟨R, i, none⟩ y) v l ∨ R < 0 ∨ ∃ o, o < 5 ∧ ∃ k n, w.cell? ⟨R, o, none⟩ = some (.int k n) ∧ k = .u8 := by
  obtain ⟨ao, cap, rfl, hc, h⟩ := h
  by_cases hl : l.length = 0
  · refine .inl ⟨ao, cap, rfl, hc, ?_⟩
    rcases h with h | ⟨g, o, rfl, h⟩
    · exact .inl h
    · exact .inr ⟨g, o, rfl, fun j hj => by omega⟩
  · rcases h with ⟨_, h2, _⟩ | ⟨g, o, rfl, h⟩
    · rw [h2] at hl; simp at hl
    · by_cases hg : g = R
      · subst hg
        right; right
        have h0 := h 0 (by omega)
        obtain ⟨p, n, c', rfl⟩ := hu
        obtain ⟨p2, n2, c2, rfl⟩ := hw
        rcases rd_cell hR h0 with ⟨k, n, h1, h2⟩ | ⟨h1, _⟩ | ⟨h1, _⟩
        · exact ⟨o + 0, h2, .u8, _, h0, rfl⟩
        · simp [by8] at h1
        · simp [by8] at h1
      · exact .inl ⟨_, cap, rfl, hc, .inr ⟨g, o, rfl, fun j hj => (World.cell?_of_block (a := ⟨g, o + j, none⟩) (Below.heap_setCell _ _ _ _ hg)).trans (h j hj)⟩⟩
theorem brow_rd {w : World} {R i : Nat} {v y : Value} {l : List UInt8} {x : Sc.St} {u wv : Value} (h : BRow w v l) (hR : w.heap[R]? = some (rdObj x u wv)) (hu : isSl u) (hw : isSl wv) : BRow (w.setCell ⟨R, i, none⟩ y) v l := by
  rcases brow_setR h hR hu hw (i := i) (y := y) with h | h | ⟨o, ho, k, n, h1, rfl⟩
  · exact h
  · omega
  · exfalso
    unfold rdObj at hR
    simp only [World.cell?, hR] at h1
    match o, ho, h1 with
    | 0, _, h1 => simp at h1
    | 1, _, h1 => simp at h1
    | 2, _, h1 => simp at h1
    | 3, _, h1 => simp at h1
    | 4, _, h1 => simp at h1
/-- a part read into the reader -/
theorem st_read {w1 : World} {R : Nat} {x y : Sc.St} {u wv v : Value} {p : UInt8} {l : List UInt8} (hp : Sc.isP p) (hx : x.fine) (hr : Sc.read1 p l x = some y) (h : w1.heap[R]? = some (rdObj x u wv)) (hu : BRow w1 u x.bytes) (hnu : NewV R u) (hw : isSl wv)
    (hv : if p = 84 then v = .int .i64 y.topic else if p = 66 then (BRow w1 v y.bytes ∧ NewV R v) else if p = 78 then v = .int .u64 (y.n : Int) else if p = 68 then v = .int .u64 (y.draw : Int) else v = .int .u64 (y.conn : Int)) :
    ∃ u', (w1.setCell ⟨R, offP p, none⟩ v).heap[R]? = some (rdObj y u' wv) ∧ BRow (w1.setCell ⟨R, offP p, none⟩ v) u' y.bytes ∧ NewV R u' ∧ y.kind = x.kind ∧ y.fine := by
  obtain ⟨_, hy, hf⟩ := Sc.read1_inv hp hx hr
  have h1 := fun i z => heap_setCell_same w1 R i _ _ z (show w1.heap[R]? = some (.cells _ _ (0, 0)) from h)
  rcases hp with rfl | rfl | rfl | rfl | rfl
  · simp at hv
    subst hv
    refine ⟨u, ?_, ?_, hnu, ?_, hf⟩
    · rw [hy, h1]; simp [offP, rdObj, Sc.put]
    · have : y.bytes = x.bytes := by rw [hy]; rfl
      rw [this]; exact brow_rd hu h hu.sl hw
    · rw [hy]; rfl
  · simp at hv
    subst hv
    refine ⟨u, ?_, ?_, hnu, ?_, hf⟩
    · rw [hy, h1]; simp [offP, rdObj, Sc.put]
    · have : y.bytes = x.bytes := by rw [hy]; rfl
      rw [this]; exact brow_rd hu h hu.sl hw
    · rw [hy]; rfl
  · simp at hv
    subst hv
    refine ⟨u, ?_, ?_, hnu, ?_, hf⟩
    · rw [hy, h1]; simp [offP, rdObj, Sc.put]
    · have : y.bytes = x.bytes := by rw [hy]; rfl
      rw [this]; exact brow_rd hu h hu.sl hw
    · rw [hy]; rfl
  · simp at hv
    subst hv
    refine ⟨u, ?_, ?_, hnu, ?_, hf⟩
    · rw [hy, h1]; simp [offP, rdObj, Sc.put]
    · have : y.bytes = x.bytes := by rw [hy]; rfl
      rw [this]; exact brow_rd hu h hu.sl hw
    · rw [hy]; rfl
  · simp at hv
    refine ⟨v, ?_, brow_rd hv.1 h hu.sl hw, hv.2, ?_, hf⟩
    · rw [hy, h1]; simp [offP, rdObj, Sc.put]
    · rw [hy]; rfl
theorem reads_len : ∀ (ps : List UInt8) (ws : List (List UInt8)) (z : Sc.St), ps.length ≠ ws.length → Sc.reads ps ws z = none
  | [], [], z, h => absurd rfl h
  | [], w :: ws, z, h => rfl
  | p :: ps, [], z, h => rfl
  | p :: ps, w :: ws, z, h => by
    show (Sc.read1 p w z).bind (Sc.reads ps ws) = none
    cases Sc.read1 p w z with
    | none => rfl
    | some y => exact reads_len ps ws y (fun e => h (by simp [e]))
end Go.Proofs.YtbaakfcbakpmpaaGreatDoor

/- script: reader.read. No conditions but those that each law states. -/
namespace Go.Proofs.YtbaakfcbakpmpaaGreatDoor
set_option linter.unusedVariables false
set_option linter.unusedSimpArgs false
open Go.RowKit Go.Shelf
open Go.ChangeMaps (setBlock)
set_option maxHeartbeats 8000000
set_option maxRecDepth 100000
theorem cell_keepN {M : Nat} {W W' : World} {g i : Nat} {v : Value} (hM : ∀ cs t fr, W.heap[M]? ≠ some (.cells cs t fr)) (k : KeepM M W W') (h : W.cell? ⟨g, i, none⟩ = some v) : W'.cell? ⟨g, i, none⟩ = some v := by
  have hne : g ≠ M := by
    intro e
    subst e
    cases hg : W.heap[g]? with
    | none => simp [World.cell?, hg] at h
    | some ob =>
      cases ob with
      | cells cs t fr => exact hM cs t fr hg
      | _ => simp [World.cell?, hg] at h
  rw [← h]
  simp only [World.cell?, k.2 g (lt_of_cell h) hne]
theorem PtsAt.keepN {M : Nat} {W W' : World} {v : Value} {ps : List UInt8} (hM : ∀ cs t fr, W.heap[M]? ≠ some (.cells cs t fr)) (k : KeepM M W W') (h : PtsAt W v ps) : PtsAt W' v ps := by
  rcases h with h | ⟨g, h1, h2⟩
  · exact .inl h
  · refine .inr ⟨g, h1, fun j hj => ?_⟩
    obtain ⟨a, b, c, k1, k2, k3, k4⟩ := h2 j hj
    refine ⟨a, b, c, cell_keepN hM k k1, cell_keepN hM k k2, cell_keepN hM k k3, ?_⟩
    rcases k4 with ⟨hp, b, h1, h2⟩ | h | h
    · exact .inl ⟨hp, b, h1, (k.2 b (Array.getElem?_eq_some_iff.1 h2).1 (fun e => by subst e; exact hM _ _ _ h2)).trans h2⟩
    · exact .inr (.inl h)
    · exact .inr (.inr h)
def rdNo : Ending := .panicked [{ v := errno 390, recovered := false }]
/-- what read tells, and what it leaves in the reader -/
def RdOut (W : World) (R : Nat) (o : Option (Int × Sc.St)) (e : Ending) (w' : World) : Prop := match o with
  | none => e = rdNo ∧ Below R W w'
  | some (k, y) => e = .returned (.int .i64 k) ∧ Below R W w' ∧ y.kind = 0 ∧ y.fine ∧ ∃ u wv, w'.heap[R]? = some (rdObj y u wv) ∧ BRow w' u y.bytes ∧ NewV R u ∧ isSl wv
theorem find_name {T : Sc.Shapes} (hT : T = Sc.stepT ∨ T = Sc.outT) {i : Nat} (hi : i < T.length) : (T.find? fun e => e.2.1 == (T.getD i (0, [], [])).2.1) = some (T.getD i (0, [], [])) ∧ (T.getD i (0, [], [])) ∈ T := by
  have hm : (T.getD i (0, [], [])) ∈ T := by rw [List.getD_eq_getElem?_getD, List.getElem?_eq_getElem hi]; exact List.getElem_mem _
  obtain ⟨⟨k, nm, ps⟩, he⟩ : ∃ z, T.getD i (0, [], []) = z := ⟨_, rfl⟩
  rw [he] at hm ⊢
  exact ⟨(Sc.shOk_of hT hm).name, hm⟩
theorem find_none {T : Sc.Shapes} {w : List UInt8} (h : ∀ i, i < T.length → (T.getD i (0, [], [])).2.1 ≠ w) : (T.find? fun e => e.2.1 == w) = none := by
  rw [List.find?_eq_none]
  intro e he
  obtain ⟨i, hi, rfl⟩ := List.getElem_of_mem he
  have := h i hi
  rw [List.getD_eq_getElem?_getD, List.getElem?_eq_getElem hi] at this
  simpa using this
def rdF (Z R G np j f3 : Nat) (cap : Array Value) (zb : ByteArray) : Nat → World → Value → Prop
  | 0, _, v => v = .pointer (some ⟨Z, 2, none⟩)
  | 1, _, v => v = .func (.func f3) #[] cap
  | 2, _, v => v = .pointer (some ⟨R, 0, none⟩)
  | 3, _, v => v = .pointer (some ⟨R, 0, none⟩)
  | 4, _, v => v = .pointer (some ⟨R, 0, none⟩)
  | 5, _, v => v = .slice (some ⟨G, 1, none⟩) np np
  | 6, _, v => v = .int .i64 (j : Int)
  | 7, _, v => v = .pointer (some ⟨G, 1 + j, none⟩)
  | 8, _, v => v = .string zb
  | _, _, _ => False
def rdT (w0 : World) (_ : Nat → Bool) (w : World) : Prop := Below w0.heap.size w0 w
theorem sc_read {T : Sc.Shapes} (hT : T = Sc.stepT ∨ T = Sc.outT) (R b : Nat) (s : ByteArray) (w W : World) (hbw : Below w.heap.size w W) (hwR : w.heap.size ≤ R) (hR : W.heap[R]? = some (rdObj Sc.St.zero (.slice none 0 0) (.slice none 0 0))) (hm : ShAt W b T) (hs : s.size ≤ 50000) (ht : Tabs w) (hml : ML w) :
    Calls Tryz.prog 47 #[.pointer (some ⟨R, 0, none⟩), .map (some b), .string s] W (RdOut W R (Sc.parse T s.data.toList)) := by
  have hRW : R < W.heap.size := (Array.getElem?_eq_some_iff.1 hR).1
  obtain ⟨m, hmx⟩ := hml
  have hmW := (hbw.cell (p := ⟨0, 0, none⟩) (lt_of_cell hmx)).trans hmx
  have SP := Tryz.strings_Split s ⟨#[32]⟩ m W (by omega) hmW (by decide)
  obtain ⟨n, hn⟩ : ∃ n, Lib.countB s ⟨#[32]⟩ + 1 = n := ⟨_, rfl⟩
  have hwl : (Sc.words s.data.toList).length = n := by
    unfold Sc.words
    rw [← Gs.splitB_is 32 s, List.length_map, Lib.splitB_all _ (by decide) 0 _ s rfl, hn]
  obtain ⟨bs, hbs⟩ : ∃ z, Lib.splitB ⟨#[32]⟩ 0 (Lib.countB s ⟨#[32]⟩) s = z := ⟨_, rfl⟩
  have hbl : bs.map (·.data.toList) = Sc.words s.data.toList := by rw [← hbs]; exact Gs.splitB_is 32 s
  rw [hbs, hn] at SP
  obtain ⟨G, hG⟩ : ∃ z, W.heap.size = z := ⟨_, rfl⟩
  obtain ⟨W1, hW1⟩ : ∃ z, W.alloc (.cells (bs.map Value.string).toArray 9) = z := ⟨_, rfl⟩
  rw [hG, hW1] at SP
  have hb1 : Below W.heap.size W W1 := by rw [← hW1]; exact (Below.refl _ _).alloc (Nat.le_refl _) _
  have hG1 : W1.heap[G]? = some (.cells (bs.map Value.string).toArray 9 (0, 0)) := by rw [← hW1, ← hG]; exact World.alloc_heap_new _ _
  have hR1 := (hb1.block _ hRW).trans hR
  -- the reader behind the words are stored
  obtain ⟨W2, hW2⟩ : ∃ z, W1.setCell ⟨R, 6, none⟩ (.slice (some ⟨G, 0, none⟩) n n) = z := ⟨_, rfl⟩
  have hR2 : W2.heap[R]? = some (rdObj Sc.St.zero (.slice none 0 0) (.slice (some ⟨G, 0, none⟩) n n)) := by
    rw [← hW2, heap_setCell_same W1 R 6 _ _ _ (show W1.heap[R]? = some (.cells _ _ (0, 0)) from hR1)]
    rfl
  have hk2 : KeepM R W1 W2 := by rw [← hW2]; exact KeepM.setCell _ _ _ _
  have hRG : R ≠ G := by omega
  have hG2 : W2.heap[G]? = some (.cells (bs.map Value.string).toArray 9 (0, 0)) := (hk2.2 G (Array.getElem?_eq_some_iff.1 hG1).1 (Ne.symm hRG)).trans hG1
  have hb2 : Below R W W2 := by rw [← hW2]; exact (hb1.mono (Nat.le_of_lt hRW)).setCell (p := ⟨R, 6, none⟩) (Nat.le_refl _) _
  obtain ⟨vs, hv1, hv2, hv3⟩ := hm
  have hbR : b ≠ R := by
    intro e
    subst e
    rw [hR] at hv2
    unfold rdObj at hv2
    simp at hv2
  have hM2 : W2.heap[b]? = some (.map (shEs 0 T vs).toArray T.length) := by
    have h1 := (hb1.block _ (Array.getElem?_eq_some_iff.1 hv2).1).trans hv2
    exact (hk2.2 b (Array.getElem?_eq_some_iff.1 h1).1 hbR).trans h1
  have hp2 : ∀ i, i < T.length → PtsAt W2 (vs.getD i undef) (T.getD i (0, [], [])).2.2 := fun i hi =>
    ((hv3 i hi).below hb1).keepR hR1 ⟨_, _, _, rfl⟩ ⟨_, _, _, rfl⟩ hk2
  -- the words
  have hws : ∀ j, j < n → ∃ z : ByteArray, (bs.map Value.string)[j]? = some (.string z) ∧ z.data.toList = (Sc.words s.data.toList).getD j [] ∧ z.size ≤ 50000 := fun j hj => by
    have hjl : j < bs.length := by rw [← List.length_map (f := (·.data.toList)), hbl, hwl]; exact hj
    refine ⟨bs[j], by simp [hjl], ?_, ?_⟩
    · rw [← hbl, List.getD_eq_getElem?_getD, List.getElem?_map, List.getElem?_eq_getElem hjl]; rfl
    · have h1 : bs[j].data.toList ∈ Sc.words s.data.toList := by rw [← hbl]; exact List.mem_map.2 ⟨_, List.getElem_mem hjl, rfl⟩
      have h2 := Gs.parts_len 32 _ [] _ h1
      have h3 : bs[j].data.toList.length = bs[j].size := rfl
      have h4 : s.data.toList.length = s.size := rfl
      simp at h2
      omega
  have hn0 : 0 < n := by omega
  obtain ⟨wb, hwb1, hwb2, hwb3⟩ := hws 0 hn0
  obtain ⟨w0, ws, hww⟩ : ∃ w0 ws, Sc.words s.data.toList = w0 :: ws := by
    cases h : Sc.words s.data.toList with
    | nil => rw [h] at hwl; simp at hwl; omega
    | cons x y => exact ⟨x, y, rfl⟩
  have hw0 : wb.data.toList = w0 := by rw [hwb2, hww]; rfl
  have hPA : Sc.parse T s.data.toList = (match T.find? fun e => e.2.1 == w0 with
      | none => none
      | some (k, _, ps) => (Sc.reads ps ws Sc.St.zero).map fun x => (k, x)) := by
    unfold Sc.parse
    rw [hww]
    rfl
  obtain ⟨o, ho⟩ : ∃ z, Sc.parse T s.data.toList = z := ⟨_, rfl⟩
  rw [ho] at hPA ⊢
  have HPA := Lib.hid hPA
  have HWS := Lib.hid hws
  have HWW := Lib.hid hww
  have HWL := Lib.hid hwl
  have HW0 := Lib.hid hw0
  have HP2 := Lib.hid hp2
  have HM2 := Lib.hid hM2
  have HV1 := Lib.hid hv1
  have HB2 := Lib.hid hb2
  have HG2 := Lib.hid hG2
  have HR2 := Lib.hid hR2
  have HRG := Lib.hid hRG
  have HBR := Lib.hid hbR
  have HBW := Lib.hid hbw
  have HWR := Lib.hid hwR
  have HT := Lib.hid ht
  have HW2 := Lib.hid hW2
  have HSP := Lib.hid SP
  have HZR := Lib.hid (show R < W2.heap.size from (Array.getElem?_eq_some_iff.1 hR2).1)
  have HWB1 := Lib.hid hwb1
  obtain ⟨i0, i1, i2, i3, i4, i5, ifr⟩ := SR.ofR hR1
  have i6 : W1.cell? ⟨R, 6, none⟩ = some (.slice none 0 0) := by
    unfold rdObj at hR1
    simp [World.cell?, hR1]
  have iz6 := ifr 6
  clear hPA hws hww hwl hw0 hp2 hM2 hv1 hv2 hv3 hb2 hG2 hR2 hRG hbR hbw hwR ht hW2 SP hwb1 hwb2 hwb3 hb1 hG1 hR1 hW1 hG hk2 hbl hbs hn ho hmW hmx hRW hR ifr i0 i1 i2 i3 i4 i5
  go_enter Tryz.func47, Tryz.ntmps47
  go_wp2_with fail
  refine HSP.out.mono ?_
  rintro e w' ⟨rfl, hw⟩
  subst w'
  have hrg := Go.run_range_map (P := Tryz.prog) W2 85 _ _ b (shEs 0 T vs).toArray T.length Tryz.underlying85 HM2.out
  obtain ⟨r, hr⟩ : ∃ z, W2.heap.size = z := ⟨_, rfl⟩
  obtain ⟨W5, hW5⟩ : ∃ z, W2.alloc (.mapIter (some b) T.length #[] T.length) = z := ⟨_, rfl⟩
  rw [hr, hW5] at hrg
  have hb5 : Below W2.heap.size W2 W5 := by rw [← hW5]; exact (Below.refl _ _).alloc (Nat.le_refl _) _
  have HR5 := Lib.hid (show W5.heap[r]? = some (.mapIter (some b) T.length #[] T.length) by rw [← hW5, ← hr]; exact World.alloc_heap_new _ _)
  have HD5 := Lib.hid ((hb5.block _ (Array.getElem?_eq_some_iff.1 HR2.out).1).trans HR2.out)
  have HM5 := Lib.hid ((hb5.block _ (Array.getElem?_eq_some_iff.1 HM2.out).1).trans HM2.out)
  have HG5 := Lib.hid ((hb5.block _ (Array.getElem?_eq_some_iff.1 HG2.out).1).trans HG2.out)
  have HP5 := Lib.hid (fun i (hi : i < T.length) => (HP2.out i hi).below hb5)
  have HB5 := Lib.hid (show Below R W W5 from HB2.out.trans (hb5.mono (Nat.le_of_lt HZR.out)))
  have HRr := Lib.hid (show R < r by rw [← hr]; exact HZR.out)
  have HBr := Lib.hid (show b < r by rw [← hr]; exact (Array.getElem?_eq_some_iff.1 HM2.out).1)
  have HGr := Lib.hid (show G < r by rw [← hr]; exact (Array.getElem?_eq_some_iff.1 HG2.out).1)
  clear hb5 hr hW5
  go_upto_region 2 with (fail)
  rw [HW2.out]
  clear i6 iz6
  go_wp2_with fail
  go_loopw [] (fun wr => ∃ (seen : Array Nat) (c : Nat), T.length ≤ c ∧ (∀ i, i ∈ seen.toList → i < T.length → (T.getD i (0, [], [])).2.1 ≠ w0) ∧ wr.heap[r]? = some (.mapIter (some b) T.length seen c) ∧ KeepM r W5 wr ∧ Below R W wr) (fun wr => match wr.heap[r]? with | some (.mapIter _ _ seen _) => (leftOf (shEs 0 T vs).toArray seen).size | _ => 0)
  case atStart => exact ⟨#[], T.length, Nat.le_refl _, fun i h => by simp at h, HR5.out, KeepM.refl _ _, HB5.out⟩
  case round =>
    obtain ⟨seen, c, hc, hsn, hr, hk, hb⟩ := hrel
    have hMw : wr.heap[b]? = some (.map (shEs 0 T vs).toArray T.length) := (hk.2 b (Array.getElem?_eq_some_iff.1 HM5.out).1 (Nat.ne_of_lt HBr.out)).trans HM5.out
    have hDw : wr.heap[R]? = some (rdObj Sc.St.zero (.slice none 0 0) (.slice (some ⟨G, 0, none⟩) n n)) := (hk.2 R (Array.getElem?_eq_some_iff.1 HD5.out).1 (Nat.ne_of_lt HRr.out)).trans HD5.out
    have hGw : wr.heap[G]? = some (.cells (bs.map Value.string).toArray 9 (0, 0)) := (hk.2 G (Array.getElem?_eq_some_iff.1 HG5.out).1 (Nat.ne_of_lt HGr.out)).trans HG5.out
    have hnd : ((shEs 0 T vs).toArray.toList.map (·.born)).Nodup := by
      rw [List.toList_toArray, born_shEs T vs 0 HV1.out]; exact List.nodup_range'
    have hold : ∀ x ∈ (shEs 0 T vs).toArray.toList, x.born < T.length := fun x hx => by
      rw [List.toList_toArray] at hx
      obtain ⟨i, h1, rfl⟩ := mem_shEs T vs 0 x HV1.out hx
      show 0 + i < T.length
      omega
    rcases run_next_at (P := Tryz.prog) wr 0 r b T.length c seen (shEs 0 T vs).toArray T.length hr hMw hold hc with ⟨h0, hnx⟩ | ⟨e, he, w1, hal, hrun⟩
    · have ho : o = none := by
        have h := HPA.out
        rw [find_none fun i hi => hsn i (left_none HV1.out h0 i hi) hi] at h
        exact h
      have HO := Lib.hid ho
      have HB := Lib.hid hb
      clear hMw hDw hGw hnd hold h0 ho hb hsn hc hk hrg
      go_wp2_with fail
      simp only [bodyPost]
      rw [HO.out]
      first | exact ⟨rfl, HB.out⟩ | exact ⟨trivial, rfl, HB.out⟩ | exact ⟨rfl, rfl, HB.out⟩
    · have hlt := left_less he
      have he0 : e ∈ (shEs 0 T vs).toArray.toList := by
        unfold leftOf at he
        simp at he ⊢
        exact he.1
      obtain ⟨i, hi, rfl⟩ := left_mem HV1.out he
      obtain ⟨hfi, hmem⟩ := find_name hT hi
      have hpi := HP5.out i hi
      have hsi : ∀ j, j ∈ (seen.push i).toList → j < T.length → (T.getD i (0, [], [])).2.1 ≠ w0 → (T.getD j (0, [], [])).2.1 ≠ w0 := fun j hj hjl hne => by
        rw [Array.toList_push, List.mem_append, List.mem_singleton] at hj
        rcases hj with hj | rfl
        · exact hsn j hj hjl
        · exact hne
      obtain ⟨pv, hpv⟩ : ∃ z, vs.getD i undef = z := ⟨_, rfl⟩
      obtain ⟨⟨k, nm, ps⟩, hte⟩ : ∃ z, T.getD i (0, [], []) = z := ⟨_, rfl⟩
      rw [hte] at hfi hmem hpi hsi
      rw [hpv] at hpi
      have hes : shE (T.getD i (0, [], [])) (vs.getD i undef) i = ⟨.int .i64 k, .agg #[.string ⟨nm.toArray⟩, pv], i⟩ := by rw [hte, hpv]; rfl
      rw [hes] at he he0 hrun hlt
      simp only at hfi hpi hsi hrun hlt
      obtain ⟨hp3, hn10, hpl⟩ := shape_few hT (Sc.shOk_of hT hmem).sh
      have HSI := Lib.hid hsi
      have HFI := Lib.hid hfi
      have HPI := Lib.hid hpi
      have HPL := Lib.hid hpl
      have HLT := Lib.hid hlt
      obtain ⟨np, hnp⟩ : ∃ z, ps.length = z := ⟨_, rfl⟩
      have HNP := Lib.hid hnp
      have hnp3 : np ≤ 3 := by omega
      obtain ⟨q, rfl⟩ : ∃ q, pv = .slice q np np := by
        rcases hpi with ⟨h1, h2⟩ | ⟨g, h1, _⟩
        · subst h2; simp at hnp; subst hnp; exact ⟨_, h1⟩
        · rw [hnp] at h1; exact ⟨_, h1⟩
      obtain ⟨nb, hnb⟩ : ∃ z : ByteArray, (⟨nm.toArray⟩ : ByteArray) = z := ⟨_, rfl⟩
      rw [hnb] at he he0 hrun hes
      have HNB := Lib.hid (show nb.data.toList = nm by rw [← hnb])
      have hkw1 : ∀ j : Nat, w1.heap[j]? = wr.heap[j]? := by rcases hal with rfl | rfl <;> exact fun _ => rfl
      have hbw1 : Below wr.heap.size wr w1 := by rcases hal with rfl | rfl; exact Below.refl _ _; exact ⟨rfl, rfl, rfl, Nat.le_refl _, fun _ _ => rfl⟩
      obtain ⟨W6, hW6⟩ : ∃ z, setBlock w1 r (.mapIter (some b) T.length (seen.push i) T.length) = z := ⟨_, rfl⟩
      rw [hW6] at hrun
      have hr6 : W6.heap[r]? = some (.mapIter (some b) T.length (seen.push i) T.length) := by rw [← hW6]; exact setBlock_atS ((hkw1 r).trans hr)
      have hk6 : KeepM r W5 W6 := by
        rw [← hW6]
        refine hk.trans (KeepM.trans (KeepM.of_below hbw1) (KeepM.set _ _))
      have hb6 : Below R W W6 := by
        rw [← hW6]
        exact (hb.trans (hbw1.mono (Nat.le_of_lt (Array.getElem?_eq_some_iff.1 hDw).1))).trans (setBlock_belowS _ _ _ _ (Nat.le_of_lt HRr.out))
      have hM6 : W6.heap[b]? = some (.map (shEs 0 T vs).toArray T.length) := (hk6.2 b (Array.getElem?_eq_some_iff.1 HM5.out).1 (Nat.ne_of_lt HBr.out)).trans HM5.out
      have hen := run_entry_at (P := Tryz.prog) W6 r b T.length seen (shEs 0 T vs).toArray T.length _ hr6 hM6 he0 hnd
      simp only at hen
      obtain ⟨H, hH⟩ : ∃ z, W6.heap.size = z := ⟨_, rfl⟩
      obtain ⟨W7, hW7⟩ : ∃ z, W6.alloc (.cells #[.string nb, .slice q np np] 118) = z := ⟨_, rfl⟩
      have hb7 : Below W6.heap.size W6 W7 := by rw [← hW7]; exact (Below.refl _ _).alloc (Nat.le_refl _) _
      have hH7 : W7.heap[H]? = some (.cells #[.string nb, .slice q np np] 118 (0, 0)) := by rw [← hW7, ← hH]; exact World.alloc_heap_new _ _
      have hD6 : W6.heap[R]? = some (rdObj Sc.St.zero (.slice none 0 0) (.slice (some ⟨G, 0, none⟩) n n)) := (hk6.2 R (Array.getElem?_eq_some_iff.1 HD5.out).1 (Nat.ne_of_lt HRr.out)).trans HD5.out
      have hG6 : W6.heap[G]? = some (.cells (bs.map Value.string).toArray 9 (0, 0)) := (hk6.2 G (Array.getElem?_eq_some_iff.1 HG5.out).1 (Nat.ne_of_lt HGr.out)).trans HG5.out
      have HD7 := Lib.hid ((hb7.block _ (Array.getElem?_eq_some_iff.1 hD6).1).trans hD6)
      have HG7 := Lib.hid ((hb7.block _ (Array.getElem?_eq_some_iff.1 hG6).1).trans hG6)
      have HK7 := Lib.hid (hk6.trans (KeepM.of_below (M := r) hb7))
      have HB7 := Lib.hid (hb6.trans (hb7.mono (Nat.le_of_lt (Array.getElem?_eq_some_iff.1 hD6).1)))
      have HR7 := Lib.hid ((hb7.block _ (Array.getElem?_eq_some_iff.1 hr6).1).trans hr6)
      have HH7 := Lib.hid hH7
      have HRH := Lib.hid (show R < H by rw [← hH]; exact (Array.getElem?_eq_some_iff.1 hD6).1)
      have h0 : W7.cell? ⟨H, 0, none⟩ = some (.string nb) := by simp [World.cell?, hH7]
      have h1 : W7.cell? ⟨H, 1, none⟩ = some (.slice q np np) := by simp [World.cell?, hH7]
      have d6 : W7.cell? ⟨R, 6, none⟩ = some (.slice (some ⟨G, 0, none⟩) n n) := by
        have := HD7.out
        unfold rdObj at this
        simp [World.cell?, this]
      have g0 : W7.cell? ⟨G, 0, none⟩ = some (.string wb) := by
        have := HWB1.out
        simp only [World.cell?, HG7.out]
        simpa using this
      have hn1 : (0 : Int) < (n : Int) := by omega
      have HW7 := Lib.hid hW7
      have HH := Lib.hid hH
      have HR0 := Lib.hid hr
      clear hr6 hk6 hb6 hM6 hb7 hH7 hD6 hG6 hW7 hH hW6 hkw1 hbw1 hal hes he he0 hnb hpi hsi hfi hpl hlt hp3 hn10 hmem hte hpv hMw hDw hGw hnd hold hsn hc hk hb hrg hr
      by_cases hne : nm = w0
      · have hq0 : (nb.toList == wb.toList) = true := by rw [ByteArray.toList_eq, ByteArray.toList_eq, HNB.out, HW0.out]; simpa using hne
        have hq : (nb.toList != wb.toList) = false := by simp [bne, hq0]
        have HNE := Lib.hid hne
        clear hne
        go_upto_region 5 with (fail)
        rw [HH.out, HW7.out]
        go_quiet (fail)
        go_wp2_with fail
        obtain ⟨W8, hW8⟩ : ∃ z, W7.drewN nq = z := ⟨_, rfl⟩
        have hh8 : W8.heap = W7.heap := by rw [← hW8]; rfl
        have hbd : Below W7.heap.size W7 W8 := by rw [← hW8]; exact ⟨rfl, rfl, rfl, Nat.le_refl _, fun _ _ => rfl⟩
        have HD8 := Lib.hid (show W8.heap[R]? = some (rdObj Sc.St.zero (.slice none 0 0) (.slice (some ⟨G, 0, none⟩) n n)) by rw [hh8]; exact HD7.out)
        have HG8 := Lib.hid (show W8.heap[G]? = some (.cells (bs.map Value.string).toArray 9 (0, 0)) by rw [hh8]; exact HG7.out)
        have HH8 := Lib.hid (show W8.heap[H]? = some (.cells #[.string nb, .slice q np np] 118 (0, 0)) by rw [hh8]; exact HH7.out)
        have HK8 := Lib.hid (HK7.out.trans (KeepM.of_below (M := r) hbd))
        have HB8 := Lib.hid (HB7.out.trans (hbd.mono (Nat.le_of_lt (Array.getElem?_eq_some_iff.1 HD7.out).1)))
        have e6 : W8.cell? ⟨R, 6, none⟩ = some (.slice (some ⟨G, 0, none⟩) n n) := by
          have := HD8.out
          unfold rdObj at this
          simp [World.cell?, this]
        have k1 : W8.cell? ⟨H, 1, none⟩ = some (.slice q np np) := by simp [World.cell?, HH8.out]
        have HP8 := Lib.hid (show PtsAt W8 (.slice q np np) ps from HPI.out.keepN (fun cs t fr h => by rw [HR5.out] at h; cases h) HK8.out)
        have HPA2 := Lib.hid (show o = (Sc.reads ps ws Sc.St.zero).map fun x => (k, x) by
          have h := HPA.out
          rw [← HNE.out, HFI.out] at h
          exact h)
        rw [hW8]
        clear hh8 hbd hW8 h0 h1 d6 g0 HD7 HG7 HH7 HK7 HB7 HR7 hq hq0
        have hwsl : ws.length = n - 1 := by
          have := HWL.out
          rw [HWW.out] at this
          simp at this
          omega
        have HWSL := Lib.hid hwsl
        clear hwsl
        by_cases hn1 : n = 1
        · subst hn1
          go_quiet (fail)
          obtain ⟨W9, hW9⟩ : ∃ z, W8.drewN nq = z := ⟨_, rfl⟩
          have hh9 : W9.heap = W8.heap := by rw [← hW9]; rfl
          have hbd : Below W8.heap.size W8 W9 := by rw [← hW9]; exact ⟨rfl, rfl, rfl, Nat.le_refl _, fun _ _ => rfl⟩
          have HD9 := Lib.hid (show W9.heap[R]? = some (rdObj Sc.St.zero (.slice none 0 0) (.slice (some ⟨G, 0, none⟩) 1 1)) by rw [hh9]; exact HD8.out)
          have HG9 := Lib.hid (show W9.heap[G]? = some (.cells (bs.map Value.string).toArray 9 (0, 0)) by rw [hh9]; exact HG8.out)
          have HP9 := Lib.hid (HP8.out.below hbd)
          have HB9 := Lib.hid (HB8.out.trans (hbd.mono (Nat.le_of_lt (Array.getElem?_eq_some_iff.1 HD8.out).1)))
          have k9 : W9.cell? ⟨H, 1, none⟩ = some (.slice q np np) := by simp [World.cell?, hh9, HH8.out]
          rw [hW9]
          clear hh9 hbd hW9 e6 k1
          by_cases hlen : np = 0
          · subst hlen
            have q1 : ((0 : Int) == (0 : Int)) = true := beq_self_eq_true _
            go_wp2_with fail
            refine (sc_must 390 W9).mono ?_
            rintro e w' ⟨rfl, hw⟩
            subst w'
            go_wp2_with fail
            clear k9 q1
            obtain ⟨wo, rfl⟩ : ∃ z, z = wr := ⟨wr, rfl⟩
            go_loopw [58] (fun i wr => ∃ (j : Nat) (y : Sc.St) (u : Value), j ≤ 0 ∧ i = .int .i64 j ∧ Sc.reads ps ws Sc.St.zero = Sc.reads (ps.drop j) (ws.drop j) y ∧ wr.heap[R]? = some (rdObj y u (.slice (some ⟨G, 0, none⟩) 1 1)) ∧ BRow wr u y.bytes ∧ NewV R u ∧ y.kind = 0 ∧ y.fine ∧ KeepM R W9 wr ∧ Below R W wr) (fun i _ => 0 - (intOf i).toNat)
            case atStart => exact ⟨0, Sc.St.zero, .slice none 0 0, Nat.zero_le _, rfl, rfl, HD9.out, BRow.nil _, (fun g hg => by simp [Value.ownBlock] at hg), rfl, ⟨⟨by decide, by decide, by decide⟩, by decide⟩, KeepM.refl _ _, HB9.out⟩
            case round =>
              obtain ⟨j, y, u, hj, rfl, hrd, hry, huy, hnu, hky, hfy, hkk, hbb⟩ := hrel
              have HNU := Lib.hid hnu
              have HRD := Lib.hid hrd
              have HRY := Lib.hid hry
              have HUY := Lib.hid huy
              have HKY := Lib.hid hky
              have HFY := Lib.hid hfy
              have HKK := Lib.hid hkk
              have HBB := Lib.hid hbb
              clear hrd hry huy hnu hky hfy hkk hbb
              by_cases hlt2 : j < 0
              · exact absurd hlt2 (by omega)
              · have hjn : j = 0 := by omega
                have ho : o = some (k, y) := by
                  have h := HRD.out
                  rw [hjn, List.drop_of_length_le (by rw [HNP.out]; exact Nat.le_refl _), List.drop_of_length_le (by rw [HWSL.out]; exact Nat.le_refl _)] at h
                  rw [HPA2.out, h]
                  rfl
                have HO := Lib.hid ho
                clear ho hjn
                go_wp2_with fail
                go_ret
                rw [HO.out]
                exact ⟨rfl, HBB.out, HKY.out, HFY.out, _, _, HRY.out, HUY.out, HNU.out, ⟨_, _, _, rfl⟩⟩
          · have q1 : ((0 : Int) == (np : Int)) = false := by
              rw [beq_eq_false_iff_ne]
              omega
            have HO := Lib.hid (show o = none by
              rw [HPA2.out, reads_len ps ws _ (by rw [HNP.out, HWSL.out]; omega)]; rfl)
            clear hlen
            go_wp2_with fail
            refine (sc_must_no 390 W9).mono ?_
            rintro e w' ⟨rfl, hw⟩
            subst w'
            exact ⟨rfl, by rw [HO.out]; exact ⟨rfl, HB9.out⟩⟩
        · go_quiet (fail)
          obtain ⟨nw, hnw⟩ : ∃ z, n - 1 = z := ⟨_, rfl⟩
          rw [hnw] at HWSL
          simp only [hnw]
          obtain ⟨W9, hW9⟩ : ∃ z, W8.drewN nq = z := ⟨_, rfl⟩
          have hh9 : W9.heap = W8.heap := by rw [← hW9]; rfl
          have hbd : Below W8.heap.size W8 W9 := by rw [← hW9]; exact ⟨rfl, rfl, rfl, Nat.le_refl _, fun _ _ => rfl⟩
          have HD9 := Lib.hid (show W9.heap[R]? = some (rdObj Sc.St.zero (.slice none 0 0) (.slice (some ⟨G, 0, none⟩) n n)) by rw [hh9]; exact HD8.out)
          have HG9 := Lib.hid (show W9.heap[G]? = some (.cells (bs.map Value.string).toArray 9 (0, 0)) by rw [hh9]; exact HG8.out)
          have HP9 := Lib.hid (HP8.out.below hbd)
          have HB9 := Lib.hid (HB8.out.trans (hbd.mono (Nat.le_of_lt (Array.getElem?_eq_some_iff.1 HD8.out).1)))
          have k9 : W9.cell? ⟨H, 1, none⟩ = some (.slice q np np) := by simp [World.cell?, hh9, HH8.out]
          rw [hW9]
          clear hh9 hbd hW9 e6 k1
          by_cases hlen : np = nw
          · subst hlen
            have q1 : (((np : Nat) : Int) == ((np : Nat) : Int)) = true := beq_self_eq_true _
            go_wp2_with fail
            refine (sc_must 390 W9).mono ?_
            rintro e w' ⟨rfl, hw⟩
            subst w'
            go_wp2_with fail
            clear k9 q1
            obtain ⟨wo, rfl⟩ : ∃ z, z = wr := ⟨wr, rfl⟩
            go_loopw [58] (fun i wr => ∃ (j : Nat) (y : Sc.St) (u : Value), j ≤ np ∧ i = .int .i64 j ∧ Sc.reads ps ws Sc.St.zero = Sc.reads (ps.drop j) (ws.drop j) y ∧ wr.heap[R]? = some (rdObj y u (.slice (some ⟨G, 0, none⟩) n n)) ∧ BRow wr u y.bytes ∧ NewV R u ∧ y.kind = 0 ∧ y.fine ∧ KeepM R W9 wr ∧ Below R W wr) (fun i _ => np - (intOf i).toNat)
            case atStart => exact ⟨0, Sc.St.zero, .slice none 0 0, Nat.zero_le _, rfl, rfl, HD9.out, BRow.nil _, (fun g hg => by simp [Value.ownBlock] at hg), rfl, ⟨⟨by decide, by decide, by decide⟩, by decide⟩, KeepM.refl _ _, HB9.out⟩
            case round =>
              obtain ⟨j, y, u, hj, rfl, hrd, hry, huy, hnu, hky, hfy, hkk, hbb⟩ := hrel
              have HNU := Lib.hid hnu
              have HRD := Lib.hid hrd
              have HRY := Lib.hid hry
              have HUY := Lib.hid huy
              have HKY := Lib.hid hky
              have HFY := Lib.hid hfy
              have HKK := Lib.hid hkk
              have HBB := Lib.hid hbb
              clear hrd hry huy hnu hky hfy hkk hbb
              by_cases hlt2 : j < np
              · have hpk := HP9.out.keepR HD9.out ⟨_, _, _, rfl⟩ ⟨_, _, _, rfl⟩ HKK.out
                obtain ⟨g, rfl, hrow⟩ : ∃ g, q = some ⟨g, 0, none⟩ ∧ ∀ j, j < ps.length → ∃ a b c, wr.cell? ⟨g, j * 3, none⟩ = some a ∧ wr.cell? ⟨g, j * 3 + 1, none⟩ = some b ∧ wr.cell? ⟨g, j * 3 + 2, none⟩ = some c ∧ PartAt wr (.agg #[a, b, c]) (ps.getD j 0) := by
                  rcases hpk with ⟨h1, h2⟩ | ⟨g, h1, h2⟩
                  · exfalso
                    have := HNP.out
                    rw [h2] at this
                    simp at this
                    omega
                  · simp only [Value.slice.injEq] at h1
                    exact ⟨g, h1.1, h2⟩
                obtain ⟨a1, a2, a3, k1, k2, k3, hpa⟩ := hrow j (by rw [HNP.out]; exact hlt2)
                have hjl : j < ps.length := by rw [HNP.out]; exact hlt2
                have hjw : j < ws.length := by rw [HWSL.out]; exact hlt2
                have hip := HPL.out (ps.getD j 0) (by rw [List.getD_eq_getElem?_getD, List.getElem?_eq_getElem hjl]; exact List.getElem_mem _)
                obtain ⟨zb, hz1, hz2, hz3⟩ := HWS.out (1 + j) (by omega)
                have hz4 : zb.data.toList = ws.getD j [] := by rw [hz2, HWW.out, Nat.add_comm]; rfl
                have HDR := Lib.hid (show Sc.reads ps ws Sc.St.zero = (Sc.read1 (ps.getD j 0) zb.data.toList y).bind (Sc.reads (ps.drop (j + 1)) (ws.drop (j + 1))) by
                  rw [HRD.out, List.drop_eq_getElem_cons hjl, List.drop_eq_getElem_cons hjw, hz4, List.getD_eq_getElem?_getD, List.getElem?_eq_getElem hjl, List.getD_eq_getElem?_getD, List.getElem?_eq_getElem hjw]
                  rfl)
                obtain ⟨pc, hpc⟩ : ∃ z, ps.getD j 0 = z := ⟨_, rfl⟩
                rw [hpc] at hpa hip HDR
                obtain ⟨f1, f2, f3, cap, he, _⟩ := hpa.ok
                obtain ⟨rfl, rfl, rfl⟩ : a1 = .func (.func f1) #[] cap ∧ a2 = .func (.func f2) #[] cap ∧ a3 = .func (.func f3) #[] cap := by simpa using he
                obtain ⟨W10, hW10⟩ : ∃ z, wr.alloc (.cells #[.func (.func f1) #[] cap, .func (.func f2) #[] cap, .func (.func f3) #[] cap] 124) = z := ⟨_, rfl⟩
                obtain ⟨Z, hZ⟩ : ∃ z, wr.heap.size = z := ⟨_, rfl⟩
                have hb10 : Below wr.heap.size wr W10 := by rw [← hW10]; exact (Below.refl _ _).alloc (Nat.le_refl _) _
                have hZ10 : W10.heap[Z]? = some (.cells #[.func (.func f1) #[] cap, .func (.func f2) #[] cap, .func (.func f3) #[] cap] 124 (0, 0)) := by rw [← hW10, ← hZ]; exact World.alloc_heap_new _ _
                have hG10 : W10.heap[G]? = some (.cells (bs.map Value.string).toArray 9 (0, 0)) := by
                  have h1 := (HKK.out.2 G (Array.getElem?_eq_some_iff.1 HG9.out).1 (Ne.symm HRG.out)).trans HG9.out
                  exact (hb10.block _ (Array.getElem?_eq_some_iff.1 h1).1).trans h1
                have hR10 := (hb10.block _ (Array.getElem?_eq_some_iff.1 HRY.out).1).trans HRY.out
                have HCE := Lib.hid (show ∀ W', Below W10.heap.size W10 W' → W'.cell? ⟨Z, 2, none⟩ = some (.func (.func f3) #[] cap) ∧ W'.cell? ⟨G, 1 + j, none⟩ = some (.string zb) from fun W' h => by
                  have h1 := (h.block _ (Array.getElem?_eq_some_iff.1 hZ10).1).trans hZ10
                  have h2 := (h.block _ (Array.getElem?_eq_some_iff.1 hG10).1).trans hG10
                  constructor
                  · simp [World.cell?, h1]
                  · simp only [World.cell?, h2]
                    simpa using hz1)
                have hpa10 := hpa.below hb10
                have KR := Lib.hid (show ∀ W', Below W10.heap.size W10 W' → EntersF f3 ∧ Calls Tryz.prog f3 (#[.pointer (some ⟨R, 0, none⟩), .string zb] ++ cap) W' (ReadOut W' R pc zb.data.toList y) from fun W' h => by
                  obtain ⟨g1, g2, g3, cap2, he2, hok⟩ := (hpa10.below h).ok
                  obtain ⟨rfl, rfl, rfl, rfl⟩ : f1 = g1 ∧ f2 = g2 ∧ f3 = g3 ∧ cap = cap2 := by simp at he2; exact ⟨he2.1.1, he2.2.1.1, he2.2.2.1, he2.1.2⟩
                  have hsr := (h.block _ (Array.getElem?_eq_some_iff.1 hR10).1).trans hR10
                  exact ⟨hok.e3, hok.read R y u zb (by omega) (SR.ofR hsr) (HT.out.below (HBW.out.trans ((HBB.out.trans ((hb10.trans (h.mono hb10.size)).mono (Nat.le_of_lt (Array.getElem?_eq_some_iff.1 HRY.out).1))).mono HWR.out)))⟩)
                have HR10 := Lib.hid hR10
                have HB10 := Lib.hid (show Below R W W10 from HBB.out.trans (hb10.mono (Nat.le_of_lt (Array.getElem?_eq_some_iff.1 HRY.out).1)))
                have HK10 := Lib.hid (HKK.out.trans (KeepM.of_below (M := R) hb10))
                have HU10 := Lib.hid (HUY.out.below hb10)
                have HIP := Lib.hid hip
                have HZZ := Lib.hid (show wr.heap.size ≤ W10.heap.size from hb10.size)
                have HW10 := Lib.hid hW10
                have HZ := Lib.hid hZ
                clear hpk hrow hpa hjl hjw hip hz1 hz2 hz3 hz4 hpc he hb10 hZ10 hG10 hR10 hpa10 hW10 hZ
                go_upto_region 11 with (fail)
                rw [HZ.out, HW10.out]
                have hj2 : (j : Int) < (np : Int) := by omega
                have HBX := Lib.hid (show ∀ X, Below W10.heap.size W10 X → ∀ i v, Below R W (X.setCell ⟨R, i, none⟩ v) from fun X h i v =>
                  (HB10.out.trans (h.mono (Nat.le_of_lt (Array.getElem?_eq_some_iff.1 HR10.out).1))).setCell (p := ⟨R, i, none⟩) (Nat.le_refl _) v)
                refine region_last2 9 (fun i => 63 + min i 8) (rdF Z R G np j f3 cap zb) (rdT W10) (by kernel_rfl) (by kernel_rfl) rfl (by kernel_rfl) (fun i => by show 63 + min i 8 < _; simp; omega) (fun i j hi hj h => by have h : 63 + min i 8 = 63 + min j 8 := h; omega) ?start ?dst ?step ?last
                case dst =>
                  intro i o hi ho
                  match i, hi, ho with
                  | 0, _, ho => cases ho; rfl
                  | 1, _, ho => cases ho; rfl
                  | 2, _, ho => cases ho; rfl
                  | 3, _, ho => cases ho; rfl
                  | 4, _, ho => cases ho; rfl
                  | 5, _, ho => cases ho; rfl
                  | 6, _, ho => cases ho; rfl
                  | 7, _, ho => cases ho; rfl
                  | 8, _, ho => cases ho; rfl
                  | n + 9, hi, _ => exact absurd hi (by omega)
                case step =>
                  intro f a' W i o hib ho hfi hpre hT hrest
                  match i, hib, ho with
                  | 0, _, ho =>
                    cases ho
                    have q11 : a'.tmps.getD 11 undef = .pointer (some ⟨Z, 0, none⟩) := (hrest 11 (by intro i hi; show 63 + min i 8 ≠ _; omega))
                    have e11 := rg_ev q11
                    exact rg_same2 (.pointer (some ⟨Z, 2, none⟩)) (by unfold Oper.wp execOp; go_simp; all_goals ((try simp only [e11]); (try go_simp); (try rw [if_pos (by omega)]); (try rw [if_neg (by omega)]); first | done | rfl | exact ⟨rfl, rfl⟩ | trivial)) rfl (hT)
                  | 1, _, ho =>
                    cases ho
                    have f63 := (hpre { on := 0, ground := .data } (by simp) rfl).1
                    have q63 : a'.tmps.getD 63 undef = .pointer (some ⟨Z, 2, none⟩) := (hpre { on := 0, ground := .data } (by simp) rfl).2
                    have ce := HCE.out W hT
                    obtain ⟨c1, c2⟩ := ce
                    have e63 := rg_ev q63
                    exact rg_same2 (.func (.func f3) #[] cap) (by unfold Oper.wp execOp; go_simp; all_goals ((try simp only [e63]); (try go_simp); (try rw [if_pos (by omega)]); (try rw [if_neg (by omega)]); first | done | rfl | exact ⟨rfl, rfl⟩ | trivial)) rfl (hT)
                  | 2, _, ho =>
                    cases ho
                    have q0 : a'.tmps.getD 0 undef = .pointer (some ⟨R, 0, none⟩) := (hrest 0 (by intro i hi; show 63 + min i 8 ≠ _; omega))
                    have e0 := rg_ev q0
                    exact rg_same2 (.pointer (some ⟨R, 0, none⟩)) (by unfold Oper.wp execOp; go_simp; all_goals ((try simp only [e0]); (try go_simp); (try rw [if_pos (by omega)]); (try rw [if_neg (by omega)]); first | done | rfl | exact ⟨rfl, rfl⟩ | trivial)) rfl (hT)
                  | 3, _, ho =>
                    cases ho
                    have f65 := (hpre { on := 2, ground := .data } (by simp) rfl).1
                    have q65 : a'.tmps.getD 65 undef = .pointer (some ⟨R, 0, none⟩) := (hpre { on := 2, ground := .data } (by simp) rfl).2
                    have e65 := rg_ev q65
                    exact rg_same2 (.pointer (some ⟨R, 0, none⟩)) (by unfold Oper.wp execOp; go_simp; all_goals ((try simp only [e65]); (try go_simp); (try rw [if_pos (by omega)]); (try rw [if_neg (by omega)]); first | done | rfl | exact ⟨rfl, rfl⟩ | trivial)) rfl (hT)
                  | 4, _, ho =>
                    cases ho
                    have f66 := (hpre { on := 3, ground := .data } (by simp) rfl).1
                    have q66 : a'.tmps.getD 66 undef = .pointer (some ⟨R, 0, none⟩) := (hpre { on := 3, ground := .data } (by simp) rfl).2
                    have e66 := rg_ev q66
                    exact rg_same2 (.pointer (some ⟨R, 0, none⟩)) (by unfold Oper.wp execOp; go_simp; all_goals ((try simp only [e66]); (try go_simp); (try rw [if_pos (by omega)]); (try rw [if_neg (by omega)]); first | done | rfl | exact ⟨rfl, rfl⟩ | trivial)) rfl (hT)
                  | 5, _, ho =>
                    cases ho
                    have q9 : a'.tmps.getD 9 undef = .slice (some ⟨G, 1, none⟩) np np := (hrest 9 (by intro i hi; show 63 + min i 8 ≠ _; omega))
                    have e9 := rg_ev q9
                    exact rg_same2 (.slice (some ⟨G, 1, none⟩) np np) (by unfold Oper.wp execOp; go_simp; all_goals ((try simp only [e9]); (try go_simp); (try rw [if_pos (by omega)]); (try rw [if_neg (by omega)]); first | done | rfl | exact ⟨rfl, rfl⟩ | trivial)) rfl (hT)
                  | 6, _, ho =>
                    cases ho
                    have q10 : a'.tmps.getD 10 undef = .int .i64 (j : Int) := (hrest 10 (by intro i hi; show 63 + min i 8 ≠ _; omega))
                    have e10 := rg_ev q10
                    exact rg_same2 (.int .i64 (j : Int)) (by unfold Oper.wp execOp; go_simp; all_goals ((try simp only [e10]); (try go_simp); (try rw [if_pos (by omega)]); (try rw [if_neg (by omega)]); first | done | rfl | exact ⟨rfl, rfl⟩ | trivial)) rfl (hT)
                  | 7, _, ho =>
                    cases ho
                    have f68 := (hpre { on := 5, ground := .data } (by simp) rfl).1
                    have q68 : a'.tmps.getD 68 undef = .slice (some ⟨G, 1, none⟩) np np := (hpre { on := 5, ground := .data } (by simp) rfl).2
                    have f69 := (hpre { on := 6, ground := .data } (by simp) rfl).1
                    have q69 : a'.tmps.getD 69 undef = .int .i64 (j : Int) := (hpre { on := 6, ground := .data } (by simp) rfl).2
                    have e68 := rg_ev q68
                    have e69 := rg_ev q69
                    exact rg_same2 (.pointer (some ⟨G, 1 + j, none⟩)) (by unfold Oper.wp execOp; go_simp; all_goals ((try simp only [e68, e69]); (try go_simp); (try rw [if_pos (by omega)]); (try rw [if_neg (by omega)]); first | done | rfl | exact ⟨rfl, rfl⟩ | trivial)) rfl (hT)
                  | 8, _, ho =>
                    cases ho
                    have f70 := (hpre { on := 7, ground := .data } (by simp) rfl).1
                    have q70 : a'.tmps.getD 70 undef = .pointer (some ⟨G, 1 + j, none⟩) := (hpre { on := 7, ground := .data } (by simp) rfl).2
                    have ce := HCE.out W hT
                    obtain ⟨c1, c2⟩ := ce
                    have e70 := rg_ev q70
                    exact rg_same2 (.string zb) (by unfold Oper.wp execOp; go_simp; all_goals ((try simp only [e70]); (try go_simp); (try rw [if_pos (by omega)]); (try rw [if_neg (by omega)]); first | done | rfl | exact ⟨rfl, rfl⟩ | trivial)) rfl (hT)
                  | n + 9, hib, _ => exact absurd hib (by omega)
                case last =>
                  intro f vs W oL ho hall hT hvs
                  have hopL : oL.op = Op.call { callee := Callee.value (.tmp 64), args := #[.tmp 67, .tmp 71], argTypes := #[125, 9] } := by cases ho; rfl
                  have hdsL : oL.dst = some 72 := by cases ho; rfl
                  clear ho hall
                  have v0 : vs 0 = .pointer (some ⟨Z, 2, none⟩) := hvs 0 (by decide)
                  have v1 : vs 1 = .func (.func f3) #[] cap := hvs 1 (by decide)
                  have v2 : vs 2 = .pointer (some ⟨R, 0, none⟩) := hvs 2 (by decide)
                  have v3 : vs 3 = .pointer (some ⟨R, 0, none⟩) := hvs 3 (by decide)
                  have v4 : vs 4 = .pointer (some ⟨R, 0, none⟩) := hvs 4 (by decide)
                  have v5 : vs 5 = .slice (some ⟨G, 1, none⟩) np np := hvs 5 (by decide)
                  have v6 : vs 6 = .int .i64 (j : Int) := hvs 6 (by decide)
                  have v7 : vs 7 = .pointer (some ⟨G, 1 + j, none⟩) := hvs 7 (by decide)
                  have v8 : vs 8 = .string zb := hvs 8 (by decide)
                  simp only [fillN, List.size_toArray, List.length_cons, List.length_nil, Nat.reduceAdd, show List.range 9 = [0, 1, 2, 3, 4, 5, 6, 7, 8] from rfl, List.foldl_cons, List.foldl_nil, show 63 + min 0 8 = 63 from rfl, show 63 + min 1 8 = 64 from rfl, show 63 + min 2 8 = 65 from rfl, show 63 + min 3 8 = 66 from rfl, show 63 + min 4 8 = 67 from rfl, show 63 + min 5 8 = 68 from rfl, show 63 + min 6 8 = 69 from rfl, show 63 + min 7 8 = 70 from rfl, show 63 + min 8 8 = 71 from rfl, v0, v1, v2, v3, v4, v5, v6, v7, v8]
                  clear v0 v1 v2 v3 v4 v5 v6 v7 v8 hvs
                  obtain ⟨heg, hcall⟩ := KR.out W hT
                  unfold EntersF at heg
                  have HC := Lib.hid hcall
                  have HTT := Lib.hid (show Below W10.heap.size W10 W from hT)
                  clear hcall hT
                  unfold Oper.wp execOp
                  simp only [hopL]
                  go_simp
                  refine HC.out.mono ?_
                  intro e w' h
                  unfold ReadOut at h
                  cases hr : Sc.read1 pc zb.data.toList y with
                  | none =>
                    rw [hr] at h
                    obtain ⟨rfl, hb⟩ := h
                    refine ⟨rfl, ?_⟩
                    rw [show o = none by rw [HPA2.out, HDR.out, hr]; rfl]
                    exact ⟨rfl, HB10.out.trans ((HTT.out.trans (hb.mono HTT.out.size)).mono (Nat.le_of_lt (Array.getElem?_eq_some_iff.1 HR10.out).1))⟩
                  | some y2 =>
                    rw [hr] at h
                    obtain ⟨rfl, w1, v, hb1, hw', hv⟩ := h
                    have hb2 := HTT.out.trans (hb1.mono HTT.out.size)
                    have hR1 := (hb2.block _ (Array.getElem?_eq_some_iff.1 HR10.out).1).trans HR10.out
                    obtain ⟨u2, s1, s2, s2n, s3, s4⟩ := st_read HIP.out HFY.out hr hR1 (HU10.out.below hb2) HNU.out ⟨_, _, _, rfl⟩ hv
                    have HS2N := Lib.hid s2n
                    rw [← hw'] at s1 s2
                    have HRD2 := Lib.hid (show Sc.reads ps ws Sc.St.zero = Sc.reads (ps.drop (j + 1)) (ws.drop (j + 1)) y2 by rw [HDR.out, hr]; rfl)
                    have HS1 := Lib.hid s1
                    have HS2 := Lib.hid s2
                    have HS3 := Lib.hid (s3.trans HKY.out)
                    have HS4 := Lib.hid s4
                    have HK11 := Lib.hid (show KeepM R W9 w' by rw [hw']; exact (HK10.out.trans (KeepM.of_below (M := R) hb2)).trans (KeepM.setCell _ _ _ _))
                    have h11 := HBX.out _ hb2 (offP pc) v
                    rw [← hw'] at h11
                    have HB11 := Lib.hid h11
                    clear h11 hr hb1 hw' hv hb2 hR1 s1 s2 s2n s3 s4 hopL hdsL
                    go_wp2_with fail
                    go_roundw
                    case rel => exact ⟨j + 1, y2, u2, hlt2, by go_num, HRD2.out, HS1.out, HS2.out, HS2N.out, HS3.out, HS4.out, HK11.out, HB11.out⟩
                    case measure => simp [intOf]; omega
                case start => exact Below.drew (Below.refl _ _)
              · have hjn : j = np := by omega
                have ho : o = some (k, y) := by
                  have h := HRD.out
                  rw [hjn, List.drop_of_length_le (by rw [HNP.out]; exact Nat.le_refl _), List.drop_of_length_le (by rw [HWSL.out]; exact Nat.le_refl _)] at h
                  rw [HPA2.out, h]
                  rfl
                have HO := Lib.hid ho
                clear ho hjn
                go_wp2_with fail
                go_ret
                rw [HO.out]
                exact ⟨rfl, HBB.out, HKY.out, HFY.out, _, _, HRY.out, HUY.out, HNU.out, ⟨_, _, _, rfl⟩⟩
          · have q1 : (((nw : Nat) : Int) == (np : Int)) = false := by
              rw [beq_eq_false_iff_ne]
              omega
            have HO := Lib.hid (show o = none by
              rw [HPA2.out, reads_len ps ws _ (by rw [HNP.out, HWSL.out]; omega)]; rfl)
            clear hlen
            go_wp2_with fail
            refine (sc_must_no 390 W9).mono ?_
            rintro e w' ⟨rfl, hw⟩
            subst w'
            exact ⟨rfl, by rw [HO.out]; exact ⟨rfl, HB9.out⟩⟩
      · have hq0 : (nb.toList == wb.toList) = false := by rw [ByteArray.toList_eq, ByteArray.toList_eq, HNB.out, HW0.out]; simpa using hne
        have hq : (nb.toList != wb.toList) = true := by simp [bne, hq0]
        have HNE := Lib.hid hne
        have HRW := Lib.hid (show (match wr.heap[r]? with | some (.mapIter _ _ seen _) => (leftOf (shEs 0 T vs).toArray seen).size | _ => 0) = (leftOf (shEs 0 T vs).toArray seen).size by rw [HR0.out])
        clear hne
        go_upto_region 5 with (fail)
        rw [HH.out, HW7.out]
        go_quiet (fail)
        go_wp2_with fail
        go_roundw
        case rel => exact ⟨seen.push i, T.length, Nat.le_refl _, fun j hj hjl => HSI.out j hj hjl HNE.out, HR7.out, HK7.out.trans (KeepM.of_below ⟨rfl, rfl, rfl, Nat.le_refl _, fun _ _ => rfl⟩), HB7.out.trans ⟨rfl, rfl, rfl, Nat.le_refl _, fun _ _ => rfl⟩⟩
        case measure =>
          rw [HRW.out, show (W7.drewN nq).heap[r]? = _ from HR7.out]
          exact HLT.out
end Go.Proofs.YtbaakfcbakpmpaaGreatDoor

/- script: Parse. No conditions but those that each law states. -/
namespace Go.Proofs.YtbaakfcbakpmpaaGreatDoor
set_option linter.unusedVariables false
set_option linter.unusedSimpArgs false
open Go.RowKit Go.Shelf
set_option maxHeartbeats 8000000
set_option maxRecDepth 100000
/-- a step's cells, stored -/
def stS (w : World) (R : Nat) (x : Sc.St) (u : Value) : World := (((((w.setCell ⟨R, 0, none⟩ (.int .i64 x.kind)).setCell ⟨R, 1, none⟩ (.int .u64 (x.conn : Int))).setCell ⟨R, 2, none⟩ (.int .i64 x.topic)).setCell ⟨R, 3, none⟩ (.int .u64 (x.n : Int))).setCell ⟨R, 4, none⟩ (.int .u64 (x.draw : Int))).setCell ⟨R, 5, none⟩ u
theorem stS_heap {w : World} {R : Nat} {y : Sc.St} {v : Value} (h : w.heap[R]? = some (stObj y v)) (x : Sc.St) (u : Value) : (stS w R x u).heap[R]? = some (stObj x u) := by
  unfold stS
  unfold stObj at h ⊢
  have h1 := heap_setCell_same w R 0 _ _ (.int .i64 x.kind) h
  have h2 := heap_setCell_same _ R 1 _ _ (.int .u64 (x.conn : Int)) h1
  have h3 := heap_setCell_same _ R 2 _ _ (.int .i64 x.topic) h2
  have h4 := heap_setCell_same _ R 3 _ _ (.int .u64 (x.n : Int)) h3
  have h5 := heap_setCell_same _ R 4 _ _ (.int .u64 (x.draw : Int)) h4
  have h6 := heap_setCell_same _ R 5 _ _ u h5
  rw [h6]
  simp
theorem stS_other {w : World} {R b : Nat} (x : Sc.St) (u : Value) (h : b ≠ R) : (stS w R x u).heap[b]? = w.heap[b]? := by
  unfold stS
  rw [Below.heap_setCell _ _ _ _ (by show b ≠ R; exact h), Below.heap_setCell _ _ _ _ (by show b ≠ R; exact h), Below.heap_setCell _ _ _ _ (by show b ≠ R; exact h), Below.heap_setCell _ _ _ _ (by show b ≠ R; exact h), Below.heap_setCell _ _ _ _ (by show b ≠ R; exact h), Below.heap_setCell _ _ _ _ (by show b ≠ R; exact h)]
theorem stS_below {B : Nat} {w0 w : World} {R : Nat} (x : Sc.St) (u : Value) (h : Below B w0 w) (hB : B ≤ R) : Below B w0 (stS w R x u) :=
  (((((h.setCell (p := ⟨R, 0, none⟩) hB _).setCell (p := ⟨R, 1, none⟩) hB _).setCell (p := ⟨R, 2, none⟩) hB _).setCell (p := ⟨R, 3, none⟩) hB _).setCell (p := ⟨R, 4, none⟩) hB _).setCell (p := ⟨R, 5, none⟩) hB _
theorem stS_keep (w : World) (R : Nat) (x : Sc.St) (u : Value) : KeepM R w (stS w R x u) := ⟨by unfold stS; simp, fun k _ hn => stS_other x u hn⟩
/-- bytes in another block stand -/
theorem brow_other {w w' : World} {R : Nat} {v : Value} {l : List UInt8} {y : Sc.St} {u : Value} (h : BRow w v l) (hR : w.heap[R]? = some (stObj y u)) (hu : isSl u) (k : KeepM R w w') : BRow w' v l := by
  obtain ⟨ao, cap, rfl, hc, h⟩ := h
  refine ⟨ao, cap, rfl, hc, ?_⟩
  rcases h with h | ⟨g, o, rfl, h⟩
  · exact .inl h
  · refine .inr ⟨g, o, rfl, fun j hj => ?_⟩
    have hc := h j hj
    have hne : g ≠ R := by
      intro e
      subst e
      unfold stObj at hR
      simp only [World.cell?, hR] at hc
      obtain ⟨p, n, c, rfl⟩ := hu
      obtain ⟨m, hm⟩ : ∃ m, o + j = m := ⟨_, rfl⟩
      rw [hm] at hc
      match m, hc with
      | 0, hc => simp [by8] at hc
      | 1, hc => simp [by8] at hc
      | 2, hc => simp [by8] at hc
      | 3, hc => simp [by8] at hc
      | 4, hc => simp [by8] at hc
      | 5, hc => simp [by8] at hc
      | m + 6, hc => simp at hc
    rw [← hc]
    simp only [World.cell?, k.2 g (lt_of_cell hc) hne]
/-- bytes stand when a cell of a block of one cell, no byte, is stored -/
theorem brow_cell {w : World} {K i : Nat} {v x y : Value} {t : TypeId} {l : List UInt8} (h : BRow w v l) (hK : w.heap[K]? = some (.cells #[x] t (0, 0))) (hx : ∀ k n, x = .int k n → k ≠ .u8) : BRow (w.setCell ⟨K, i, none⟩ y) v l := by
  obtain ⟨ao, cap, rfl, hc, h⟩ := h
  refine ⟨ao, cap, rfl, hc, ?_⟩
  rcases h with h | ⟨g, o, rfl, h⟩
  · exact .inl h
  · refine .inr ⟨g, o, rfl, fun j hj => ?_⟩
    have hc := h j hj
    have hne : g ≠ K := by
      intro e
      subst e
      simp only [World.cell?, hK] at hc
      obtain ⟨m, hm⟩ : ∃ m, o + j = m := ⟨_, rfl⟩
      rw [hm] at hc
      match m, hc with
      | 0, hc =>
        simp at hc
        exact hx _ _ hc rfl
      | m + 1, hc => simp at hc
    exact (World.cell?_of_block (a := ⟨g, o + j, none⟩) (Below.heap_setCell _ _ _ _ hne)).trans hc
theorem sc_clearP (R : Nat) (y : Sc.St) (v : Value) (w : World) (hc : w.heap[R]? = some (stObj y v)) :
    Calls Tryz.prog 46 #[.pointer (some ⟨R, 0, none⟩)] w fun e w' => e = .returned (.tuple #[]) ∧ w' = stS w R Sc.St.zero (.slice none 0 0) := by
  obtain ⟨c0, c1, c2, c3, c4, c5, fr⟩ := SR.of hc
  have f0 := fr 0
  have f1 := fr 1
  have f2 := fr 2
  have f3 := fr 3
  have f4 := fr 4
  have f5 := fr 5
  unfold stS Sc.St.zero
  clear hc fr
  go_enter Tryz.func46, Tryz.ntmps46
  go_wp2_with fail
  simp [bodyPost, results, Tryz.results46, go_sem]
/-- the step that Parse tells -/
def stp (o : Option (Int × Sc.St)) : Sc.St := match o with
  | some (k, y) => { y with kind := k }
  | none => Sc.St.zero
def erS (o : Option (Int × Sc.St)) : Int := if o.isSome then 0 else 390
theorem sc_Parse (s : ByteArray) (w : World) (hs : s.size ≤ 50000) (ht : Tabs w) (hm : ML w) :
    Calls Tryz.prog 17 #[.string s] w fun e w' => ∃ u, e = .returned (.tuple #[stVal (stp (Sc.parse Sc.stepT s.data.toList)) u, .int .i64 (erS (Sc.parse Sc.stepT s.data.toList))]) ∧ BRow w' u (stp (Sc.parse Sc.stepT s.data.toList)).bytes ∧ NewV w.heap.size u ∧ (stp (Sc.parse Sc.stepT s.data.toList)).fine ∧ Below w.heap.size w w' := by
  have hmf : ∀ (fn : Fn) (first cap : Array Value) (w : World), (Instr.makeFunc fn first cap).run Tryz.prog w = .ok (.func fn first cap) w := fun _ _ _ _ => rfl
  obtain ⟨S, hS⟩ : ∃ z, w.heap.size = z := ⟨_, rfl⟩
  obtain ⟨W3, hW3⟩ : ∃ z, ((w.alloc (stObj Sc.St.zero (.slice none 0 0))).alloc (.cells #[.int .i64 0] 31)).alloc (rdObj Sc.St.zero (.slice none 0 0) (.slice none 0 0)) = z := ⟨_, rfl⟩
  have hb3 : Below w.heap.size w W3 := by rw [← hW3]; exact (((Below.refl _ _).alloc (Nat.le_refl _) _).alloc (by simp) _).alloc (by simp; omega) _
  have hz3 : W3.heap.size = S + 3 := by rw [← hW3, ← hS]; simp
  have hS3 : W3.heap[S]? = some (stObj Sc.St.zero (.slice none 0 0)) := by
    rw [← hW3, Below.heap_alloc _ _ _ (by simp; omega), Below.heap_alloc _ _ _ (by simp; omega), ← hS]
    exact World.alloc_heap_new _ _
  have hE3 : W3.heap[S + 1]? = some (.cells #[.int .i64 0] 31 (0, 0)) := by
    rw [← hW3, Below.heap_alloc _ _ _ (by simp; omega), ← hS]
    have := World.alloc_heap_new (w.alloc (stObj Sc.St.zero (.slice none 0 0))) (.cells #[.int .i64 0] 31)
    simpa using this
  have hR3 : W3.heap[S + 1 + 1]? = some (rdObj Sc.St.zero (.slice none 0 0) (.slice none 0 0)) := by
    rw [← hW3, ← hS]
    have := World.alloc_heap_new ((w.alloc (stObj Sc.St.zero (.slice none 0 0))).alloc (.cells #[.int .i64 0] 31)) (rdObj Sc.St.zero (.slice none 0 0) (.slice none 0 0))
    simpa using this
  have HB3 := Lib.hid hb3
  have HZ3 := Lib.hid hz3
  have HS3 := Lib.hid hS3
  have HE3 := Lib.hid hE3
  have HR3 := Lib.hid hR3
  have HW3 := Lib.hid hW3
  have HSS := Lib.hid hS
  have HT := Lib.hid ht
  have HM := Lib.hid hm
  have KS := Lib.hid sc_steps
  obtain ⟨o, ho⟩ : ∃ z, Sc.parse Sc.stepT s.data.toList = z := ⟨_, rfl⟩
  rw [ho]
  have HO := Lib.hid ho
  clear hS hW3 hb3 hz3 hS3 hE3 hR3 ht hm ho
  unfold stObj rdObj Sc.St.zero at HW3
  go_enter_defers Tryz.func17, Tryz.ntmps17
  go_wp2_with fail
  rw [HSS.out]
  rw [show ((w.alloc (.cells #[.int .i64 0, .int .u64 0, .int .i64 0, .int .u64 0, .int .u64 0, .slice none 0 0] 26)).alloc (.cells #[.int .i64 0] 31)).alloc (.cells #[.int .i64 0, .int .u64 0, .int .i64 0, .int .u64 0, .int .u64 0, .slice none 0 0, .slice none 0 0] 96) = W3 from HW3.out]
  refine (KS.out W3).mono ?_
  rintro e w4 ⟨b, rfl, hsh, hb4⟩
  have hS4 := (hb4.block _ (Array.getElem?_eq_some_iff.1 HS3.out).1).trans HS3.out
  have hE4 := (hb4.block _ (Array.getElem?_eq_some_iff.1 HE3.out).1).trans HE3.out
  have hR4 := (hb4.block _ (Array.getElem?_eq_some_iff.1 HR3.out).1).trans HR3.out
  have hbw4 := HB3.out.trans (hb4.mono HB3.out.size)
  have KR := sc_read (.inl rfl) (S + 1 + 1) b s w w4 hbw4 (by rw [HSS.out]; omega) hR4 hsh hs HT.out HM.out
  rw [HO.out] at KR
  have KR := Lib.hid KR
  have HS4 := Lib.hid hS4
  have HE4 := Lib.hid hE4
  have HR4 := Lib.hid hR4
  have HB4 := Lib.hid hbw4
  clear hS4 hE4 hR4 hbw4 hb4 hsh
  go_wp2_with fail
  refine KR.out.mono ?_
  intro e w5 h
  cases o with
  | none =>
    obtain ⟨rfl, hb5⟩ := h
    have hS5 := (hb5.block S (by omega)).trans HS4.out
    have hE5 := (hb5.block (S + 1) (by omega)).trans HE4.out
    have HBB := Lib.hid (show Below w.heap.size w w5 from HB4.out.trans (hb5.mono (by rw [HSS.out]; omega)))
    refine leaves_cons (f := 37) (args := #[.pointer (some ⟨S + 1, 0, none⟩), .func (.func 46) #[] #[.pointer (some ⟨S, 0, none⟩)]]) (by simp) (by simp [go_sem]) ?_
    have hS6 := stS_heap hS5 Sc.St.zero (.slice none 0 0)
    have hE6 : (stS w5 S Sc.St.zero (.slice none 0 0)).heap[S + 1]? = some (.cells #[.int .i64 0] 31 (0, 0)) := (stS_other _ _ (by omega)).trans hE5
    have c2 : (stS w5 S Sc.St.zero (.slice none 0 0)).cell? ⟨S + 1, 0, none⟩ = some (.int .i64 0) := by simp [World.cell?, hE6]
    have z2 : (stS w5 S Sc.St.zero (.slice none 0 0)).frozen? ⟨S + 1, 0, none⟩ = false := frozen_of_row _ _ _ _ _ hE6
    refine (sc_caught ⟨S + 1, 0, none⟩ 46 #[.pointer (some ⟨S, 0, none⟩)] 390 [] w5 (stS w5 S Sc.St.zero (.slice none 0 0)) (fun W => enters_of Tryz.func46 (by kernel_rfl) rfl _ W) (sc_clearP S _ _ w5 hS5) (.int .i64 0) c2 z2).mono ?_
    rintro e u' w'' ⟨rfl, rfl, rfl⟩
    have hS7 : ((stS w5 S Sc.St.zero (.slice none 0 0)).setCell ⟨S + 1, 0, none⟩ (.int .i64 390)).heap[S]? = some (stObj Sc.St.zero (.slice none 0 0)) := (Below.heap_setCell _ _ _ _ (by show S ≠ S + 1; omega)).trans hS6
    have hE7 : ((stS w5 S Sc.St.zero (.slice none 0 0)).setCell ⟨S + 1, 0, none⟩ (.int .i64 390)).heap[S + 1]? = some (.cells #[.int .i64 390] 31 (0, 0)) := heap_setCell_same _ _ 0 _ _ _ hE6
    have HB7 := Lib.hid (show Below w.heap.size w ((stS w5 S Sc.St.zero (.slice none 0 0)).setCell ⟨S + 1, 0, none⟩ (.int .i64 390)) from (stS_below _ _ HBB.out (Nat.le_of_eq HSS.out)).setCell (p := ⟨S + 1, 0, none⟩) (by rw [HSS.out]; show S ≤ S + 1; omega) _)
    obtain ⟨X, hX⟩ : ∃ X, (stS w5 S Sc.St.zero (.slice none 0 0)).setCell ⟨S + 1, 0, none⟩ (.int .i64 390) = X := ⟨_, rfl⟩
    rw [hX] at hS7 hE7 HB7 ⊢
    obtain ⟨x0, x1, x2, x3, x4, x5, _⟩ := SR.of hS7
    have xe : X.cell? ⟨S + 1, 0, none⟩ = some (.int .i64 390) := by simp [World.cell?, hE7]
    unfold Sc.St.zero at x0 x1 x2 x3 x4
    clear hX hS7 hE7 hS6 hE6 c2 z2 hS5 hE5 hb5
    simp [Leaves, settle, results, Tryz.results17, go_sem, x0, x1, x2, x3, x4, x5, xe]
    exact ⟨_, ⟨rfl, rfl⟩, BRow.nil _, (fun g hg => by simp [Value.ownBlock] at hg), ⟨⟨by decide, by decide, by decide⟩, by decide⟩, HB7.out⟩
  | some r =>
    obtain ⟨k, y⟩ := r
    obtain ⟨rfl, hb5, hky, hfy, u, wv, hR5, hu5, hn5, hwv⟩ := h
    have hS5 := (hb5.block S (by omega)).trans HS4.out
    have hE5 := (hb5.block (S + 1) (by omega)).trans HE4.out
    obtain ⟨up, un, uc, rfl⟩ := hu5.sl
    obtain ⟨w6, hw6⟩ : ∃ z, w5.setCell ⟨S + 1 + 1, 0, none⟩ (.int .i64 k) = z := ⟨_, rfl⟩
    have hR6 : w6.heap[S + 1 + 1]? = some (rdObj { y with kind := k } (.slice up un uc) wv) := by
      rw [← hw6, heap_setCell_same w5 (S + 1 + 1) 0 _ _ _ (show w5.heap[S + 1 + 1]? = some (.cells _ _ (0, 0)) from hR5)]
      rfl
    have hS6 : w6.heap[S]? = some (stObj Sc.St.zero (.slice none 0 0)) := by rw [← hw6]; exact (Below.heap_setCell _ _ _ _ (by show S ≠ S + 1 + 1; omega)).trans hS5
    have hE6 : w6.heap[S + 1]? = some (.cells #[.int .i64 0] 31 (0, 0)) := by rw [← hw6]; exact (Below.heap_setCell _ _ _ _ (by show S + 1 ≠ S + 1 + 1; omega)).trans hE5
    have hu6 : BRow w6 (.slice up un uc) y.bytes := by rw [← hw6]; exact brow_rd hu5 hR5 ⟨_, _, _, rfl⟩ hwv
    have HB6 := Lib.hid (show Below w.heap.size w w6 by rw [← hw6]; exact (HB4.out.trans (hb5.mono (by rw [HSS.out]; omega))).setCell (p := ⟨S + 1 + 1, 0, none⟩) (by rw [HSS.out]; show S ≤ S + 1 + 1; omega) _)
    have HN5 := Lib.hid (show NewV w.heap.size (.slice up un uc) from fun g hg => by have := hn5 g hg; rw [HSS.out]; omega)
    clear hn5
    have q0 := (SR.ofR hR5).c0
    have qz := (SR.ofR hR5).fr 0
    obtain ⟨y', hy'⟩ : ∃ z, ({ y with kind := k } : Sc.St) = z := ⟨_, rfl⟩
    have HYB := Lib.hid (show y'.bytes = y.bytes by rw [← hy'])
    have HYF := Lib.hid (show y'.fine by rw [← hy']; exact hfy)
    have HSTP := Lib.hid (show stp (some (k, y)) = y' from hy')
    rw [hy'] at hR6
    have HS6 := Lib.hid hS6
    have HE6 := Lib.hid hE6
    have HU6 := Lib.hid hu6
    have HR6 := Lib.hid hR6
    have HW6 := Lib.hid hw6
    clear hb5 hfy hR5 hu5 hwv hS5 hE5 hw6 hR6 hS6 hE6 hu6 hy'
    go_upto_region 4 with (fail)
    rw [HW6.out]
    clear q0 qz
    obtain ⟨r0, r1, r2, r3, r4, r5, _⟩ := SR.ofR HR6.out
    obtain ⟨s0, s1, s2, s3, s4, s5, sf⟩ := SR.of HS6.out
    have f0 := sf 0
    have f1 := sf 1
    have f2 := sf 2
    have f3 := sf 3
    have f4 := sf 4
    have f5 := sf 5
    have e0 : w6.cell? ⟨S + 1, 0, none⟩ = some (.int .i64 0) := by simp [World.cell?, HE6.out]
    have ez : w6.frozen? ⟨S + 1, 0, none⟩ = false := frozen_of_row _ _ _ _ _ HE6.out
    have hS7 := stS_heap HS6.out y' (.slice up un uc)
    have hE7 : (stS w6 S y' (.slice up un uc)).heap[S + 1]? = some (.cells #[.int .i64 0] 31 (0, 0)) := (stS_other _ _ (by omega)).trans HE6.out
    have hS8 : ((stS w6 S y' (.slice up un uc)).setCell ⟨S + 1, 0, none⟩ (.int .i64 0)).heap[S]? = some (stObj y' (.slice up un uc)) := (Below.heap_setCell _ _ _ _ (by show S ≠ S + 1; omega)).trans hS7
    have hE8 : ((stS w6 S y' (.slice up un uc)).setCell ⟨S + 1, 0, none⟩ (.int .i64 0)).heap[S + 1]? = some (.cells #[.int .i64 0] 31 (0, 0)) := heap_setCell_same _ _ 0 _ _ _ hE7
    have HS8 := Lib.hid hS8
    have HE8 := Lib.hid hE8
    have HB8 := Lib.hid (show Below w.heap.size w ((stS w6 S y' (.slice up un uc)).setCell ⟨S + 1, 0, none⟩ (.int .i64 0)) from (stS_below _ _ HB6.out (Nat.le_of_eq HSS.out)).setCell (p := ⟨S + 1, 0, none⟩) (by rw [HSS.out]; show S ≤ S + 1; omega) _)
    have HU8 := Lib.hid (show BRow ((stS w6 S y' (.slice up un uc)).setCell ⟨S + 1, 0, none⟩ (.int .i64 0)) (.slice up un uc) y.bytes from
      brow_cell (brow_other HU6.out HS6.out ⟨_, _, _, rfl⟩ (stS_keep _ _ _ _)) hE7 (by intro k n h; cases h; decide))
    clear sf hS7 hE7 hS8 hE8
    go_wp2_with fail
    obtain ⟨X, hX⟩ : ∃ X, (stS w6 S y' (.slice up un uc)).setCell ⟨S + 1, 0, none⟩ (.int .i64 0) = X := ⟨_, rfl⟩
    rw [hX] at HS8 HE8 HB8 HU8
    unfold stS at hX
    rw [hX]
    obtain ⟨x0, x1, x2, x3, x4, x5, _⟩ := SR.of HS8.out
    have xe : X.cell? ⟨S + 1, 0, none⟩ = some (.int .i64 0) := by simp [World.cell?, HE8.out]
    clear hX s0 s1 s2 s3 s4 s5 f0 f1 f2 f3 f4 f5 e0 ez r0 r1 r2 r3 r4 r5
    refine leaves_cons (f := 37) (args := #[.pointer (some ⟨S + 1, 0, none⟩), .func (.func 46) #[] #[.pointer (some ⟨S, 0, none⟩)]]) (by simp) (by simp [go_sem]) ?_
    refine (sc_caught_idle _ _ _).mono ?_
    rintro e u' w'' ⟨rfl, rfl, rfl⟩
    rw [HSTP.out]
    simp [Leaves, settle, results, Tryz.results17, go_sem, x0, x1, x2, x3, x4, x5, xe]
    exact ⟨_, ⟨rfl, rfl⟩, by rw [HYB.out]; exact HU8.out, HN5.out, HYF.out, HB8.out⟩
end Go.Proofs.YtbaakfcbakpmpaaGreatDoor

/- A drawn region by what its slots hold (which may hang on what is done), where some operations fill no slot: such a one names a slot of none of the others. -/
namespace Go.Proofs.YtbaakfcbakpmpaaGreatDoor
set_option linter.unusedVariables false
set_option linter.unusedSimpArgs false
open Go.RowKit
section
variable {P : Program} {ops : Array Oper} {Q : Exit → Act → World → Prop}
theorem region_slots4 {id : Nat} {a0 : Act} {w0 : World} (slot : Nat → Nat) (F : (Nat → Bool) → Nat → World → Value → Prop) (T : (Nat → Bool) → World → Prop) (hm : P.follows .mixedOrders = true) (hb : backB .any ops = true)
    (hs : ∀ i, slot i < a0.tmps.size) (hinj : ∀ i j, i < ops.size → j < ops.size → slot i = slot j → i = j) (h0 : T (fun _ => false) w0.drew)
    (hdst : ∀ i o, ops[i]? = some o → o.dst = some (slot i) ∨ o.dst = none)
    (hstep : ∀ (f : Nat → Bool) (a : Act) (w : World) (i : Nat) (o : Oper), ops[i]? = some o → f i = false → (∀ e ∈ o.after, Region.binds .any e = true → f e.on = true ∧ F f e.on w (a.tmps.getD (slot e.on) undef)) → T f w →
      (∀ j, (∀ i, i < ops.size → slot i ≠ j) → a.tmps.getD j undef = a0.tmps.getD j undef) →
      o.wp P a w (fun a' w' => ∃ v, a' = a.put o.dst v ∧ (o.dst = none → v = a0.tmps.getD (slot i) undef) ∧ F (fun j => if j = i then true else f j) i w' v ∧ T (fun j => if j = i then true else f j) w' ∧ ∀ j, f j = true → F f j w (a.tmps.getD (slot j) undef) → F (fun j => if j = i then true else f j) j w' (a.tmps.getD (slot j) undef)) Q)
    (hdone : ∀ (f : Nat → Bool) (vs : Nat → Value) (w : World), (∀ i, i < ops.size → f i = true) → T f w → (∀ i, i < ops.size → F f i w (vs i)) → Q .normal { a0 with tmps := fillN slot vs ops.size a0.tmps } w) : (Code.region id ops true).wp P Q a0 w0 := by
  refine region_inv hm hb (Stand3 a0 ops.size slot F T) ⟨rfl, rfl, fun _ _ => rfl, fun _ _ _ => rfl, h0, fun _ _ h => by cases h⟩ ?_ ?_
  · intro f a w i o ho hf hpre hI
    have hi := (Array.getElem?_eq_some_iff.1 ho).1
    refine Oper.wp_mono ?_ (hstep f a w i o ho hf (fun e he hbd => ⟨hpre e he hbd, hI.have_ e.on (by have := (back_of hb ho).2 e he hbd; omega) (hpre e he hbd)⟩) hI.told hI.rest)
    rintro a' w' ⟨v, rfl, hno, hv, ht, hst⟩
    rcases hdst i o ho with hd | hd
    · rw [hd]
      have hsl : slot i < a.tmps.size := by rw [hI.size]; exact hs i
      refine ⟨hI.defers, by rw [← hI.size]; exact Array.size_setIfInBounds .., fun j hj => ?_, fun j hj hfj => ?_, ht, fun j hj hfj => ?_⟩
      · show (a.tmps.setIfInBounds (slot i) v).getD j undef = _
        rw [getD_set _ _ _ _ hsl, if_neg (Ne.symm (hj i hi))]
        exact hI.rest j hj
      · show (a.tmps.setIfInBounds (slot i) v).getD (slot j) undef = _
        have hji : j ≠ i := fun e => by simp [e] at hfj
        rw [getD_set _ _ _ _ hsl, if_neg (fun e => hji (hinj j i hj hi e))]
        exact hI.yet j hj (by simpa [hji] using hfj)
      · show F (fun j => if j = i then true else f j) j w' ((a.tmps.setIfInBounds (slot i) v).getD (slot j) undef)
        rw [getD_set _ _ _ _ hsl]
        by_cases hji : j = i
        · subst hji; rw [if_pos rfl]; exact hv
        · rw [if_neg (fun e => hji (hinj j i hj hi e))]
          have h2 : f j = true := by simpa [hji] using hfj
          exact hst j h2 (hI.have_ j hj h2)
    · rw [hd]
      refine ⟨hI.defers, hI.size, hI.rest, fun j hj hfj => ?_, ht, fun j hj hfj => ?_⟩
      · have hji : j ≠ i := fun e => by simp [e] at hfj
        exact hI.yet j hj (by simpa [hji] using hfj)
      · show F (fun j => if j = i then true else f j) j w' (a.tmps.getD (slot j) undef)
        by_cases hji : j = i
        · subst hji
          rw [hI.yet j hj hf, ← hno hd]
          exact hv
        · have h2 : f j = true := by simpa [hji] using hfj
          exact hst j h2 (hI.have_ j hj h2)
  · intro f a w hall hI
    have e : a = { a0 with tmps := fillN slot (fun i => a.tmps.getD (slot i) undef) ops.size a0.tmps } := by
      have h1 : a.tmps = fillN slot (fun i => a.tmps.getD (slot i) undef) ops.size a0.tmps := by
        refine ext_getD (by rw [fillN_size, hI.size]) (fun j => ?_)
        by_cases hj : ∃ i, i < ops.size ∧ slot i = j
        · obtain ⟨i, hi, rfl⟩ := hj
          rw [fillN_at slot _ _ hs _ hinj i hi]
        · rw [fillN_get slot _ _ hs _ j (fun i hi e => hj ⟨i, hi, e⟩), hI.rest j (fun i hi e => hj ⟨i, hi, e⟩)]
      obtain ⟨t, d⟩ := a
      have h2 := hI.defers
      simp only at h1 h2
      rw [← h1, h2]
    rw [e]
    exact hdone f _ w hall hI.told (fun i hi => hI.have_ i hi (hall i hi))
/-- the same, with a relation between two slots' values -/
theorem region_slots5 {id : Nat} {a0 : Act} {w0 : World} (slot : Nat → Nat) (F : (Nat → Bool) → Nat → World → Value → Prop) (T : (Nat → Bool) → World → Prop) (p q : Nat) (R : Value → Value → Prop) (hp : p < ops.size) (hq : q < ops.size) (hRr : ∀ v, p = q → R v v) (hdp : (∀ o, ops[p]? = some o → o.dst ≠ none) ∧ ∀ o, ops[q]? = some o → o.dst ≠ none) (hm : P.follows .mixedOrders = true) (hb : backB .any ops = true)
    (hs : ∀ i, slot i < a0.tmps.size) (hinj : ∀ i j, i < ops.size → j < ops.size → slot i = slot j → i = j) (h0 : T (fun _ => false) w0.drew)
    (hdst : ∀ i o, ops[i]? = some o → o.dst = some (slot i) ∨ o.dst = none)
    (hstep : ∀ (f : Nat → Bool) (a : Act) (w : World) (i : Nat) (o : Oper), ops[i]? = some o → f i = false → (∀ e ∈ o.after, Region.binds .any e = true → f e.on = true ∧ F f e.on w (a.tmps.getD (slot e.on) undef)) → T f w →
      (∀ j, (∀ i, i < ops.size → slot i ≠ j) → a.tmps.getD j undef = a0.tmps.getD j undef) →
      o.wp P a w (fun a' w' => ∃ v, a' = a.put o.dst v ∧ (o.dst = none → v = a0.tmps.getD (slot i) undef) ∧ F (fun j => if j = i then true else f j) i w' v ∧ T (fun j => if j = i then true else f j) w' ∧ (i = q → f p = true → R (a.tmps.getD (slot p) undef) v) ∧ (i = p → f q = true → R v (a.tmps.getD (slot q) undef)) ∧ ∀ j, f j = true → F f j w (a.tmps.getD (slot j) undef) → F (fun j => if j = i then true else f j) j w' (a.tmps.getD (slot j) undef)) Q)
    (hdone : ∀ (f : Nat → Bool) (vs : Nat → Value) (w : World), (∀ i, i < ops.size → f i = true) → T f w → (∀ i, i < ops.size → F f i w (vs i)) → R (vs p) (vs q) → Q .normal { a0 with tmps := fillN slot vs ops.size a0.tmps } w) : (Code.region id ops true).wp P Q a0 w0 := by
  refine region_inv hm hb (fun f a w => Stand3 a0 ops.size slot F T f a w ∧ (f p = true → f q = true → R (a.tmps.getD (slot p) undef) (a.tmps.getD (slot q) undef))) ⟨⟨rfl, rfl, fun _ _ => rfl, fun _ _ _ => rfl, h0, fun _ _ h => by cases h⟩, fun h => by cases h⟩ ?_ ?_
  · rintro f a w i o ho hf hpre ⟨hI, hG⟩
    have hi := (Array.getElem?_eq_some_iff.1 ho).1
    refine Oper.wp_mono ?_ (hstep f a w i o ho hf (fun e he hbd => ⟨hpre e he hbd, hI.have_ e.on (by have := (back_of hb ho).2 e he hbd; omega) (hpre e he hbd)⟩) hI.told hI.rest)
    rintro a' w' ⟨v, rfl, hno, hv, ht, hR1, hR2, hst⟩
    rcases hdst i o ho with hd | hd
    · rw [hd]
      have hsl : slot i < a.tmps.size := by rw [hI.size]; exact hs i
      refine ⟨⟨hI.defers, by rw [← hI.size]; exact Array.size_setIfInBounds .., fun j hj => ?_, fun j hj hfj => ?_, ht, fun j hj hfj => ?_⟩, fun hfp hfq => ?_⟩
      · show (a.tmps.setIfInBounds (slot i) v).getD j undef = _
        rw [getD_set _ _ _ _ hsl, if_neg (Ne.symm (hj i hi))]
        exact hI.rest j hj
      · show (a.tmps.setIfInBounds (slot i) v).getD (slot j) undef = _
        have hji : j ≠ i := fun e => by simp [e] at hfj
        rw [getD_set _ _ _ _ hsl, if_neg (fun e => hji (hinj j i hj hi e))]
        exact hI.yet j hj (by simpa [hji] using hfj)
      · show F (fun j => if j = i then true else f j) j w' ((a.tmps.setIfInBounds (slot i) v).getD (slot j) undef)
        rw [getD_set _ _ _ _ hsl]
        by_cases hji : j = i
        · subst hji; rw [if_pos rfl]; exact hv
        · rw [if_neg (fun e => hji (hinj j i hj hi e))]
          have h2 : f j = true := by simpa [hji] using hfj
          exact hst j h2 (hI.have_ j hj h2)
      · show R ((a.tmps.setIfInBounds (slot i) v).getD (slot p) undef) ((a.tmps.setIfInBounds (slot i) v).getD (slot q) undef)
        rw [getD_set _ _ _ _ hsl, getD_set _ _ _ _ hsl]
        by_cases hip : i = p
        · subst hip
          by_cases hiq : i = q
          · subst hiq
            rw [if_pos rfl]
            exact hRr v rfl
          · rw [if_pos rfl, if_neg (fun e => hiq (hinj i q hi hq e.symm))]
            exact hR2 rfl (by simpa [Ne.symm hiq] using hfq)
        · by_cases hiq : i = q
          · subst hiq
            rw [if_pos rfl, if_neg (fun e => hip (hinj i p hi hp e.symm))]
            exact hR1 rfl (by simpa [Ne.symm hip] using hfp)
          · rw [if_neg (fun e => hip (hinj i p hi hp e.symm)), if_neg (fun e => hiq (hinj i q hi hq e.symm))]
            exact hG (by simpa [Ne.symm hip] using hfp) (by simpa [Ne.symm hiq] using hfq)
    · rw [hd]
      refine ⟨⟨hI.defers, hI.size, hI.rest, fun j hj hfj => ?_, ht, fun j hj hfj => ?_⟩, fun hfp hfq => ?_⟩
      · have hji : j ≠ i := fun e => by simp [e] at hfj
        exact hI.yet j hj (by simpa [hji] using hfj)
      · show F (fun j => if j = i then true else f j) j w' (a.tmps.getD (slot j) undef)
        by_cases hji : j = i
        · subst hji
          rw [hI.yet j hj hf, ← hno hd]
          exact hv
        · have h2 : f j = true := by simpa [hji] using hfj
          exact hst j h2 (hI.have_ j hj h2)
      · show R (a.tmps.getD (slot p) undef) (a.tmps.getD (slot q) undef)
        have hip : p ≠ i := fun e => (hdp.1 o (by rw [e]; exact ho)) hd
        have hiq : q ≠ i := fun e => (hdp.2 o (by rw [e]; exact ho)) hd
        exact hG (by simpa [hip] using hfp) (by simpa [hiq] using hfq)
  · rintro f a w hall ⟨hI, hG⟩
    have e : a = { a0 with tmps := fillN slot (fun i => a.tmps.getD (slot i) undef) ops.size a0.tmps } := by
      have h1 : a.tmps = fillN slot (fun i => a.tmps.getD (slot i) undef) ops.size a0.tmps := by
        refine ext_getD (by rw [fillN_size, hI.size]) (fun j => ?_)
        by_cases hj : ∃ i, i < ops.size ∧ slot i = j
        · obtain ⟨i, hi, rfl⟩ := hj
          rw [fillN_at slot _ _ hs _ hinj i hi]
        · rw [fillN_get slot _ _ hs _ j (fun i hi e => hj ⟨i, hi, e⟩), hI.rest j (fun i hi e => hj ⟨i, hi, e⟩)]
      obtain ⟨t, d⟩ := a
      have h2 := hI.defers
      simp only at h1 h2
      rw [← h1, h2]
    rw [e]
    exact hdone f _ w hall hI.told (fun i hi => hI.have_ i hi (hall i hi)) (hG (hall p hp) (hall q hq))
theorem rg_same4 {o : Oper} {a a0 : Act} {w : World} {slot : Nat → Nat} {F : (Nat → Bool) → Nat → World → Value → Prop} {T : (Nat → Bool) → World → Prop} {f : Nat → Bool} {i : Nat} (v : Value)
    (h : o.wp P a w (fun a' w' => a' = a.put o.dst v ∧ w' = w) Q) (hd : o.dst ≠ none) (hF : F (fun j => if j = i then true else f j) i w v) (hT : T (fun j => if j = i then true else f j) w) (hM : ∀ j v', F f j w v' → F (fun j => if j = i then true else f j) j w v') :
    o.wp P a w (fun a' w' => ∃ v, a' = a.put o.dst v ∧ (o.dst = none → v = a0.tmps.getD (slot i) undef) ∧ F (fun j => if j = i then true else f j) i w' v ∧ T (fun j => if j = i then true else f j) w' ∧ ∀ j, f j = true → F f j w (a.tmps.getD (slot j) undef) → F (fun j => if j = i then true else f j) j w' (a.tmps.getD (slot j) undef)) Q := by
  refine Oper.wp_mono ?_ h
  rintro a' w' ⟨rfl, rfl⟩
  exact ⟨v, rfl, fun h => absurd h hd, hF, hT, fun j _ h => hM j _ h⟩
theorem rg_same5 {o : Oper} {a a0 : Act} {w : World} {slot : Nat → Nat} {F : (Nat → Bool) → Nat → World → Value → Prop} {T : (Nat → Bool) → World → Prop} {p q : Nat} {R : Value → Value → Prop} {f : Nat → Bool} {i : Nat} (hiq : i ≠ q) (hip : i ≠ p)
    (h : o.wp P a w (fun a' w' => ∃ v, a' = a.put o.dst v ∧ (o.dst = none → v = a0.tmps.getD (slot i) undef) ∧ F (fun j => if j = i then true else f j) i w' v ∧ T (fun j => if j = i then true else f j) w' ∧ ∀ j, f j = true → F f j w (a.tmps.getD (slot j) undef) → F (fun j => if j = i then true else f j) j w' (a.tmps.getD (slot j) undef)) Q) :
    o.wp P a w (fun a' w' => ∃ v, a' = a.put o.dst v ∧ (o.dst = none → v = a0.tmps.getD (slot i) undef) ∧ F (fun j => if j = i then true else f j) i w' v ∧ T (fun j => if j = i then true else f j) w' ∧ (i = q → f p = true → R (a.tmps.getD (slot p) undef) v) ∧ (i = p → f q = true → R v (a.tmps.getD (slot q) undef)) ∧ ∀ j, f j = true → F f j w (a.tmps.getD (slot j) undef) → F (fun j => if j = i then true else f j) j w' (a.tmps.getD (slot j) undef)) Q := by
  refine Oper.wp_mono ?_ h
  rintro a' w' ⟨v, h1, h2, h3, h4, h5⟩
  exact ⟨v, h1, h2, h3, h4, fun e => absurd e hiq, fun e => absurd e hip, h5⟩
end
end Go.Proofs.YtbaakfcbakpmpaaGreatDoor

/- script: OutParse. No conditions but those that each law states. -/
namespace Go.Proofs.YtbaakfcbakpmpaaGreatDoor
set_option linter.unusedVariables false
set_option linter.unusedSimpArgs false
open Go.RowKit Go.Shelf
set_option maxHeartbeats 8000000
set_option maxRecDepth 100000
/-- an out's cells, stored -/
def stO (w : World) (R : Nat) (k : Int) (x : Sc.St) (u : Value) : World := (((w.setCell ⟨R, 0, none⟩ (.int .i64 k)).setCell ⟨R, 1, none⟩ (.int .u64 (x.conn : Int))).setCell ⟨R, 2, none⟩ (.int .i64 x.topic)).setCell ⟨R, 3, none⟩ u
theorem stO_heap {w : World} {R : Nat} {k' : Int} {y : Sc.St} {v : Value} (h : w.heap[R]? = some (otObj k' y v)) (k : Int) (x : Sc.St) (u : Value) : (stO w R k x u).heap[R]? = some (otObj k x u) := by
  unfold stO
  unfold otObj at h ⊢
  have h1 := heap_setCell_same w R 0 _ _ (.int .i64 k) h
  have h2 := heap_setCell_same _ R 1 _ _ (.int .u64 (x.conn : Int)) h1
  have h3 := heap_setCell_same _ R 2 _ _ (.int .i64 x.topic) h2
  have h4 := heap_setCell_same _ R 3 _ _ u h3
  rw [h4]
  simp
theorem stO_other {w : World} {R b : Nat} (k : Int) (x : Sc.St) (u : Value) (h : b ≠ R) : (stO w R k x u).heap[b]? = w.heap[b]? := by
  unfold stO
  rw [Below.heap_setCell _ _ _ _ (by show b ≠ R; exact h), Below.heap_setCell _ _ _ _ (by show b ≠ R; exact h), Below.heap_setCell _ _ _ _ (by show b ≠ R; exact h), Below.heap_setCell _ _ _ _ (by show b ≠ R; exact h)]
theorem stO_below {B : Nat} {w0 w : World} {R : Nat} (k : Int) (x : Sc.St) (u : Value) (h : Below B w0 w) (hB : B ≤ R) : Below B w0 (stO w R k x u) :=
  (((h.setCell (p := ⟨R, 0, none⟩) hB _).setCell (p := ⟨R, 1, none⟩) hB _).setCell (p := ⟨R, 2, none⟩) hB _).setCell (p := ⟨R, 3, none⟩) hB _
theorem stO_keep (w : World) (R : Nat) (k : Int) (x : Sc.St) (u : Value) : KeepM R w (stO w R k x u) := ⟨by unfold stO; simp, fun j _ hn => stO_other k x u hn⟩
structure OR (w : World) (R : Nat) (k : Int) (x : Sc.St) (u : Value) : Prop where
  c0 : w.cell? ⟨R, 0, none⟩ = some (.int .i64 k)
  c1 : w.cell? ⟨R, 1, none⟩ = some (.int .u64 (x.conn : Int))
  c2 : w.cell? ⟨R, 2, none⟩ = some (.int .i64 x.topic)
  c3 : w.cell? ⟨R, 3, none⟩ = some u
  fr : ∀ i, w.frozen? ⟨R, i, none⟩ = false
theorem OR.of {w : World} {R : Nat} {k : Int} {x : Sc.St} {u : Value} (h : w.heap[R]? = some (otObj k x u)) : OR w R k x u := by
  unfold otObj at h
  refine ⟨?_, ?_, ?_, ?_, fun i => frozen_of_row _ _ _ _ _ h⟩ <;> simp [World.cell?, h]
theorem brow_otherO {w w' : World} {R : Nat} {v : Value} {l : List UInt8} {k' : Int} {y : Sc.St} {u : Value} (h : BRow w v l) (hR : w.heap[R]? = some (otObj k' y u)) (hu : isSl u) (k : KeepM R w w') : BRow w' v l := by
  obtain ⟨ao, cap, rfl, hc, h⟩ := h
  refine ⟨ao, cap, rfl, hc, ?_⟩
  rcases h with h | ⟨g, o, rfl, h⟩
  · exact .inl h
  · refine .inr ⟨g, o, rfl, fun j hj => ?_⟩
    have hc := h j hj
    have hne : g ≠ R := by
      intro e
      subst e
      unfold otObj at hR
      simp only [World.cell?, hR] at hc
      obtain ⟨p, n, c, rfl⟩ := hu
      obtain ⟨m, hm⟩ : ∃ m, o + j = m := ⟨_, rfl⟩
      rw [hm] at hc
      match m, hc with
      | 0, hc => simp [by8] at hc
      | 1, hc => simp [by8] at hc
      | 2, hc => simp [by8] at hc
      | 3, hc => simp [by8] at hc
      | m + 4, hc => simp at hc
    rw [← hc]
    simp only [World.cell?, k.2 g (lt_of_cell hc) hne]
theorem sc_clearO (R : Nat) (k : Int) (y : Sc.St) (v : Value) (w : World) (hc : w.heap[R]? = some (otObj k y v)) :
    Calls Tryz.prog 48 #[.pointer (some ⟨R, 0, none⟩)] w fun e w' => e = .returned (.tuple #[]) ∧ w' = stO w R 0 Sc.St.zero (.slice none 0 0) := by
  obtain ⟨c0, c1, c2, c3, fr⟩ := OR.of hc
  have f0 := fr 0
  have f1 := fr 1
  have f2 := fr 2
  have f3 := fr 3
  unfold stO Sc.St.zero
  clear hc fr
  go_enter Tryz.func48, Tryz.ntmps48
  go_wp2_with fail
  simp [bodyPost, results, Tryz.results48, go_sem]
def paF (S : Nat) (k : Int) (y : Sc.St) (up : Option Addr) (un uc : Nat) : Nat → Value → Prop
  | 0, v => v = .int .i64 k
  | 1, v => v = .pointer (some ⟨S + 1 + 1, 0, none⟩)
  | 2, v => v = .pointer (some ⟨S + 1 + 1, 0, none⟩)
  | 3, v => v = .pointer (some ⟨S + 1 + 1, 0, none⟩)
  | 4, v => v = .pointer (some ⟨S + 1 + 1, 1, none⟩)
  | 5, v => v = .int .u64 (y.conn : Int)
  | 6, v => v = .pointer (some ⟨S + 1 + 1, 0, none⟩)
  | 7, v => v = .pointer (some ⟨S + 1 + 1, 0, none⟩)
  | 8, v => v = .pointer (some ⟨S + 1 + 1, 0, none⟩)
  | 9, v => v = .pointer (some ⟨S + 1 + 1, 2, none⟩)
  | 10, v => v = .int .i64 y.topic
  | 11, v => v = .pointer (some ⟨S + 1 + 1, 0, none⟩)
  | 12, v => v = .pointer (some ⟨S + 1 + 1, 0, none⟩)
  | 13, v => v = .pointer (some ⟨S + 1 + 1, 0, none⟩)
  | 14, v => v = .pointer (some ⟨S + 1 + 1, 5, none⟩)
  | 15, v => v = .slice up un uc
  | 16, v => True
  | 17, v => v = .pointer (some ⟨S, 0, none⟩)
  | 18, v => True
  | 19, v => v = .pointer (some ⟨S, 1, none⟩)
  | 20, v => True
  | 21, v => v = .pointer (some ⟨S, 2, none⟩)
  | 22, v => True
  | 23, v => v = .pointer (some ⟨S, 3, none⟩)
  | 24, v => True
  | 25, v => True
  | _, _ => False
def paG (S : Nat) (k : Int) (y : Sc.St) (up : Option Addr) (un uc : Nat) (f : Nat → Bool) (j : Nat) (w : World) (v : Value) : Prop := paF S k y up un uc j v
structure paT (w0 : World) (S : Nat) (k : Int) (y : Sc.St) (up : Option Addr) (un uc : Nat) (f : Nat → Bool) (w : World) : Prop where
  bel : Below S w0 w
  size : w.heap.size = w0.heap.size
  row : ∃ a b c d, w.heap[S]? = some (.cells #[a, b, c, d] 29 (0, 0)) ∧ (f 18 = true → a = .int .i64 k ∧ f 16 = true) ∧ (f 20 = true → b = .int .u64 (y.conn : Int) ∧ f 16 = true) ∧ (f 22 = true → c = .int .i64 y.topic ∧ f 16 = true) ∧ (f 24 = true → d = .slice up un uc ∧ f 16 = true)
  erow : w.heap[S + 1]? = some (.cells #[.int .i64 0] 31 (0, 0))
  oth : ∀ j, j < w0.heap.size → j ≠ S → w.heap[j]? = w0.heap[j]?
theorem up_tt {f : Nat → Bool} {i j : Nat} (h : f j = true) : (if j = i then true else f j) = true := by by_cases e : j = i <;> simp [e, h]
theorem up_true' {f : Nat → Bool} {i j : Nat} (hn : j ≠ i) (h : (if j = i then true else f j) = true) : f j = true := by simpa [hn] using h
theorem paT.step {w0 : World} {S : Nat} {k : Int} {y : Sc.St} {up : Option Addr} {un uc : Nat} {w : World} {f : Nat → Bool} (i : Nat) (h : paT w0 S k y up un uc f w) (h18 : 18 ≠ i) (h20 : 20 ≠ i) (h22 : 22 ≠ i) (h24 : 24 ≠ i) : paT w0 S k y up un uc (fun j => if j = i then true else f j) w := by
  obtain ⟨a, b, c, d, h1, h2, h3, h4, h5⟩ := h.row
  exact ⟨h.bel, h.size, ⟨a, b, c, d, h1, fun e => ⟨(h2 (up_true' h18 e)).1, up_tt (h2 (up_true' h18 e)).2⟩, fun e => ⟨(h3 (up_true' h20 e)).1, up_tt (h3 (up_true' h20 e)).2⟩, fun e => ⟨(h4 (up_true' h22 e)).1, up_tt (h4 (up_true' h22 e)).2⟩, fun e => ⟨(h5 (up_true' h24 e)).1, up_tt (h5 (up_true' h24 e)).2⟩⟩, h.erow, h.oth⟩
theorem paT.put {w0 : World} {S : Nat} {k : Int} {y : Sc.St} {up : Option Addr} {un uc : Nat} {w : World} {f : Nat → Bool} (i m : Nat) (v : Value) (h : paT w0 S k y up un uc f w) (h16 : f 16 = true) (hS1 : S < w0.heap.size)
    (hi : (i = 18 ∧ m = 0 ∧ v = .int .i64 k) ∨ (i = 20 ∧ m = 1 ∧ v = .int .u64 (y.conn : Int)) ∨ (i = 22 ∧ m = 2 ∧ v = .int .i64 y.topic) ∨ (i = 24 ∧ m = 3 ∧ v = .slice up un uc)) : paT w0 S k y up un uc (fun j => if j = i then true else f j) (w.setCell ⟨S, m, none⟩ v) := by
  obtain ⟨a, b, c, d, h1, h2, h3, h4, h5⟩ := h.row
  have hr := heap_setCell_same w S m _ _ v h1
  have G : (if (16 : Nat) = i then true else f 16) = true := up_tt h16
  refine ⟨h.bel.setCell (p := ⟨S, m, none⟩) (Nat.le_refl S) _, by have := h.size; simpa using this, ?_, (Below.heap_setCell _ _ _ _ (by show S + 1 ≠ S; omega)).trans h.erow, fun j hj hne => (Below.heap_setCell _ _ _ _ (by show j ≠ S; exact hne)).trans (h.oth j hj hne)⟩
  rcases hi with ⟨rfl, rfl, rfl⟩ | ⟨rfl, rfl, rfl⟩ | ⟨rfl, rfl, rfl⟩ | ⟨rfl, rfl, rfl⟩
  · exact ⟨_, b, c, d, by rw [hr]; simp, fun _ => ⟨rfl, G⟩, fun e => ⟨(h3 (up_true' (by decide) e)).1, G⟩, fun e => ⟨(h4 (up_true' (by decide) e)).1, G⟩, fun e => ⟨(h5 (up_true' (by decide) e)).1, G⟩⟩
  · exact ⟨a, _, c, d, by rw [hr]; simp, fun e => ⟨(h2 (up_true' (by decide) e)).1, G⟩, fun _ => ⟨rfl, G⟩, fun e => ⟨(h4 (up_true' (by decide) e)).1, G⟩, fun e => ⟨(h5 (up_true' (by decide) e)).1, G⟩⟩
  · exact ⟨a, b, _, d, by rw [hr]; simp, fun e => ⟨(h2 (up_true' (by decide) e)).1, G⟩, fun e => ⟨(h3 (up_true' (by decide) e)).1, G⟩, fun _ => ⟨rfl, G⟩, fun e => ⟨(h5 (up_true' (by decide) e)).1, G⟩⟩
  · exact ⟨a, b, c, _, by rw [hr]; simp, fun e => ⟨(h2 (up_true' (by decide) e)).1, G⟩, fun e => ⟨(h3 (up_true' (by decide) e)).1, G⟩, fun e => ⟨(h4 (up_true' (by decide) e)).1, G⟩, fun _ => ⟨rfl, G⟩⟩
theorem paT.zero {w0 : World} {S : Nat} {k : Int} {y : Sc.St} {up : Option Addr} {un uc : Nat} {w : World} {f : Nat → Bool} (h : paT w0 S k y up un uc f w) (h16 : f 16 = false) (hS1 : S < w0.heap.size) : paT w0 S k y up un uc (fun j => if j = 16 then true else f j) (stO w S 0 Sc.St.zero (.slice none 0 0)) := by
  obtain ⟨a, b, c, d, h1, h2, h3, h4, h5⟩ := h.row
  have N : ∀ {P : Prop}, (P ∧ f 16 = true) → False := fun x => by have := x.2; rw [h16] at this; cases this
  have hr0 := heap_setCell_same w S 0 _ _ (.int .i64 0) h1
  have hr1 := heap_setCell_same _ S 1 _ _ (.int .u64 ((Sc.St.zero.conn : Nat) : Int)) hr0
  have hr2 := heap_setCell_same _ S 2 _ _ (.int .i64 Sc.St.zero.topic) hr1
  have hr3 := heap_setCell_same _ S 3 _ _ (.slice none 0 0) hr2
  refine ⟨stO_below _ _ _ h.bel (Nat.le_refl S), by have := h.size; unfold stO; simpa using this, ⟨_, _, _, _, by unfold stO; rw [hr3]; simp; exact ⟨rfl, rfl, rfl, rfl⟩, fun e => (N (h2 (up_true' (by decide) e))).elim, fun e => (N (h3 (up_true' (by decide) e))).elim, fun e => (N (h4 (up_true' (by decide) e))).elim, fun e => (N (h5 (up_true' (by decide) e))).elim⟩, (stO_other _ _ _ (by omega)).trans h.erow, fun j hj hne => (stO_other _ _ _ hne).trans (h.oth j hj hne)⟩
def paSlot (i : Nat) : Nat := ([13, 14, 15, 16, 17, 18, 19, 20, 21, 22, 23, 24, 25, 26, 27, 28, 0, 29, 1, 30, 6, 31, 7, 32, 8, 9] : List Nat).getD i 9
theorem paSlot_lt (i : Nat) : paSlot i < 33 := by
  match i with
  | 0 | 1 | 2 | 3 | 4 | 5 | 6 | 7 | 8 | 9 | 10 | 11 | 12 | 13 | 14 | 15 | 16 | 17 | 18 | 19 | 20 | 21 | 22 | 23 | 24 | 25 => decide
  | n + 26 => show 9 < 33; decide
theorem paSlot_inj : ∀ i j, i < 26 → j < 26 → paSlot i = paSlot j → i = j := by
  have h : ∀ i j : Fin 26, paSlot i.val = paSlot j.val → i = j := by decide +kernel
  intro i j hi hj e
  have := h ⟨i, hi⟩ ⟨j, hj⟩ e
  simpa using this
theorem paNot : ∀ i, i < 26 → paSlot i ≠ 2 ∧ paSlot i ≠ 3 ∧ paSlot i ≠ 4 ∧ paSlot i ≠ 5 := by
  have h : ∀ i : Fin 26, paSlot i.val ≠ 2 ∧ paSlot i.val ≠ 3 ∧ paSlot i.val ≠ 4 ∧ paSlot i.val ≠ 5 := by decide +kernel
  exact fun i hi => h ⟨i, hi⟩
/-- the kind and what stands in it that OutParse tells -/
def otk (o : Option (Int × Sc.St)) : Int := match o with
  | some (k, _) => k
  | none => 0
def ots (o : Option (Int × Sc.St)) : Sc.St := match o with
  | some (_, y) => y
  | none => Sc.St.zero
theorem sc_OutParse (s : ByteArray) (w : World) (hs : s.size ≤ 50000) (ht : Tabs w) (hm : ML w) :
    Calls Tryz.prog 18 #[.string s] w fun e w' => ∃ u, e = .returned (.tuple #[otVal (otk (Sc.parse Sc.outT s.data.toList)) (ots (Sc.parse Sc.outT s.data.toList)) u, .int .i64 (erS (Sc.parse Sc.outT s.data.toList))]) ∧ BRow w' u (ots (Sc.parse Sc.outT s.data.toList)).bytes ∧ (ots (Sc.parse Sc.outT s.data.toList)).fine ∧ Below w.heap.size w w' := by
  have hmf : ∀ (fn : Fn) (first cap : Array Value) (w : World), (Instr.makeFunc fn first cap).run Tryz.prog w = .ok (.func fn first cap) w := fun _ _ _ _ => rfl
  obtain ⟨S, hS⟩ : ∃ z, w.heap.size = z := ⟨_, rfl⟩
  obtain ⟨W3, hW3⟩ : ∃ z, ((w.alloc (otObj 0 Sc.St.zero (.slice none 0 0))).alloc (.cells #[.int .i64 0] 31)).alloc (rdObj Sc.St.zero (.slice none 0 0) (.slice none 0 0)) = z := ⟨_, rfl⟩
  have hb3 : Below w.heap.size w W3 := by rw [← hW3]; exact (((Below.refl _ _).alloc (Nat.le_refl _) _).alloc (by simp) _).alloc (by simp; omega) _
  have hz3 : W3.heap.size = S + 3 := by rw [← hW3, ← hS]; simp
  have hS3 : W3.heap[S]? = some (otObj 0 Sc.St.zero (.slice none 0 0)) := by
    rw [← hW3, Below.heap_alloc _ _ _ (by simp; omega), Below.heap_alloc _ _ _ (by simp; omega), ← hS]
    exact World.alloc_heap_new _ _
  have hE3 : W3.heap[S + 1]? = some (.cells #[.int .i64 0] 31 (0, 0)) := by
    rw [← hW3, Below.heap_alloc _ _ _ (by simp; omega), ← hS]
    have := World.alloc_heap_new (w.alloc (otObj 0 Sc.St.zero (.slice none 0 0))) (.cells #[.int .i64 0] 31)
    simpa using this
  have hR3 : W3.heap[S + 1 + 1]? = some (rdObj Sc.St.zero (.slice none 0 0) (.slice none 0 0)) := by
    rw [← hW3, ← hS]
    have := World.alloc_heap_new ((w.alloc (otObj 0 Sc.St.zero (.slice none 0 0))).alloc (.cells #[.int .i64 0] 31)) (rdObj Sc.St.zero (.slice none 0 0) (.slice none 0 0))
    simpa using this
  have HB3 := Lib.hid hb3
  have HZ3 := Lib.hid hz3
  have HS3 := Lib.hid hS3
  have HE3 := Lib.hid hE3
  have HR3 := Lib.hid hR3
  have HW3 := Lib.hid hW3
  have HSS := Lib.hid hS
  have HT := Lib.hid ht
  have HM := Lib.hid hm
  have KS := Lib.hid sc_outs
  obtain ⟨o, ho⟩ : ∃ z, Sc.parse Sc.outT s.data.toList = z := ⟨_, rfl⟩
  rw [ho]
  have HO := Lib.hid ho
  clear hS hW3 hb3 hz3 hS3 hE3 hR3 ht hm ho
  unfold otObj rdObj Sc.St.zero at HW3
  go_enter_defers Tryz.func18, Tryz.ntmps18
  go_wp2_with fail
  rw [HSS.out]
  rw [show ((w.alloc (.cells #[.int .i64 0, .int .u64 0, .int .i64 0, .slice none 0 0] 29)).alloc (.cells #[.int .i64 0] 31)).alloc (.cells #[.int .i64 0, .int .u64 0, .int .i64 0, .int .u64 0, .int .u64 0, .slice none 0 0, .slice none 0 0] 96) = W3 from HW3.out]
  refine (KS.out W3).mono ?_
  rintro e w4 ⟨b, rfl, hsh, hb4⟩
  have hS4 := (hb4.block _ (Array.getElem?_eq_some_iff.1 HS3.out).1).trans HS3.out
  have hE4 := (hb4.block _ (Array.getElem?_eq_some_iff.1 HE3.out).1).trans HE3.out
  have hR4 := (hb4.block _ (Array.getElem?_eq_some_iff.1 HR3.out).1).trans HR3.out
  have hbw4 := HB3.out.trans (hb4.mono HB3.out.size)
  have KR := sc_read (.inr rfl) (S + 1 + 1) b s w w4 hbw4 (by rw [HSS.out]; omega) hR4 hsh hs HT.out HM.out
  rw [HO.out] at KR
  have KR := Lib.hid KR
  have HS4 := Lib.hid hS4
  have HE4 := Lib.hid hE4
  have HR4 := Lib.hid hR4
  have HB4 := Lib.hid hbw4
  clear hS4 hE4 hR4 hbw4 hb4 hsh
  go_wp2_with fail
  refine KR.out.mono ?_
  intro e w5 h
  cases o with
  | none =>
    obtain ⟨rfl, hb5⟩ := h
    have hS5 := (hb5.block S (by omega)).trans HS4.out
    have hE5 := (hb5.block (S + 1) (by omega)).trans HE4.out
    have HBB := Lib.hid (show Below w.heap.size w w5 from HB4.out.trans (hb5.mono (by rw [HSS.out]; omega)))
    refine leaves_cons (f := 37) (args := #[.pointer (some ⟨S + 1, 0, none⟩), .func (.func 48) #[] #[.pointer (some ⟨S, 0, none⟩)]]) (by simp) (by simp [go_sem]) ?_
    have hS6 := stO_heap hS5 0 Sc.St.zero (.slice none 0 0)
    have hE6 : (stO w5 S 0 Sc.St.zero (.slice none 0 0)).heap[S + 1]? = some (.cells #[.int .i64 0] 31 (0, 0)) := (stO_other _ _ _ (by omega)).trans hE5
    have c2 : (stO w5 S 0 Sc.St.zero (.slice none 0 0)).cell? ⟨S + 1, 0, none⟩ = some (.int .i64 0) := by simp [World.cell?, hE6]
    have z2 : (stO w5 S 0 Sc.St.zero (.slice none 0 0)).frozen? ⟨S + 1, 0, none⟩ = false := frozen_of_row _ _ _ _ _ hE6
    refine (sc_caught ⟨S + 1, 0, none⟩ 48 #[.pointer (some ⟨S, 0, none⟩)] 390 [] w5 (stO w5 S 0 Sc.St.zero (.slice none 0 0)) (fun W => enters_of Tryz.func48 (by kernel_rfl) rfl _ W) (sc_clearO S _ _ _ w5 hS5) (.int .i64 0) c2 z2).mono ?_
    rintro e u' w'' ⟨rfl, rfl, rfl⟩
    have hS7 : ((stO w5 S 0 Sc.St.zero (.slice none 0 0)).setCell ⟨S + 1, 0, none⟩ (.int .i64 390)).heap[S]? = some (otObj 0 Sc.St.zero (.slice none 0 0)) := (Below.heap_setCell _ _ _ _ (by show S ≠ S + 1; omega)).trans hS6
    have hE7 : ((stO w5 S 0 Sc.St.zero (.slice none 0 0)).setCell ⟨S + 1, 0, none⟩ (.int .i64 390)).heap[S + 1]? = some (.cells #[.int .i64 390] 31 (0, 0)) := heap_setCell_same _ _ 0 _ _ _ hE6
    have HB7 := Lib.hid (show Below w.heap.size w ((stO w5 S 0 Sc.St.zero (.slice none 0 0)).setCell ⟨S + 1, 0, none⟩ (.int .i64 390)) from (stO_below _ _ _ HBB.out (Nat.le_of_eq HSS.out)).setCell (p := ⟨S + 1, 0, none⟩) (by rw [HSS.out]; show S ≤ S + 1; omega) _)
    obtain ⟨X, hX⟩ : ∃ X, (stO w5 S 0 Sc.St.zero (.slice none 0 0)).setCell ⟨S + 1, 0, none⟩ (.int .i64 390) = X := ⟨_, rfl⟩
    rw [hX] at hS7 hE7 HB7 ⊢
    obtain ⟨x0, x1, x2, x3, _⟩ := OR.of hS7
    have xe : X.cell? ⟨S + 1, 0, none⟩ = some (.int .i64 390) := by simp [World.cell?, hE7]
    unfold Sc.St.zero at x1 x2
    clear hX hS7 hE7 hS6 hE6 c2 z2 hS5 hE5 hb5
    simp [Leaves, settle, results, Tryz.results18, go_sem, x0, x1, x2, x3, xe]
    exact ⟨_, ⟨rfl, rfl⟩, BRow.nil _, ⟨⟨by decide, by decide, by decide⟩, by decide⟩, HB7.out⟩
  | some r =>
    obtain ⟨k, y⟩ := r
    obtain ⟨rfl, hb5, hky, hfy, u, wv, hR5, hu5, _, hwv⟩ := h
    have hS5 := (hb5.block S (by omega)).trans HS4.out
    have hE5 := (hb5.block (S + 1) (by omega)).trans HE4.out
    obtain ⟨up, un, uc, rfl⟩ := hu5.sl
    obtain ⟨r0, r1, r2, r3, r4, r5, _⟩ := SR.ofR hR5
    have HR5 := Lib.hid (Array.getElem?_eq_some_iff.1 hR5).1
    have HS5 := Lib.hid hS5
    have HE5 := Lib.hid hE5
    have HU5 := Lib.hid hu5
    have HFY := Lib.hid hfy
    have HB5 := Lib.hid (show Below w.heap.size w w5 from HB4.out.trans (hb5.mono (by rw [HSS.out]; omega)))
    clear hS5 hE5 hu5 hfy hb5 hR5 hwv hky r0 r3 r4
    go_upto_region 4 with (fail)
    refine region_slots4 paSlot (paG S k y up un uc) (paT w5 S k y up un uc) (by kernel_rfl) (by kernel_rfl) (fun i => Nat.lt_of_lt_of_le (paSlot_lt i) (by show 33 ≤ _; simp)) (fun i j hi hj h => paSlot_inj i j hi hj h) ?start ?dst ?step ?done
    case start => exact ⟨(Below.refl _ _).drew, rfl, ⟨_, _, _, _, HS5.out, fun e => (by cases e), fun e => (by cases e), fun e => (by cases e), fun e => (by cases e)⟩, HE5.out, fun _ _ _ => rfl⟩
    case dst =>
      intro i o ho
      match i, ho with
      | 0, ho => cases ho; exact .inl rfl
      | 1, ho => cases ho; exact .inl rfl
      | 2, ho => cases ho; exact .inl rfl
      | 3, ho => cases ho; exact .inl rfl
      | 4, ho => cases ho; exact .inl rfl
      | 5, ho => cases ho; exact .inl rfl
      | 6, ho => cases ho; exact .inl rfl
      | 7, ho => cases ho; exact .inl rfl
      | 8, ho => cases ho; exact .inl rfl
      | 9, ho => cases ho; exact .inl rfl
      | 10, ho => cases ho; exact .inl rfl
      | 11, ho => cases ho; exact .inl rfl
      | 12, ho => cases ho; exact .inl rfl
      | 13, ho => cases ho; exact .inl rfl
      | 14, ho => cases ho; exact .inl rfl
      | 15, ho => cases ho; exact .inl rfl
      | 16, ho => cases ho; exact .inr rfl
      | 17, ho => cases ho; exact .inl rfl
      | 18, ho => cases ho; exact .inr rfl
      | 19, ho => cases ho; exact .inl rfl
      | 20, ho => cases ho; exact .inr rfl
      | 21, ho => cases ho; exact .inl rfl
      | 22, ho => cases ho; exact .inr rfl
      | 23, ho => cases ho; exact .inl rfl
      | 24, ho => cases ho; exact .inr rfl
      | 25, ho => cases ho; exact .inr rfl
      | n + 26, ho => exact absurd ho (by simp)
    case step =>
      intro f a' W i o ho hfi hpre hT hrest
      have hSW : S < w5.heap.size := (Array.getElem?_eq_some_iff.1 HS5.out).1
      have hR : ∀ m, W.cell? ⟨S + 1 + 1, m, none⟩ = w5.cell? ⟨S + 1 + 1, m, none⟩ := fun m => by simp only [World.cell?, hT.oth (S + 1 + 1) HR5.out (by omega)]
      match i, ho with
      | 0, ho =>
        cases ho
        have q5 : a'.tmps.getD 5 undef = .int .i64 k := (hrest 5 (fun i hi => (paNot i hi).2.2.2))
        have e5 := rg_ev q5
        exact rg_same4 (.int .i64 k) (by unfold Oper.wp execOp; go_simp; all_goals ((try simp only [e5]); (try go_simp); (try rw [if_pos (by omega)]); (try rw [if_neg (by omega)]); first | done | rfl | exact ⟨rfl, rfl⟩ | trivial)) (by simp) rfl (hT.step 0 (by decide) (by decide) (by decide) (by decide)) (fun j v' h => h)
      | 1, ho =>
        cases ho
        have q4 : a'.tmps.getD 4 undef = .pointer (some ⟨S + 1 + 1, 0, none⟩) := (hrest 4 (fun i hi => (paNot i hi).2.2.1))
        have e4 := rg_ev q4
        exact rg_same4 (.pointer (some ⟨S + 1 + 1, 0, none⟩)) (by unfold Oper.wp execOp; go_simp; all_goals ((try simp only [e4]); (try go_simp); (try rw [if_pos (by omega)]); (try rw [if_neg (by omega)]); first | done | rfl | exact ⟨rfl, rfl⟩ | trivial)) (by simp) rfl (hT.step 1 (by decide) (by decide) (by decide) (by decide)) (fun j v' h => h)
      | 2, ho =>
        cases ho
        have q14 : a'.tmps.getD 14 undef = .pointer (some ⟨S + 1 + 1, 0, none⟩) := (hpre { on := 1, ground := .data } (by simp) rfl).2
        have e14 := rg_ev q14
        exact rg_same4 (.pointer (some ⟨S + 1 + 1, 0, none⟩)) (by unfold Oper.wp execOp; go_simp; all_goals ((try simp only [e14]); (try go_simp); (try rw [if_pos (by omega)]); (try rw [if_neg (by omega)]); first | done | rfl | exact ⟨rfl, rfl⟩ | trivial)) (by simp) rfl (hT.step 2 (by decide) (by decide) (by decide) (by decide)) (fun j v' h => h)
      | 3, ho =>
        cases ho
        have q15 : a'.tmps.getD 15 undef = .pointer (some ⟨S + 1 + 1, 0, none⟩) := (hpre { on := 2, ground := .data } (by simp) rfl).2
        have e15 := rg_ev q15
        exact rg_same4 (.pointer (some ⟨S + 1 + 1, 0, none⟩)) (by unfold Oper.wp execOp; go_simp; all_goals ((try simp only [e15]); (try go_simp); (try rw [if_pos (by omega)]); (try rw [if_neg (by omega)]); first | done | rfl | exact ⟨rfl, rfl⟩ | trivial)) (by simp) rfl (hT.step 3 (by decide) (by decide) (by decide) (by decide)) (fun j v' h => h)
      | 4, ho =>
        cases ho
        have q16 : a'.tmps.getD 16 undef = .pointer (some ⟨S + 1 + 1, 0, none⟩) := (hpre { on := 3, ground := .data } (by simp) rfl).2
        have e16 := rg_ev q16
        exact rg_same4 (.pointer (some ⟨S + 1 + 1, 1, none⟩)) (by unfold Oper.wp execOp; go_simp; all_goals ((try simp only [e16]); (try go_simp); (try rw [if_pos (by omega)]); (try rw [if_neg (by omega)]); first | done | rfl | exact ⟨rfl, rfl⟩ | trivial)) (by simp) rfl (hT.step 4 (by decide) (by decide) (by decide) (by decide)) (fun j v' h => h)
      | 5, ho =>
        cases ho
        have q17 : a'.tmps.getD 17 undef = .pointer (some ⟨S + 1 + 1, 1, none⟩) := (hpre { on := 4, ground := .data } (by simp) rfl).2
        have e17 := rg_ev q17
        have hc : W.cell? ⟨S + 1 + 1, 1, none⟩ = some (.int .u64 (y.conn : Int)) := (hR 1).trans r1
        exact rg_same4 (.int .u64 (y.conn : Int)) (by unfold Oper.wp execOp; go_simp; all_goals ((try simp only [e17]); (try go_simp); (try rw [if_pos (by omega)]); (try rw [if_neg (by omega)]); first | done | rfl | exact ⟨rfl, rfl⟩ | trivial)) (by simp) rfl (hT.step 5 (by decide) (by decide) (by decide) (by decide)) (fun j v' h => h)
      | 6, ho =>
        cases ho
        have q4 : a'.tmps.getD 4 undef = .pointer (some ⟨S + 1 + 1, 0, none⟩) := (hrest 4 (fun i hi => (paNot i hi).2.2.1))
        have e4 := rg_ev q4
        exact rg_same4 (.pointer (some ⟨S + 1 + 1, 0, none⟩)) (by unfold Oper.wp execOp; go_simp; all_goals ((try simp only [e4]); (try go_simp); (try rw [if_pos (by omega)]); (try rw [if_neg (by omega)]); first | done | rfl | exact ⟨rfl, rfl⟩ | trivial)) (by simp) rfl (hT.step 6 (by decide) (by decide) (by decide) (by decide)) (fun j v' h => h)
      | 7, ho =>
        cases ho
        have q19 : a'.tmps.getD 19 undef = .pointer (some ⟨S + 1 + 1, 0, none⟩) := (hpre { on := 6, ground := .data } (by simp) rfl).2
        have e19 := rg_ev q19
        exact rg_same4 (.pointer (some ⟨S + 1 + 1, 0, none⟩)) (by unfold Oper.wp execOp; go_simp; all_goals ((try simp only [e19]); (try go_simp); (try rw [if_pos (by omega)]); (try rw [if_neg (by omega)]); first | done | rfl | exact ⟨rfl, rfl⟩ | trivial)) (by simp) rfl (hT.step 7 (by decide) (by decide) (by decide) (by decide)) (fun j v' h => h)
      | 8, ho =>
        cases ho
        have q20 : a'.tmps.getD 20 undef = .pointer (some ⟨S + 1 + 1, 0, none⟩) := (hpre { on := 7, ground := .data } (by simp) rfl).2
        have e20 := rg_ev q20
        exact rg_same4 (.pointer (some ⟨S + 1 + 1, 0, none⟩)) (by unfold Oper.wp execOp; go_simp; all_goals ((try simp only [e20]); (try go_simp); (try rw [if_pos (by omega)]); (try rw [if_neg (by omega)]); first | done | rfl | exact ⟨rfl, rfl⟩ | trivial)) (by simp) rfl (hT.step 8 (by decide) (by decide) (by decide) (by decide)) (fun j v' h => h)
      | 9, ho =>
        cases ho
        have q21 : a'.tmps.getD 21 undef = .pointer (some ⟨S + 1 + 1, 0, none⟩) := (hpre { on := 8, ground := .data } (by simp) rfl).2
        have e21 := rg_ev q21
        exact rg_same4 (.pointer (some ⟨S + 1 + 1, 2, none⟩)) (by unfold Oper.wp execOp; go_simp; all_goals ((try simp only [e21]); (try go_simp); (try rw [if_pos (by omega)]); (try rw [if_neg (by omega)]); first | done | rfl | exact ⟨rfl, rfl⟩ | trivial)) (by simp) rfl (hT.step 9 (by decide) (by decide) (by decide) (by decide)) (fun j v' h => h)
      | 10, ho =>
        cases ho
        have q22 : a'.tmps.getD 22 undef = .pointer (some ⟨S + 1 + 1, 2, none⟩) := (hpre { on := 9, ground := .data } (by simp) rfl).2
        have e22 := rg_ev q22
        have hc : W.cell? ⟨S + 1 + 1, 2, none⟩ = some (.int .i64 y.topic) := (hR 2).trans r2
        exact rg_same4 (.int .i64 y.topic) (by unfold Oper.wp execOp; go_simp; all_goals ((try simp only [e22]); (try go_simp); (try rw [if_pos (by omega)]); (try rw [if_neg (by omega)]); first | done | rfl | exact ⟨rfl, rfl⟩ | trivial)) (by simp) rfl (hT.step 10 (by decide) (by decide) (by decide) (by decide)) (fun j v' h => h)
      | 11, ho =>
        cases ho
        have q4 : a'.tmps.getD 4 undef = .pointer (some ⟨S + 1 + 1, 0, none⟩) := (hrest 4 (fun i hi => (paNot i hi).2.2.1))
        have e4 := rg_ev q4
        exact rg_same4 (.pointer (some ⟨S + 1 + 1, 0, none⟩)) (by unfold Oper.wp execOp; go_simp; all_goals ((try simp only [e4]); (try go_simp); (try rw [if_pos (by omega)]); (try rw [if_neg (by omega)]); first | done | rfl | exact ⟨rfl, rfl⟩ | trivial)) (by simp) rfl (hT.step 11 (by decide) (by decide) (by decide) (by decide)) (fun j v' h => h)
      | 12, ho =>
        cases ho
        have q24 : a'.tmps.getD 24 undef = .pointer (some ⟨S + 1 + 1, 0, none⟩) := (hpre { on := 11, ground := .data } (by simp) rfl).2
        have e24 := rg_ev q24
        exact rg_same4 (.pointer (some ⟨S + 1 + 1, 0, none⟩)) (by unfold Oper.wp execOp; go_simp; all_goals ((try simp only [e24]); (try go_simp); (try rw [if_pos (by omega)]); (try rw [if_neg (by omega)]); first | done | rfl | exact ⟨rfl, rfl⟩ | trivial)) (by simp) rfl (hT.step 12 (by decide) (by decide) (by decide) (by decide)) (fun j v' h => h)
      | 13, ho =>
        cases ho
        have q25 : a'.tmps.getD 25 undef = .pointer (some ⟨S + 1 + 1, 0, none⟩) := (hpre { on := 12, ground := .data } (by simp) rfl).2
        have e25 := rg_ev q25
        exact rg_same4 (.pointer (some ⟨S + 1 + 1, 0, none⟩)) (by unfold Oper.wp execOp; go_simp; all_goals ((try simp only [e25]); (try go_simp); (try rw [if_pos (by omega)]); (try rw [if_neg (by omega)]); first | done | rfl | exact ⟨rfl, rfl⟩ | trivial)) (by simp) rfl (hT.step 13 (by decide) (by decide) (by decide) (by decide)) (fun j v' h => h)
      | 14, ho =>
        cases ho
        have q26 : a'.tmps.getD 26 undef = .pointer (some ⟨S + 1 + 1, 0, none⟩) := (hpre { on := 13, ground := .data } (by simp) rfl).2
        have e26 := rg_ev q26
        exact rg_same4 (.pointer (some ⟨S + 1 + 1, 5, none⟩)) (by unfold Oper.wp execOp; go_simp; all_goals ((try simp only [e26]); (try go_simp); (try rw [if_pos (by omega)]); (try rw [if_neg (by omega)]); first | done | rfl | exact ⟨rfl, rfl⟩ | trivial)) (by simp) rfl (hT.step 14 (by decide) (by decide) (by decide) (by decide)) (fun j v' h => h)
      | 15, ho =>
        cases ho
        have q27 : a'.tmps.getD 27 undef = .pointer (some ⟨S + 1 + 1, 5, none⟩) := (hpre { on := 14, ground := .data } (by simp) rfl).2
        have e27 := rg_ev q27
        have hc : W.cell? ⟨S + 1 + 1, 5, none⟩ = some (.slice up un uc) := (hR 5).trans r5
        exact rg_same4 (.slice up un uc) (by unfold Oper.wp execOp; go_simp; all_goals ((try simp only [e27]); (try go_simp); (try rw [if_pos (by omega)]); (try rw [if_neg (by omega)]); first | done | rfl | exact ⟨rfl, rfl⟩ | trivial)) (by simp) rfl (hT.step 15 (by decide) (by decide) (by decide) (by decide)) (fun j v' h => h)
      | 16, ho =>
        cases ho
        have q2 : a'.tmps.getD 2 undef = .pointer (some ⟨S, 0, none⟩) := (hrest 2 (fun i hi => (paNot i hi).1))
        have e2 := rg_ev q2
        obtain ⟨a, b, c, d, hd, _⟩ := hT.row
        have hz : ∀ m, W.frozen? ⟨S, m, none⟩ = false := fun m => frozen_of_row _ _ _ _ _ hd
        have hz0 := hz 0
        have hz1 := hz 1
        have hz2 := hz 2
        have hz3 := hz 3
        have hc0 : W.cell? ⟨S, 0, none⟩ = some a := by simp [World.cell?, hd]
        have hc1 : W.cell? ⟨S, 1, none⟩ = some b := by simp [World.cell?, hd]
        have hc2 : W.cell? ⟨S, 2, none⟩ = some c := by simp [World.cell?, hd]
        have hc3 : W.cell? ⟨S, 3, none⟩ = some d := by simp [World.cell?, hd]
        have TN := hT.zero hfi hSW
        unfold stO Sc.St.zero at TN
        have HTN := Lib.hid TN
        clear TN hd
        unfold Oper.wp execOp
        go_simp
        first | done | (refine ⟨trivial, ?_, fun j _ h => h⟩; have h := HTN.out; simpa using h)
      | 17, ho =>
        cases ho
        have q2 : a'.tmps.getD 2 undef = .pointer (some ⟨S, 0, none⟩) := (hrest 2 (fun i hi => (paNot i hi).1))
        have e2 := rg_ev q2
        exact rg_same4 (.pointer (some ⟨S, 0, none⟩)) (by unfold Oper.wp execOp; go_simp; all_goals ((try simp only [e2]); (try go_simp); (try rw [if_pos (by omega)]); (try rw [if_neg (by omega)]); first | done | rfl | exact ⟨rfl, rfl⟩ | trivial)) (by simp) rfl (hT.step 17 (by decide) (by decide) (by decide) (by decide)) (fun j v' h => h)
      | 18, ho =>
        cases ho
        have q29 : a'.tmps.getD 29 undef = .pointer (some ⟨S, 0, none⟩) := (hpre { on := 17, ground := .data } (by simp) rfl).2
        have q13 : a'.tmps.getD 13 undef = .int .i64 k := (hpre { on := 0, ground := .data } (by simp) rfl).2
        have e29 := rg_ev q29
        have e13 := rg_ev q13
        obtain ⟨a, b, c, d, hd, _⟩ := hT.row
        have hz : W.frozen? ⟨S, 0, none⟩ = false := frozen_of_row _ _ _ _ _ hd
        have hc : W.cell? ⟨S, 0, none⟩ = some a := by simp [World.cell?, hd]
        have f16 : f 16 = true := (hpre { on := 16, ground := .chain } (by simp) rfl).1
        have TN := hT.put 18 0 _ f16 hSW (.inl ⟨rfl, rfl, rfl⟩)
        have HTN := Lib.hid TN
        clear TN hd
        unfold Oper.wp execOp
        go_simp
        first | done | (refine ⟨trivial, ?_, fun j _ h => h⟩; have h := HTN.out; simpa using h)
      | 19, ho =>
        cases ho
        have q2 : a'.tmps.getD 2 undef = .pointer (some ⟨S, 0, none⟩) := (hrest 2 (fun i hi => (paNot i hi).1))
        have e2 := rg_ev q2
        exact rg_same4 (.pointer (some ⟨S, 1, none⟩)) (by unfold Oper.wp execOp; go_simp; all_goals ((try simp only [e2]); (try go_simp); (try rw [if_pos (by omega)]); (try rw [if_neg (by omega)]); first | done | rfl | exact ⟨rfl, rfl⟩ | trivial)) (by simp) rfl (hT.step 19 (by decide) (by decide) (by decide) (by decide)) (fun j v' h => h)
      | 20, ho =>
        cases ho
        have q30 : a'.tmps.getD 30 undef = .pointer (some ⟨S, 1, none⟩) := (hpre { on := 19, ground := .data } (by simp) rfl).2
        have q18 : a'.tmps.getD 18 undef = .int .u64 (y.conn : Int) := (hpre { on := 5, ground := .data } (by simp) rfl).2
        have e30 := rg_ev q30
        have e18 := rg_ev q18
        obtain ⟨a, b, c, d, hd, _⟩ := hT.row
        have hz : W.frozen? ⟨S, 1, none⟩ = false := frozen_of_row _ _ _ _ _ hd
        have hc : W.cell? ⟨S, 1, none⟩ = some b := by simp [World.cell?, hd]
        have f16 : f 16 = true := (hpre { on := 16, ground := .phase } (by simp) rfl).1
        have TN := hT.put 20 1 _ f16 hSW (.inr (.inl ⟨rfl, rfl, rfl⟩))
        have HTN := Lib.hid TN
        clear TN hd
        unfold Oper.wp execOp
        go_simp
        first | done | (refine ⟨trivial, ?_, fun j _ h => h⟩; have h := HTN.out; simpa using h)
      | 21, ho =>
        cases ho
        have q2 : a'.tmps.getD 2 undef = .pointer (some ⟨S, 0, none⟩) := (hrest 2 (fun i hi => (paNot i hi).1))
        have e2 := rg_ev q2
        exact rg_same4 (.pointer (some ⟨S, 2, none⟩)) (by unfold Oper.wp execOp; go_simp; all_goals ((try simp only [e2]); (try go_simp); (try rw [if_pos (by omega)]); (try rw [if_neg (by omega)]); first | done | rfl | exact ⟨rfl, rfl⟩ | trivial)) (by simp) rfl (hT.step 21 (by decide) (by decide) (by decide) (by decide)) (fun j v' h => h)
      | 22, ho =>
        cases ho
        have q31 : a'.tmps.getD 31 undef = .pointer (some ⟨S, 2, none⟩) := (hpre { on := 21, ground := .data } (by simp) rfl).2
        have q23 : a'.tmps.getD 23 undef = .int .i64 y.topic := (hpre { on := 10, ground := .data } (by simp) rfl).2
        have e31 := rg_ev q31
        have e23 := rg_ev q23
        obtain ⟨a, b, c, d, hd, _⟩ := hT.row
        have hz : W.frozen? ⟨S, 2, none⟩ = false := frozen_of_row _ _ _ _ _ hd
        have hc : W.cell? ⟨S, 2, none⟩ = some c := by simp [World.cell?, hd]
        have f16 : f 16 = true := (hpre { on := 16, ground := .phase } (by simp) rfl).1
        have TN := hT.put 22 2 _ f16 hSW (.inr (.inr (.inl ⟨rfl, rfl, rfl⟩)))
        have HTN := Lib.hid TN
        clear TN hd
        unfold Oper.wp execOp
        go_simp
        first | done | (refine ⟨trivial, ?_, fun j _ h => h⟩; have h := HTN.out; simpa using h)
      | 23, ho =>
        cases ho
        have q2 : a'.tmps.getD 2 undef = .pointer (some ⟨S, 0, none⟩) := (hrest 2 (fun i hi => (paNot i hi).1))
        have e2 := rg_ev q2
        exact rg_same4 (.pointer (some ⟨S, 3, none⟩)) (by unfold Oper.wp execOp; go_simp; all_goals ((try simp only [e2]); (try go_simp); (try rw [if_pos (by omega)]); (try rw [if_neg (by omega)]); first | done | rfl | exact ⟨rfl, rfl⟩ | trivial)) (by simp) rfl (hT.step 23 (by decide) (by decide) (by decide) (by decide)) (fun j v' h => h)
      | 24, ho =>
        cases ho
        have q32 : a'.tmps.getD 32 undef = .pointer (some ⟨S, 3, none⟩) := (hpre { on := 23, ground := .data } (by simp) rfl).2
        have q28 : a'.tmps.getD 28 undef = .slice up un uc := (hpre { on := 15, ground := .data } (by simp) rfl).2
        have e32 := rg_ev q32
        have e28 := rg_ev q28
        obtain ⟨a, b, c, d, hd, _⟩ := hT.row
        have hz : W.frozen? ⟨S, 3, none⟩ = false := frozen_of_row _ _ _ _ _ hd
        have hc : W.cell? ⟨S, 3, none⟩ = some d := by simp [World.cell?, hd]
        have f16 : f 16 = true := (hpre { on := 16, ground := .phase } (by simp) rfl).1
        have TN := hT.put 24 3 _ f16 hSW (.inr (.inr (.inr ⟨rfl, rfl, rfl⟩)))
        have HTN := Lib.hid TN
        clear TN hd
        unfold Oper.wp execOp
        go_simp
        first | done | (refine ⟨trivial, ?_, fun j _ h => h⟩; have h := HTN.out; simpa using h)
      | 25, ho =>
        cases ho
        have q3 : a'.tmps.getD 3 undef = .pointer (some ⟨S + 1, 0, none⟩) := (hrest 3 (fun i hi => (paNot i hi).2.1))
        have e3 := rg_ev q3
        have hE := hT.erow
        have hz : W.frozen? ⟨S + 1, 0, none⟩ = false := frozen_of_row _ _ _ _ _ hE
        have hc : W.cell? ⟨S + 1, 0, none⟩ = some (.int .i64 0) := by simp [World.cell?, hE]
        have TN : paT w5 S k y up un uc (fun j => if j = 25 then true else f j) (W.setCell ⟨S + 1, 0, none⟩ (.int .i64 0)) := by
          have hn : (W.setCell ⟨S + 1, 0, none⟩ (.int .i64 0)).heap[S + 1]? = some (.cells #[.int .i64 0] 31 (0, 0)) := by rw [heap_setCell_same W (S + 1) 0 _ _ (.int .i64 0) hE]; simp
          have hs := hT.step 25 (by decide) (by decide) (by decide) (by decide)
          obtain ⟨a, b, c, d, g1, g2⟩ := hs.row
          refine ⟨hs.bel.setCell (p := ⟨S + 1, 0, none⟩) (by show S ≤ S + 1; omega) _, by have := hs.size; simpa using this, ⟨a, b, c, d, (Below.heap_setCell _ _ _ _ (by show S ≠ S + 1; omega)).trans g1, g2⟩, hn, fun j hj hne => ?_⟩
          by_cases e : j = S + 1
          · rw [e, hn]; exact HE5.out.symm
          · exact (Below.heap_setCell _ _ _ _ (by show j ≠ S + 1; exact e)).trans (hT.oth j hj hne)
        have HTN := Lib.hid TN
        clear TN hE
        unfold Oper.wp execOp
        go_simp
        first | done | (refine ⟨trivial, ?_, fun j _ h => h⟩; have h := HTN.out; simpa using h)
      | n + 26, ho => exact absurd ho (by simp)
    case done =>
      intro f vs W hall hT hvs
      have v0 : vs 0 = .int .i64 k := hvs 0 (by decide)
      have v1 : vs 1 = .pointer (some ⟨S + 1 + 1, 0, none⟩) := hvs 1 (by decide)
      have v2 : vs 2 = .pointer (some ⟨S + 1 + 1, 0, none⟩) := hvs 2 (by decide)
      have v3 : vs 3 = .pointer (some ⟨S + 1 + 1, 0, none⟩) := hvs 3 (by decide)
      have v4 : vs 4 = .pointer (some ⟨S + 1 + 1, 1, none⟩) := hvs 4 (by decide)
      have v5 : vs 5 = .int .u64 (y.conn : Int) := hvs 5 (by decide)
      have v6 : vs 6 = .pointer (some ⟨S + 1 + 1, 0, none⟩) := hvs 6 (by decide)
      have v7 : vs 7 = .pointer (some ⟨S + 1 + 1, 0, none⟩) := hvs 7 (by decide)
      have v8 : vs 8 = .pointer (some ⟨S + 1 + 1, 0, none⟩) := hvs 8 (by decide)
      have v9 : vs 9 = .pointer (some ⟨S + 1 + 1, 2, none⟩) := hvs 9 (by decide)
      have v10 : vs 10 = .int .i64 y.topic := hvs 10 (by decide)
      have v11 : vs 11 = .pointer (some ⟨S + 1 + 1, 0, none⟩) := hvs 11 (by decide)
      have v12 : vs 12 = .pointer (some ⟨S + 1 + 1, 0, none⟩) := hvs 12 (by decide)
      have v13 : vs 13 = .pointer (some ⟨S + 1 + 1, 0, none⟩) := hvs 13 (by decide)
      have v14 : vs 14 = .pointer (some ⟨S + 1 + 1, 5, none⟩) := hvs 14 (by decide)
      have v15 : vs 15 = .slice up un uc := hvs 15 (by decide)
      obtain ⟨z16, v16⟩ : ∃ z, vs 16 = z := ⟨_, rfl⟩
      have v17 : vs 17 = .pointer (some ⟨S, 0, none⟩) := hvs 17 (by decide)
      obtain ⟨z18, v18⟩ : ∃ z, vs 18 = z := ⟨_, rfl⟩
      have v19 : vs 19 = .pointer (some ⟨S, 1, none⟩) := hvs 19 (by decide)
      obtain ⟨z20, v20⟩ : ∃ z, vs 20 = z := ⟨_, rfl⟩
      have v21 : vs 21 = .pointer (some ⟨S, 2, none⟩) := hvs 21 (by decide)
      obtain ⟨z22, v22⟩ : ∃ z, vs 22 = z := ⟨_, rfl⟩
      have v23 : vs 23 = .pointer (some ⟨S, 3, none⟩) := hvs 23 (by decide)
      obtain ⟨z24, v24⟩ : ∃ z, vs 24 = z := ⟨_, rfl⟩
      obtain ⟨z25, v25⟩ : ∃ z, vs 25 = z := ⟨_, rfl⟩
      simp only [fillN, List.size_toArray, List.length_cons, List.length_nil, Nat.reduceAdd, show List.range 26 = [0, 1, 2, 3, 4, 5, 6, 7, 8, 9, 10, 11, 12, 13, 14, 15, 16, 17, 18, 19, 20, 21, 22, 23, 24, 25] from rfl, List.foldl_cons, List.foldl_nil, show paSlot 0 = 13 from rfl, show paSlot 1 = 14 from rfl, show paSlot 2 = 15 from rfl, show paSlot 3 = 16 from rfl, show paSlot 4 = 17 from rfl, show paSlot 5 = 18 from rfl, show paSlot 6 = 19 from rfl, show paSlot 7 = 20 from rfl, show paSlot 8 = 21 from rfl, show paSlot 9 = 22 from rfl, show paSlot 10 = 23 from rfl, show paSlot 11 = 24 from rfl, show paSlot 12 = 25 from rfl, show paSlot 13 = 26 from rfl, show paSlot 14 = 27 from rfl, show paSlot 15 = 28 from rfl, show paSlot 16 = 0 from rfl, show paSlot 17 = 29 from rfl, show paSlot 18 = 1 from rfl, show paSlot 19 = 30 from rfl, show paSlot 20 = 6 from rfl, show paSlot 21 = 31 from rfl, show paSlot 22 = 7 from rfl, show paSlot 23 = 32 from rfl, show paSlot 24 = 8 from rfl, show paSlot 25 = 9 from rfl, v0, v1, v2, v3, v4, v5, v6, v7, v8, v9, v10, v11, v12, v13, v14, v15, v16, v17, v18, v19, v20, v21, v22, v23, v24, v25]
      clear v0 v1 v2 v3 v4 v5 v6 v7 v8 v9 v10 v11 v12 v13 v14 v15 v16 v17 v18 v19 v20 v21 v22 v23 v24 v25 hvs
      obtain ⟨a, b, c, d, hd, g1, g2, g3, g4⟩ := hT.row
      have ha := (g1 (hall 18 (by decide))).1
      have hb := (g2 (hall 20 (by decide))).1
      have hc := (g3 (hall 22 (by decide))).1
      have hdd := (g4 (hall 24 (by decide))).1
      subst ha hb hc hdd
      have hE := hT.erow
      have HBW := Lib.hid (show Below w.heap.size w W from HB5.out.trans (hT.bel.mono (Nat.le_of_eq HSS.out)))
      have HUW := Lib.hid (show BRow W (.slice up un uc) y.bytes from brow_otherO HU5.out HS5.out ⟨_, _, _, rfl⟩ ⟨Nat.le_of_eq hT.size.symm, fun j hj hn => hT.oth j hj hn⟩)
      have x0 : W.cell? ⟨S, 0, none⟩ = some (.int .i64 k) := by simp [World.cell?, hd]
      have x1 : W.cell? ⟨S, 1, none⟩ = some (.int .u64 (y.conn : Int)) := by simp [World.cell?, hd]
      have x2 : W.cell? ⟨S, 2, none⟩ = some (.int .i64 y.topic) := by simp [World.cell?, hd]
      have x3 : W.cell? ⟨S, 3, none⟩ = some (.slice up un uc) := by simp [World.cell?, hd]
      have xe : W.cell? ⟨S + 1, 0, none⟩ = some (.int .i64 0) := by simp [World.cell?, hE]
      clear g1 g2 g3 g4 hd hE hT hall
      go_simp
      go_wp2_with fail
      refine leaves_cons (f := 37) (args := #[.pointer (some ⟨S + 1, 0, none⟩), .func (.func 48) #[] #[.pointer (some ⟨S, 0, none⟩)]]) (by simp) (by simp [go_sem]) ?_
      refine (sc_caught_idle _ _ _).mono ?_
      rintro e u' w'' ⟨rfl, rfl, rfl⟩
      simp [Leaves, settle, results, Tryz.results18, go_sem, x0, x1, x2, x3, xe]
      exact ⟨_, ⟨rfl, rfl⟩, HUW.out, HFY.out, HBW.out⟩
end Go.Proofs.YtbaakfcbakpmpaaGreatDoor

/- script: strings.SplitSeq, its iterator. No conditions but those that each law states. -/
namespace Go.Proofs.YtbaakfcbakpmpaaGreatDoor
set_option linter.unusedVariables false
set_option linter.unusedSimpArgs false
open Go.RowKit Go.Shelf
attribute [local go_sem] Oper.semAt_some
set_option maxHeartbeats 8000000
set_option maxRecDepth 100000
theorem parts_last {z : UInt8} {l : List UInt8} (h : Lib.indexByte l z = -1) : Gs.parts z [] l = [l] := by
  have h1 := Lib.indexByte_none h
  rw [Gs.parts_one [] (fun c hc e => by
    obtain ⟨k, hk, hk2⟩ := List.getElem_of_mem hc
    exact h1 k (by rw [List.getElem?_eq_getElem hk, hk2, e]))]
  rfl
theorem parts_first {z : UInt8} {l : List UInt8} {o : Nat} (h : Lib.indexByte l z = o) : o < l.length ∧ Gs.parts z [] l = l.take o :: Gs.parts z [] (l.drop (o + 1)) := by
  obtain ⟨h1, h2⟩ := Lib.indexByte_some h
  obtain ⟨ho, h3⟩ := List.getElem?_eq_some_iff.1 h1
  refine ⟨ho, ?_⟩
  have h4 : l = l.take o ++ z :: l.drop (o + 1) := by
    conv => lhs; rw [← List.take_append_drop o l, List.drop_eq_getElem_cons ho, h3]
  conv => lhs; rw [h4]
  rw [Gs.parts_mid [] _ (fun c hc e => by
    obtain ⟨k, hk, hk2⟩ := List.getElem_of_mem hc
    have hk3 : k < o := by rw [List.length_take] at hk; omega
    rw [List.getElem_take] at hk2
    exact h2 k hk3 (by rw [List.getElem?_eq_getElem (by omega), hk2, e]))]
  rfl
/-- how long the text in a cell is -/
def lenAt (w : World) (b : Nat) : Nat := match w.cell? ⟨b, 0, none⟩ with
  | some (.string t) => t.size
  | _ => 0
theorem lenAt_eq {w : World} {b : Nat} {t : ByteArray} (h : w.cell? ⟨b, 0, none⟩ = some (.string t)) : lenAt w b = t.size := by unfold lenAt; rw [h]
theorem splitSeq_inner (sb zb : ByteArray) (w : World) :
    Calls Tryz.prog 98 #[.string sb, .string zb, .int .i64 0] w fun e w' => e = .returned (.func (.func 117) #[] #[.pointer (some ⟨w.heap.size + 1, 0, none⟩), .pointer (some ⟨w.heap.size, 0, none⟩), .pointer (some ⟨w.heap.size + 2, 0, none⟩)]) ∧ w' = ((w.alloc (.cells #[.string sb] 9)).alloc (.cells #[.string zb] 9)).alloc (.cells #[.int .i64 0] 3) := by
  have hmf : ∀ (fn : Fn) (first cap : Array Value) (w : World), (Instr.makeFunc fn first cap).run Tryz.prog w = .ok (.func fn first cap) w := fun _ _ _ _ => rfl
  go_enter Tryz.func98, Tryz.ntmps98
  go_wp2_with fail
  go_ret
  exact ⟨rfl, rfl⟩
theorem sc_SplitSeq (sb zb : ByteArray) (w : World) :
    Calls Tryz.prog 76 #[.string sb, .string zb] w fun e w' => e = .returned (.func (.func 117) #[] #[.pointer (some ⟨w.heap.size + 1, 0, none⟩), .pointer (some ⟨w.heap.size, 0, none⟩), .pointer (some ⟨w.heap.size + 2, 0, none⟩)]) ∧ w' = ((w.alloc (.cells #[.string sb] 9)).alloc (.cells #[.string zb] 9)).alloc (.cells #[.int .i64 0] 3) := by
  have K := Lib.hid (splitSeq_inner sb zb w)
  go_enter Tryz.func76, Tryz.ntmps76
  go_wp2_with fail
  refine K.out.mono ?_
  rintro e w' ⟨rfl, rfl⟩
  go_wp2_with fail
  go_ret
  exact ⟨rfl, rfl⟩
theorem slice_from1 (u : ByteArray) (w : World) (k : Nat) (hk : k < u.size) (hu : u.size ≤ 9223372036854775807) : (Instr.slice 9 (.string u) (some (.int .i64 ((k : Int) + 1))) none none).run Tryz.prog w = .ok (.string (u.extract (k + 1) u.size)) w := by
  have h2 : ((k : Int) + 1) ≤ u.size := by omega
  have h3 : (0 : Int) ≤ (k : Int) + 1 := by omega
  have h4 : ((k : Int) + 1).toNat = k + 1 := by omega
  simp [go_sem, Tryz.underlying9, h2, h3, h4]
theorem w64_facts (o : Nat) (h : o < 5000001) : wrap64 (o : Int) = (o : Int) ∧ wrap64 ((o : Int) + 1) = (o : Int) + 1 ∧ decide ((o : Int) < 0) = false ∧ ¬ ((o : Int) < 0) :=
  ⟨by unfold wrap64; omega, by unfold wrap64; omega, decide_eq_false (by omega), by omega⟩
theorem ba_eta (r : ByteArray) : (⟨r.data.toList.toArray⟩ : ByteArray) = r := by cases r; simp
theorem split_it (m A SB C : Nat) (z : UInt8) (s : ByteArray) (L : List (List UInt8)) (Kp : World → World → Prop) (S : World → Prop) (W : World) (hL : Gs.parts z [] s.data.toList = L) (hs : s.size ≤ 5000000)
    (hS : ∀ X, S X → X.cell? ⟨A, 0, none⟩ = some (.string ⟨#[z]⟩) ∧ X.cell? ⟨C, 0, none⟩ = some (.int .i64 0)) (hKp : ∀ X Y, Kp X Y → S X → S Y) (hKs : ∀ X Y, Kp X Y → Y.heap[SB]? = X.heap[SB]?) (hTu : ∀ X Y, Turn W.heap.size (fun b => b = SB) X Y → S X → S Y) (hv : S W)
    (hb : W.heap[SB]? = some (.cells #[.string s] 9 (0, 0))) :
    IterAt Fence.wide m Tryz.prog 117 #[.pointer (some ⟨A, 0, none⟩), .pointer (some ⟨SB, 0, none⟩), .pointer (some ⟨C, 0, none⟩)] (fun j => #[.string ⟨(L.getD j []).toArray⟩]) L.length (fun b => b = SB) Kp W := by
  intro l J Jx hJ hJx hY h0
  obtain ⟨c1, c2⟩ := hS W hv
  have b1 : W.cell? ⟨SB, 0, none⟩ = some (.string s) := by simp [World.cell?, hb]
  have bz : W.frozen? ⟨SB, 0, none⟩ = false := frozen_of_row _ _ _ _ _ hb
  obtain ⟨zb, hzb⟩ : ∃ y : ByteArray, (⟨#[z]⟩ : ByteArray) = y := ⟨_, rfl⟩
  have hz1 : (zb.size : Int) = 1 := by rw [← hzb]; rfl
  have KIX := Lib.hid (fun (r : ByteArray) (X : World) => (callsIn_wide (n := m - 1)).2 (Tryz.strings_Index_one r z X))
  rw [hzb] at c1 KIX
  obtain ⟨N, hN⟩ : ∃ y, L.length = y := ⟨_, rfl⟩
  have HN := Lib.hid hN
  have HLL := Lib.hid hL
  have HNP := Lib.hid (show 0 < N by rw [← hN, ← hL]; exact List.length_pos_iff.2 (Gs.parts_ne _ _ _))
  rw [hN] at hY ⊢
  have HV := Lib.hid hv
  have HSS := Lib.hid hS
  have HTU := Lib.hid hTu
  have HKP := Lib.hid hKp
  have HKS := Lib.hid hKs
  have HJ := Lib.hid hJ
  have HJX := Lib.hid hJx
  have HY := Lib.hid hY
  have HJ0 := Lib.hid h0
  have HB := Lib.hid hb
  have HZB := Lib.hid hzb
  clear hN hL hv hS hTu hKp hKs hJ hJx hY h0 hb hzb
  refine callsIn_of_wp Tryz.func117 rfl trivial ?_ rfl
  simp only [Tryz.ntmps117, List.size_toArray, List.length_cons, List.length_nil, Nat.reduceAdd, Nat.reduceSub, Array.replicate_succ, Array.replicate_zero, List.push_toArray, List.append_toArray, List.nil_append, List.cons_append]
  gi_wp2_with fail
  gi_loopw [] (fun wr => ∃ (k : Nat) (r : ByteArray), k < N ∧ Gs.parts z [] r.data.toList = L.drop k ∧ r.size ≤ s.size ∧ wr.heap[SB]? = some (.cells #[.string r] 9 (0, 0)) ∧ J k wr ∧ S wr) (fun wr => lenAt wr SB)
  case atStart => exact ⟨0, s, HNP.out, by rw [HLL.out]; rfl, Nat.le_refl _, HB.out, HJ0.out, HV.out⟩
  case round =>
    obtain ⟨k, r, hk, hr, hrs, hb, hj, hs'⟩ := hrel
    obtain ⟨c1', c2'⟩ := HSS.out wr hs'
    rw [HZB.out] at c1'
    have b1' : wr.cell? ⟨SB, 0, none⟩ = some (.string r) := by simp [World.cell?, hb]
    have bz' : wr.frozen? ⟨SB, 0, none⟩ = false := frozen_of_row _ _ _ _ _ hb
    have hge := Lib.indexByte_ge r.data.toList z
    obtain ⟨i, hi⟩ : ∃ y, Lib.indexByte r.data.toList z = y := ⟨_, rfl⟩
    have KI := KIX.out r wr
    rw [hi] at KI hge
    have KI := Lib.hid KI
    have HJK := Lib.hid hj
    have HSK := Lib.hid hs'
    have HRB := Lib.hid hb
    by_cases h1 : i = -1
    · subst h1
      have hp := parts_last hi
      rw [hr] at hp
      have hlen := congrArg List.length hp
      rw [List.length_drop, HN.out] at hlen
      have HKN := Lib.hid (show k + 1 = N by simp at hlen; omega)
      have hg : L.getD k [] = r.data.toList := by
        have h5 : (L.drop k)[0]? = some r.data.toList := by rw [hp]; rfl
        rw [List.getElem?_drop] at h5
        rw [List.getD_eq_getElem?_getD, show L[k]? = some r.data.toList from h5]; rfl
      obtain ⟨fn, tmps, assign, body, hy, hR⟩ := HY.out k wr hk hj
      rw [hg, ba_eta] at hy
      clear hge hi hr hp hlen hg hb hj hs' hrs
      gi_wp2_with fail
      refine ⟨trivial, (fun h => by cases h), KI.out.mono ?_⟩
      rintro e w2 ⟨rfl, rfl⟩
      gi_wp2_with fail
      refine ⟨(fun h => by cases h), hR.mono ?_⟩
      rintro z2 Y (⟨rfl, hj', _, _⟩ | ⟨rfl, hjx, _⟩)
      · clear hy hR
        gi_wp2
        simp [bodyPost, results, Tryz.results117, go_sem]
        exact .inl (by rw [← HKN.out]; exact hj')
      · clear hy hR
        gi_wp2
        simp [bodyPost, results, Tryz.results117, go_sem]
        exact .inr hjx
    · obtain ⟨o, rfl⟩ : ∃ o : Nat, i = (o : Int) := ⟨i.toNat, by omega⟩
      obtain ⟨ho, hp⟩ := parts_first hi
      have ho2 : o < r.size := by simpa using ho
      have hsl1 := fun W => slice_to r W o (by omega) (by omega)
      have hsl2 := fun W => slice_from1 r W o ho2 (by omega)
      rw [hr] at hp
      have hlen := congrArg List.length hp
      rw [List.length_drop, HN.out, List.length_cons] at hlen
      have hpos := List.length_pos_iff.2 (Gs.parts_ne z (r.data.toList.drop (o + 1)) [])
      have HKN := Lib.hid (show k + 1 < N by omega)
      have hg : L.getD k [] = r.data.toList.take o := by
        have h5 : (L.drop k)[0]? = some (r.data.toList.take o) := by rw [hp]; rfl
        rw [List.getElem?_drop] at h5
        rw [List.getD_eq_getElem?_getD, show L[k]? = some (r.data.toList.take o) from h5]; rfl
      have htl : Gs.parts z [] (r.data.toList.drop (o + 1)) = L.drop (k + 1) := by
        have h6 := congrArg List.tail hp
        rw [List.tail_drop] at h6
        exact h6.symm
      obtain ⟨f, hf⟩ : ∃ y, r.extract 0 o = y := ⟨_, rfl⟩
      obtain ⟨r2, hr2⟩ : ∃ y, r.extract (o + 1) r.size = y := ⟨_, rfl⟩
      have hf2 : (⟨(L.getD k []).toArray⟩ : ByteArray) = f := by rw [hg, ← Lib.extract_from_zero, hf, ba_eta]
      have HR2 := Lib.hid (show Gs.parts z [] r2.data.toList = L.drop (k + 1) by rw [← hr2, Lib.extract_to_end]; exact htl)
      have HSZ := Lib.hid (show r2.size < r.size by rw [← hr2, ByteArray.size_extract]; omega)
      have HSZ2 := Lib.hid hrs
      rw [hf] at hsl1
      rw [hr2] at hsl2
      obtain ⟨fn, tmps, assign, body, hy, hR⟩ := HY.out k wr hk hj
      rw [hf2] at hy
      have HLW := Lib.hid (lenAt_eq b1')
      obtain ⟨hw1, hw2, hn0, hn1⟩ := w64_facts o (by omega)
      clear hge hi hr hp hlen hg hb hj hs' hrs htl hf hr2 hf2 hpos ho
      gi_wp2_with fail
      refine ⟨trivial, (fun h => by cases h), KI.out.mono ?_⟩
      rintro e w2 ⟨rfl, rfl⟩
      gi_wp2_with fail
      refine ⟨(fun h => by cases h), hR.mono ?_⟩
      rintro z2 Y (⟨rfl, hj', hkp, _⟩ | ⟨rfl, hjx, _⟩)
      · have HJ4 := Lib.hid hj'
        have HS4 := Lib.hid (HKP.out _ _ hkp HSK.out)
        have HB4 := Lib.hid ((HKS.out _ _ hkp).trans HRB.out)
        have hb4 := HB4.out
        have b4 : Y.cell? ⟨SB, 0, none⟩ = some (.string r) := by simp [World.cell?, hb4]
        have z4 : Y.frozen? ⟨SB, 0, none⟩ = false := frozen_of_row _ _ _ _ _ hb4
        obtain ⟨d1, d2⟩ := HSS.out Y HS4.out
        rw [HZB.out] at d1
        have hn := heap_setCell_same Y SB 0 _ _ (.string r2) hb4
        have HN4 := Lib.hid (show (Y.setCell ⟨SB, 0, none⟩ (.string r2)).heap[SB]? = some (.cells #[.string r2] 9 (0, 0)) by rw [hn]; simp)
        have hn4 := HN4.out
        have HL4 := Lib.hid (lenAt_eq (show (Y.setCell ⟨SB, 0, none⟩ (.string r2)).cell? ⟨SB, 0, none⟩ = some (.string r2) by simp [World.cell?, hn4]))
        have HT4 := Lib.hid (Turn.setCell (B := W.heap.size) (own := fun b => b = SB) Y SB 0 (.string r2) rfl)
        clear hy hR hj' hkp hb4 hn hn4 b1' bz' c1' c2'
        gi_wp2
        try go_roundw
        case rel => exact ⟨k + 1, r2, HKN.out, HR2.out, Nat.le_trans (Nat.le_of_lt HSZ.out) HSZ2.out, HN4.out, HJ.out _ _ _ HJ4.out HT4.out, HTU.out _ _ HT4.out HS4.out⟩
        case measure => rw [HL4.out, HLW.out]; exact HSZ.out
      · clear hy hR
        gi_wp2
        simp [bodyPost, results, Tryz.results117, go_sem]
        exact .inr hjx
end Go.Proofs.YtbaakfcbakpmpaaGreatDoor

/- script: every. No conditions but those that each law states. -/
namespace Go.Proofs.YtbaakfcbakpmpaaGreatDoor
set_option linter.unusedVariables false
set_option linter.unusedSimpArgs false
open Go.RowKit Go.Shelf
attribute [local go_sem] Oper.semAt_some
set_option maxHeartbeats 8000000
set_option maxRecDepth 100000
/-- does a line say something? -/
def Sc.says (t : List UInt8) : Bool := match t with
  | [] => false
  | c :: _ => c != 35
/-- what a round of every's keeps -/
def KE (E : Nat) (X Y : World) : Prop := ∀ b, E ≤ b → b < E + 5 → b ≠ E + 1 → Y.heap[b]? = X.heap[b]?
theorem KE.refl (E : Nat) (X : World) : KE E X X := fun _ _ _ _ => rfl
theorem KE.trans {E : Nat} {X Y Z : World} (h : KE E X Y) (k : KE E Y Z) : KE E X Z := fun b h1 h2 h3 => (k b h1 h2 h3).trans (h b h1 h2 h3)
/-- the blocks of every's that turn -/
def ownE (E : Nat) (b : Nat) : Prop := b = E + 1 ∨ b = E + 2
theorem dec_index_at0 (u : ByteArray) (w : World) (k : Nat) (h : k < u.size) : (Instr.index 9 (.string u) (.int .i64 (k : Int))).run Tryz.prog w = .ok (.int .u8 ((u[k]).toNat : Int)) w := by
  have h2 : (k : Int) < u.size := by omega
  simp [go_sem, Tryz.underlying9, h2]
theorem turn_belS {B : Nat} {own : Nat → Prop} {X Y : World} (hb : Below X.heap.size X Y) : Turn B own X Y := ⟨hb.os, hb.tape, hb.output, hb.size, fun k hk _ _ => hb.block k hk⟩
theorem sc_every (s : ByteArray) (gf : Nat) (lb : Array Value) (L : List (List UInt8)) (hL : Gs.parts 10 [] s.data.toList = L) (hs : s.size ≤ 50000) (JT : Nat → World → Prop) (JX : World → Prop) (w : World)
    (hJT : ∀ k X Y, JT k X → Turn w.heap.size (ownE w.heap.size) X Y → JT k Y) (hJX : ∀ X Y, JX X → Turn w.heap.size (ownE w.heap.size) X Y → JX Y) (hTab : ∀ k X, JT k X → Tabs X ∧ ML X)
    (eg : ∀ args W, (callFunc gf args).run Tryz.prog W = .ok (.enter gf args) W)
    (hskip : ∀ k X, k < L.length → Sc.says (L.getD k []) = false → JT k X → JT (k + 1) X)
    (htell : ∀ k X0 X u, k < L.length → Sc.says (L.getD k []) = true → JT k X0 → w.heap.size + 5 ≤ X0.heap.size → Below X0.heap.size X0 X → NewV X0.heap.size u → BRow X u (stp (Sc.parse Sc.stepT (L.getD k []))).bytes → (stp (Sc.parse Sc.stepT (L.getD k []))).fine →
      Calls Tryz.prog gf (#[.int .i64 k, stVal (stp (Sc.parse Sc.stepT (L.getD k []))) u, .int .i64 (erS (Sc.parse Sc.stepT (L.getD k [])))] ++ lb) X fun e Y => ((e = .returned (.bool true) ∧ JT (k + 1) Y) ∨ (e = .returned (.bool false) ∧ JX Y)) ∧ KeepsFrom w.heap.size X Y ∧ ∀ b, w.heap.size ≤ b → b < w.heap.size + 5 → Y.heap[b]? = X.heap[b]?)
    (h0 : JT 0 w) :
    Calls Tryz.prog 55 #[.string s, .func (.func gf) #[] lb] w fun e Y => (∃ v, e = .returned v) ∧ (JT L.length Y ∨ JX Y) := by
  obtain ⟨E, hE⟩ : ∃ z, w.heap.size = z := ⟨_, rfl⟩
  obtain ⟨w1, hw1⟩ : ∃ z, (w.alloc (.cells #[.func (.func gf) #[] lb] 111)).alloc (.cells #[.int .i64 0] 3) = z := ⟨_, rfl⟩
  obtain ⟨V, hV⟩ : ∃ z, ((w1.alloc (.cells #[.string s] 9)).alloc (.cells #[.string ⟨#[10]⟩] 9)).alloc (.cells #[.int .i64 0] 3) = z := ⟨_, rfl⟩
  have hb1 : Below w.heap.size w w1 := by rw [← hw1]; exact ((Below.refl _ _).alloc (Nat.le_refl _) _).alloc (by simp) _
  have hz1 : w1.heap.size = E + 2 := by rw [← hw1, ← hE]; simp
  have hbV : Below w1.heap.size w1 V := by rw [← hV]; exact (((Below.refl _ _).alloc (Nat.le_refl _) _).alloc (by simp) _).alloc (by simp; omega) _
  have hzV : V.heap.size = E + 5 := by rw [← hV]; simp [hz1]
  have hTB : V.heap[E]? = some (.cells #[.func (.func gf) #[] lb] 111 (0, 0)) := by
    rw [hbV.block _ (by omega), ← hw1, Below.heap_alloc _ _ _ (by simp [hE]), ← hE]
    exact World.alloc_heap_new _ _
  have hAT : V.heap[E + 1]? = some (.cells #[.int .i64 0] 3 (0, 0)) := by
    rw [hbV.block _ (by omega), ← hw1]
    have h := World.alloc_heap_new (w.alloc (.cells #[.func (.func gf) #[] lb] 111)) (.cells #[.int .i64 0] 3)
    simpa [hE] using h
  have hSB : V.heap[E + 2]? = some (.cells #[.string s] 9 (0, 0)) := by
    rw [← hV, Below.heap_alloc _ _ _ (by simp [hz1]), Below.heap_alloc _ _ _ (by simp [hz1])]
    have h := World.alloc_heap_new w1 (.cells #[.string s] 9)
    rw [hz1] at h; exact h
  have hZB : V.heap[E + 3]? = some (.cells #[.string ⟨#[10]⟩] 9 (0, 0)) := by
    rw [← hV, Below.heap_alloc _ _ _ (by simp [hz1])]
    have h := World.alloc_heap_new (w1.alloc (.cells #[.string s] 9)) (.cells #[.string ⟨#[10]⟩] 9)
    simpa [hz1] using h
  have hCB : V.heap[E + 4]? = some (.cells #[.int .i64 0] 3 (0, 0)) := by
    rw [← hV]
    have h := World.alloc_heap_new ((w1.alloc (.cells #[.string s] 9)).alloc (.cells #[.string ⟨#[10]⟩] 9)) (.cells #[.int .i64 0] 3)
    simpa [hz1] using h
  rw [hE] at hJT hJX htell
  have hTN : Turn E (ownE E) w V := by
    have h := hb1.trans (hbV.mono hb1.size)
    rw [hE] at h
    exact ⟨h.os, h.tape, h.output, h.size, fun k hk _ _ => h.block k (by omega)⟩
  have HV0 := Lib.hid (hJT 0 _ _ h0 hTN)
  obtain ⟨zb, hzb⟩ : ∃ y : ByteArray, (⟨#[10]⟩ : ByteArray) = y := ⟨_, rfl⟩
  have KS := Lib.hid (sc_SplitSeq s zb w1)
  have hlen : ∀ t ∈ L, t.length ≤ 50000 := fun t ht => by
    have := Gs.parts_len 10 s.data.toList [] t (by rw [hL]; exact ht)
    have hsz : s.data.toList.length = s.size := by simp
    simp only [List.length_nil] at this
    omega
  rw [← hzb] at KS
  rw [hV, hz1] at KS
  rw [hzb] at KS
  have HLEN := Lib.hid hlen
  have HL := Lib.hid hL
  have HJT := Lib.hid hJT
  have HJX := Lib.hid hJX
  have HTAB := Lib.hid hTab
  have HSKIP := Lib.hid hskip
  have HTELL := Lib.hid htell
  have HEE := Lib.hid hE
  have HW1 := Lib.hid hw1
  have HZV := Lib.hid hzV
  have HTB := Lib.hid hTB
  have HAT := Lib.hid hAT
  have HSB := Lib.hid hSB
  have HZB := Lib.hid hZB
  have HCB := Lib.hid hCB
  have HZZ := Lib.hid hzb
  clear hlen hL hJT hJX hTab hskip htell hE hw1 hzV hTB hAT hSB hZB hCB hTN hb1 hbV hV h0 hz1
  refine callsIn_wide.1 (callsIn_of_wp_marks (F := Fence.wide) (n := 9) Tryz.func55 rfl trivial ?_ rfl)
  simp only [Tryz.ntmps55, List.size_toArray, List.length_cons, List.length_nil, Nat.reduceAdd, Nat.reduceSub, Array.replicate_succ, Array.replicate_zero, List.push_toArray, List.append_toArray, List.nil_append, List.cons_append]
  refine wpIn_wide.2 ?_
  go_wp2_with fail
  rw [HW1.out, HEE.out]
  refine KS.out.mono ?_
  rintro e wx ⟨rfl, hwx⟩
  subst wx
  go_wp2_with fail
  refine (wpIn_wide (n := 9)).1 ?_
  have hVz : V.heap.size = E + 5 := HZV.out
  refine rf_outerE (N := L.length) (own := fun b => b = E + 2) (Kp := KE E) (encs := fun j => #[.string ⟨(L.getD j []).toArray⟩]) rfl (by omega) (gf := 117) (lb := #[.pointer (some ⟨E + 3, 0, none⟩), .pointer (some ⟨E + 2, 0, none⟩), .pointer (some ⟨E + 4, 0, none⟩)]) rfl trivial (enters_of Tryz.func117 (by kernel_rfl) rfl)
    (fun _ => rfl) (fun b hb => by subst hb; omega) ?iter KE.trans (fun X o o' h2 h3 b h1 h4 h5 => World.putObj_heap_other (by omega))
    (fun k X => JT k X ∧ E + 5 ≤ X.heap.size ∧ (∀ b, b = E ∨ b = E + 3 ∨ b = E + 4 → X.heap[b]? = V.heap[b]?) ∧ X.heap[E + 1]? = some (.cells #[.int .i64 (k : Int)] 3 (0, 0))) (fun c X => c = .ret ∧ JX X)
    (fun k X Y hs ht => by
      obtain ⟨h1, h2, h3, h4⟩ := hs
      refine ⟨HJT.out k X Y h1 (ht.mono (by omega) (fun b hb => .inr hb)), Nat.le_trans h2 ht.size, fun b hb => ?_, (ht.block (E + 1) (by omega) (by omega) (by omega)).trans h4⟩
      exact (ht.block b (by omega) (by omega) (by omega)).trans (h3 b hb))
    (fun c X Y hs ht => ⟨hs.1, HJX.out X Y hs.2 (ht.mono (by omega) (fun b hb => .inr hb))⟩)
    ⟨HV0.out, by omega, fun _ _ => rfl, HAT.out⟩ ?E
  case iter =>
    intro X hX hsz
    have h := split_it (9 - 1) (E + 3) (E + 2) (E + 4) 10 s L (KE E) (fun Y => E + 5 ≤ Y.heap.size ∧ Y.heap[E + 3]? = V.heap[E + 3]? ∧ Y.heap[E + 4]? = V.heap[E + 4]?) X HL.out (by omega)
      (fun Y hY => ⟨(by have h := hY.2.1.trans HZB.out; simp [World.cell?, h]), (by have h := hY.2.2.trans HCB.out; simp [World.cell?, h])⟩)
      (fun Y Z hk hy => ⟨by
        have := (Array.getElem?_eq_some_iff.1 ((hk (E + 4) (by omega) (by omega) (by omega)).trans (hy.2.2.trans HCB.out))).1
        omega, (hk (E + 3) (by omega) (by omega) (by omega)).trans hy.2.1, (hk (E + 4) (by omega) (by omega) (by omega)).trans hy.2.2⟩)
      (fun Y Z hk => hk (E + 2) (by omega) (by omega) (by omega))
      (fun Y Z ht hy => ⟨Nat.le_trans hy.1 ht.size, (ht.block (E + 3) (by omega) (by omega) (by omega)).trans hy.2.1, (ht.block (E + 4) (by omega) (by omega) (by omega)).trans hy.2.2⟩)
      ⟨by omega, hX.block _ (by omega), hX.block _ (by omega)⟩ ((hX.block _ (by omega)).trans HSB.out)
    exact h
  case E =>
    apply Exists.intro
    refine ⟨?asg, ?bod, ?don, ?stp⟩
    case asg =>
      intro l' k X K hk hi hK
      have HKK := Lib.hid hK
      clear hK hk
      gi_wp2
      exact HKK.out _ (KeepsFrom.refl _ _) (KE.refl _ _) hi
    case stp =>
      rintro D c X hD ⟨rfl, hx⟩ hKD
      have HX := Lib.hid hx
      have HKD := Lib.hid (show X.heap[D]? = some (.deferred (some [])) from hKD)
      clear hx hKD
      gi_wp2
      refine ⟨by simp, .inl ⟨_, _, rfl, run_takeDeferred HKD.out, ?_⟩⟩
      refine ⟨.tuple #[], ?_, ⟨_, rfl⟩, .inr (HJX.out _ _ HX.out (.putObj _ (by omega) HKD.out rfl))⟩
      simp [results, Tryz.results55, go_sem]
    case bod =>
      rintro l' k X hl' ⟨r, hr⟩ hk ⟨hj, hsz, hold, hat⟩
      obtain ⟨t, ht⟩ : ∃ z, L.getD k [] = z := ⟨_, rfl⟩
      have HTELL2 := Lib.hid (HTELL.out k)
      have HSKIP2 := Lib.hid (HSKIP.out k)
      rw [ht] at HTELL2 HSKIP2
      rw [← List.getD_eq_getElem?_getD, ht]
      have htl : t.length ≤ 50000 := by
        rw [← ht, List.getD_eq_getElem?_getD, List.getElem?_eq_getElem hk]
        exact HLEN.out _ (List.getElem_mem hk)
      have cA : X.cell? ⟨E + 1, 0, none⟩ = some (.int .i64 (k : Int)) := by simp [World.cell?, hat]
      have zA : X.frozen? ⟨E + 1, 0, none⟩ = false := frozen_of_row _ _ _ _ _ hat
      have cT : X.cell? ⟨E, 0, none⟩ = some (.func (.func gf) #[] lb) := by
        have h := (hold E (.inl rfl)).trans HTB.out
        simp [World.cell?, h]
      have HOLD := Lib.hid hold
      have HAT2 := Lib.hid hat
      have HJ := Lib.hid hj
      have HSZ := Lib.hid hsz
      have HK := Lib.hid hk
      clear hold hat hj ht
      have hkl : k ≤ 50001 := by
        have h1 := Gs.parts_many 10 s.data.toList []
        have h2 : s.data.toList.length = s.size := by simp
        rw [HL.out] at h1
        have h3 := HK.out
        omega
      have hwk : wrap64 ((k : Int) + 1) = ((k + 1 : Nat) : Int) := by unfold wrap64; omega
      have FIN := Lib.hid (show ∀ Y, JT (k + 1) Y → KeepsFrom V.heap.size X Y → KE E X Y → Y.heap[E + 1]? = some (.cells #[.int .i64 (k : Int)] 3 (0, 0)) →
          KeepsFrom V.heap.size X (Y.setCell ⟨E + 1, 0, none⟩ (.int .i64 ((k + 1 : Nat) : Int))) ∧ KE E X (Y.setCell ⟨E + 1, 0, none⟩ (.int .i64 ((k + 1 : Nat) : Int))) ∧ JT (k + 1) (Y.setCell ⟨E + 1, 0, none⟩ (.int .i64 ((k + 1 : Nat) : Int))) ∧ E + 5 ≤ (Y.setCell ⟨E + 1, 0, none⟩ (.int .i64 ((k + 1 : Nat) : Int))).heap.size ∧ (∀ b, b = E ∨ b = E + 3 ∨ b = E + 4 → (Y.setCell ⟨E + 1, 0, none⟩ (.int .i64 ((k + 1 : Nat) : Int))).heap[b]? = V.heap[b]?) ∧ (Y.setCell ⟨E + 1, 0, none⟩ (.int .i64 ((k + 1 : Nat) : Int))).heap[E + 1]? = some (.cells #[.int .i64 ((k + 1 : Nat) : Int)] 3 (0, 0)) from by
        intro Y h1 h2 h3 h4
        have hn := fun b (hb : b ≠ E + 1) => Below.heap_setCell Y ⟨E + 1, 0, none⟩ (.int .i64 ((k + 1 : Nat) : Int)) b (by show b ≠ E + 1; exact hb)
        refine ⟨⟨by simpa using h2.size, fun b o hB hb hc => (hn b (by omega)).trans (h2.same b o hB hb hc)⟩, fun b a1 a2 a3 => (hn b a3).trans (h3 b a1 a2 a3), HJT.out _ _ _ h1 (.setCell _ _ _ _ (.inl rfl)), by have := HSZ.out; have := h2.size; simp; omega, fun b hb => (hn b (by omega)).trans ((h3 b (by omega) (by omega) (by omega)).trans (HOLD.out b hb)), ?_⟩
        rw [heap_setCell_same Y (E + 1) 0 _ _ _ h4]; simp)
      cases t with
      | nil =>
        gi_wp2_with fail
        rw [show ((k : Int) + 1) = ((k + 1 : Nat) : Int) from by omega]
        exact FIN.out X (HSKIP2.out X HK.out rfl HJ.out) (KeepsFrom.refl _ _) (KE.refl _ _) HAT2.out
      | cons c t2 =>
        obtain ⟨tb, htb⟩ : ∃ z : ByteArray, (⟨(c :: t2).toArray⟩ : ByteArray) = z := ⟨_, rfl⟩
        have hd : tb.data.toList = c :: t2 := by rw [← htb]
        have hsz0 : tb.size = t2.length + 1 := by rw [← htb]; rfl
        have hemp : tb.toList.isEmpty = false := by rw [ByteArray.toList_eq, hd]; rfl
        have hix : ∀ W, (Instr.index 9 (.string tb) (.int .i64 0)).run Tryz.prog W = .ok (.int .u8 (c.toNat : Int)) W := fun W => by
          have h0 : 0 < tb.size := by omega
          have h1 := dec_index_at0 tb W 0 h0
          have h2 : tb[0] = c := by
            have : tb.data.toList[0]? = some c := by rw [hd]; rfl
            have h3 : tb.data[0]? = some c := by rw [← Array.getElem?_toList]; exact this
            obtain ⟨h4, h5⟩ := Array.getElem?_eq_some_iff.1 h3
            exact h5
          rw [h2] at h1
          exact h1
        rw [htb]
        by_cases h35 : c = 35
        · have hc : ((c.toNat : Int) != 35) = false := by rw [h35]; decide
          have hsay : Sc.says (c :: t2) = false := by rw [h35]; rfl
          gi_wp2_with fail
          rw [show ((k : Int) + 1) = ((k + 1 : Nat) : Int) from by omega]
          exact FIN.out X (HSKIP2.out X HK.out hsay HJ.out) (KeepsFrom.refl _ _) (KE.refl _ _) HAT2.out
        · have hc : ((c.toNat : Int) != 35) = true := by
            have : c.toNat ≠ 35 := fun e => h35 (UInt8.toNat_inj.1 e)
            simp; omega
          have HSAY := Lib.hid (show Sc.says (c :: t2) = true from by show (c != 35) = true; simp [h35])
          obtain ⟨TA, MA⟩ := HTAB.out k X HJ.out
          have KP := sc_Parse tb X (by simp only [List.length_cons] at htl; omega) TA MA
          rw [hd] at KP
          obtain ⟨y, hy⟩ : ∃ z, stp (Sc.parse Sc.stepT (c :: t2)) = z := ⟨_, rfl⟩
          obtain ⟨er, her⟩ : ∃ z, erS (Sc.parse Sc.stepT (c :: t2)) = z := ⟨_, rfl⟩
          rw [hy, her] at KP
          have HT3 := HTELL2.out
          rw [hy, her] at HT3
          have HT3 := Lib.hid HT3
          have KP := Lib.hid KP
          clear hd hy her TA MA htb h35 htl hsz0
          gi_wp2_with fail
          refine ⟨trivial, ((callsIn_wide (n := 6)).2 KP.out).mono ?_⟩
          rintro e Y ⟨u, rfl, hu, hnu, hf, hb⟩
          obtain ⟨p, n, ca, rfl⟩ := hu.sl
          obtain ⟨W2, hW2⟩ : ∃ z, Y.alloc (.cells #[.int .i64 y.kind, .int .u64 (y.conn : Int), .int .i64 y.topic, .int .u64 (y.n : Int), .int .u64 (y.draw : Int), .slice p n ca] 26) = z := ⟨_, rfl⟩
          have hb2 : Below X.heap.size X W2 := by rw [← hW2]; exact hb.alloc hb.size _
          have hx : W2.heap[Y.heap.size]? = some (.cells #[.int .i64 y.kind, .int .u64 (y.conn : Int), .int .i64 y.topic, .int .u64 (y.n : Int), .int .u64 (y.draw : Int), .slice p n ca] 26 (0, 0)) := by rw [← hW2]; exact World.alloc_heap_new _ _
          have cA2 : W2.cell? ⟨E + 1, 0, none⟩ = some (.int .i64 (k : Int)) := (hb2.cell (p := ⟨E + 1, 0, none⟩) (lt_of_cell cA)).trans cA
          have cT2 : W2.cell? ⟨E, 0, none⟩ = some (.func (.func gf) #[] lb) := (hb2.cell (p := ⟨E, 0, none⟩) (lt_of_cell cT)).trans cT
          obtain ⟨g, hg⟩ : ∃ z, Y.heap.size = z := ⟨_, rfl⟩
          rw [hg] at hx
          have x0 : W2.cell? ⟨g, 0, none⟩ = some (.int .i64 y.kind) := by simp [World.cell?, hx]
          have x1 : W2.cell? ⟨g, 1, none⟩ = some (.int .u64 (y.conn : Int)) := by simp [World.cell?, hx]
          have x2 : W2.cell? ⟨g, 2, none⟩ = some (.int .i64 y.topic) := by simp [World.cell?, hx]
          have x3 : W2.cell? ⟨g, 3, none⟩ = some (.int .u64 (y.n : Int)) := by simp [World.cell?, hx]
          have x4 : W2.cell? ⟨g, 4, none⟩ = some (.int .u64 (y.draw : Int)) := by simp [World.cell?, hx]
          have x5 : W2.cell? ⟨g, 5, none⟩ = some (.slice p n ca) := by simp [World.cell?, hx]
          have KT := HT3.out X W2 (.slice p n ca) HK.out HSAY.out HJ.out HSZ.out hb2 hnu (by rw [← hW2]; exact hu.below (Below.alloc (Below.refl _ _) (Nat.le_refl _) _)) hf
          unfold stVal at KT
          have KT := Lib.hid KT
          have HB2 := Lib.hid hb2
          have HW2 := Lib.hid hW2
          have HG := Lib.hid hg
          unfold stVal
          rw [← hW2, ← hg] at x0 x1 x2 x3 x4 x5
          rw [← hW2] at cA2 cT2
          clear hb hb2 hx hg hu hnu hf KP cA cT zA
          clear hW2
          gi_wp2_with fail
          rw [HW2.out]
          refine ⟨trivial, ((callsIn_wide (n := 6)).2 KT.out).mono ?_⟩
          rintro e Z ⟨h, hkf, hkb⟩
          have hkf2 : KeepsFrom V.heap.size X Z := ⟨Nat.le_trans HB2.out.size hkf.size, fun b o hB hb hc => hkf.same b o (by omega) ((HB2.out.block b (Array.getElem?_eq_some_iff.1 hb).1).trans hb) hc⟩
          have hke : ∀ b, E ≤ b → b < E + 5 → Z.heap[b]? = X.heap[b]? := fun b h1 h2 => (hkb b h1 h2).trans (HB2.out.block b (by have := HSZ.out; omega))
          have hatZ := (hke (E + 1) (by omega) (by omega)).trans HAT2.out
          have cA4 : Z.cell? ⟨E + 1, 0, none⟩ = some (.int .i64 (k : Int)) := by simp [World.cell?, hatZ]
          have zA4 : Z.frozen? ⟨E + 1, 0, none⟩ = false := frozen_of_row _ _ _ _ _ hatZ
          have HKF := Lib.hid hkf2
          have HKE := Lib.hid (show KE E X Z from fun b h1 h2 _ => hke b h1 h2)
          have HAZ := Lib.hid hatZ
          clear hkf hkb hkf2 hke hatZ x0 x1 x2 x3 x4 x5 cA2 cT2
          rcases h with ⟨rfl, hj⟩ | ⟨rfl, hx⟩
          · have HJZ := Lib.hid hj
            clear hj
            gi_wp2_with fail
            rw [show ((k : Int) + 1) = ((k + 1 : Nat) : Int) from by omega]
            exact FIN.out Z HJZ.out HKF.out HKE.out HAZ.out
          · have HXZ := Lib.hid hx
            clear hx
            gi_wp2_with fail
            exact ⟨HKF.out, rfl, HXZ.out⟩
    case don =>
      rintro D X hD ⟨hj, hsz, hold, hat⟩ hKD
      have HJ := Lib.hid hj
      have HKD := Lib.hid (show X.heap[D]? = some (.deferred (some [])) from hKD)
      clear hj hKD hold hat
      first | go_wp2_with fail | skip
      refine ⟨by simp, .inl ⟨_, _, rfl, run_takeDeferred HKD.out, ?_⟩⟩
      refine ⟨.tuple #[], ?_, ⟨_, rfl⟩, .inl (HJT.out _ _ _ HJ.out (.putObj _ (by omega) HKD.out rfl))⟩
      simp [results, Tryz.results55, go_sem]
end Go.Proofs.YtbaakfcbakpmpaaGreatDoor

/- script: what Read does with a line's step. No conditions but those that each law states. -/
namespace Go.Proofs.YtbaakfcbakpmpaaGreatDoor
set_option linter.unusedVariables false
set_option linter.unusedSimpArgs false
open Go.RowKit Go.Shelf
set_option maxHeartbeats 8000000
set_option maxRecDepth 100000
theorem run_append_blk {P : Program} {w : World} (base : Nat) (t ty e : TypeId) (i : TypeInfo) (z : Value) (size bytes : Nat) (ht : P.underlying t = some (.slice e)) (hi : P.info? e = some i) (hz : i.zero = some z)
    (hsize : i.size = size) (hby : i.bytes = bytes) (hzs : z.cells.size = size) (hsz : 0 < size) (v : Value) (n : Nat) (xs : List Value) (hown : w.ownsRow base e size v n xs)
    (a : Addr) (m c : Nat) (news : List Value) (hl : news.length = m * size) (hnews : ∀ j u, news[j]? = some u → w.cell? (a.add j) = some u) (h1 : ∀ u ∈ news, u.oneCell' = true)
    (h63 : n + m ≤ maxLen) (hbytes : (n + m) * bytes ≤ 140737488355328) (hbase : base ≤ w.heap.size) :
    ∃ v' w', (Builtin.append_ #[t, t] ty #[v, .slice (some a) m c]).run P w = .ok v' w' ∧ w'.ownsRow base e size v' (n + m) (xs ++ news) ∧ w.grownBy w' v.ownBlock ∧ (v'.ownBlock = v.ownBlock ∨ v'.ownBlock = some w.heap.size) := by
  obtain ⟨v', w', hr, h2, h3, h4⟩ := run_append_own (P := P) w base t ty e i z size bytes ht hi hz hsize hby hzs hsz v n xs hown a m c news hl hnews h1 h63 hbytes hbase
  refine ⟨v', w', hr, h2, h3, ?_⟩
  subst hsize
  subst hby
  have hsm : n + m ≤ 9223372036854775807 := by simp only [maxLen] at h63; omega
  have hcopy := hown
  rcases hcopy.2 with ⟨rfl, rfl⟩ | ⟨g, cap, cur, rfl, hbg, hg, hnc, hcm, hcs, htake⟩
  · by_cases hm : m = 0
    · subst hm
      have := h4.2 ⟨rfl, rfl⟩
      subst this
      exact .inl rfl
    · have h5 := run_append_nil (P := P) w t ty e i z ht hi hz a m c news hl hnews (by omega) (by omega) (by have hb := hbytes; simp only [Nat.zero_add] at hb; omega)
      rw [hr] at h5
      cases h5
      exact .inr rfl
  · by_cases hroom : n + m ≤ cap
    · have h5 := run_append_room (P := P) w t ty e i ht hi g n cap cur hg a m c news hl hnews h1 hroom (by rw [hl, hcs, ← Nat.add_mul]; exact Nat.mul_le_mul_right _ hroom)
      rw [hr] at h5
      cases h5
      exact .inl rfl
    · have h5 := run_append_grow (P := P) w t ty e i z ht hi hz ⟨g, 0, none⟩ n cap xs hown.1 (hown.cells (g := g) rfl) a m c news hl hnews (by omega) (by omega) (growslice_fits (by omega) hbytes)
      rw [hr] at h5
      cases h5
      exact .inr rfl
theorem wpList_append_blk {P : Program} {w : World} {ops : Array Oper} {rest : List Oper} {o : Oper} {a : Act} {Q : Exit → Act → World → Prop} (hgd : o.guard = none) (s x : Operand) (t : TypeId)
    (ho : o.op = .call { callee := .builtin .append, args := #[s, x], argTypes := #[t, t] })
    (base : Nat) (e : TypeId) (i : TypeInfo) (z : Value) (size bytes : Nat) (ht : P.underlying t = some (.slice e)) (hi : P.info? e = some i) (hz : i.zero = some z)
    (hsize : i.size = size) (hby : i.bytes = bytes) (hzs : z.cells.size = size) (hsz : 0 < size)
    (v : Value) (n : Nat) (xs : List Value) (hs : a.eval s = v) (hown : w.ownsRow base e size v n xs)
    (ad : Addr) (m c : Nat) (news : List Value) (hx : a.eval x = .slice (some ad) m c) (hl : news.length = m * size) (hnews : ∀ j u, news[j]? = some u → w.cell? (ad.add j) = some u) (h1 : ∀ u ∈ news, u.oneCell' = true)
    (h63 : n + m ≤ maxLen) (hbytes : (n + m) * bytes ≤ 140737488355328) (hbase : base ≤ w.heap.size)
    (h : ∀ v' w', w'.ownsRow base e size v' (n + m) (xs ++ news) → w.grownBy w' v.ownBlock → (v'.ownBlock = v.ownBlock ∨ v'.ownBlock = some w.heap.size) → wpList P ops Q rest (a.put o.dst v') w') : wpList P ops Q (o :: rest) a w := by
  obtain ⟨v', w', hr, h2, h3, h4⟩ := run_append_blk (P := P) (w := w) base t o.type e i z size bytes ht hi hz hsize hby hzs hsz v n xs hown ad m c news hl hnews h1 h63 hbytes hbase
  refine wpList_plain hgd fun K hK' => ?_
  unfold Oper.wp execOp
  simp only [ho, resolve, invoke, builtin, Sem.run_bind, Sem.run_pure, Result.andThen_ok, List.map_toArray, List.map_cons, List.map_nil, hs, hx, hr]
  exact hK' _ _ (h v' w' h2 h3 h4)
/-- a step's cells -/
def stC (q : Sc.St × Value) : List Value := [.int .i64 q.1.kind, .int .u64 (q.1.conn : Int), .int .i64 q.1.topic, .int .u64 (q.1.n : Int), .int .u64 (q.1.draw : Int), q.2]
def stCs (ps : List (Sc.St × Value)) : List Value := ps.flatMap stC
theorem stCs_snoc (ps : List (Sc.St × Value)) (q : Sc.St × Value) : stCs (ps ++ [q]) = stCs ps ++ stC q := by unfold stCs; rw [List.flatMap_append]; simp
theorem stCs_len (ps : List (Sc.St × Value)) : (stCs ps).length = ps.length * 6 := by
  induction ps with
  | nil => rfl
  | cons q ps ih => show (stC q ++ stCs ps).length = _; rw [List.length_append, ih]; simp [stC]; omega
/-- what a step's error is, when so many stand already -/
def rdE (er : Int) (n : Nat) : Int := if er = 0 then (if n = 4096 then 3 else 0) else er
theorem own_slS {w : World} {B : Nat} {e : TypeId} {s : Nat} {v : Value} {n : Nat} {xs : List Value} (h : w.ownsRow B e s v n xs) : ∃ p c, v = .slice p n c := by
  rcases h.2 with ⟨rfl, h0⟩ | ⟨g, cap, cur, rfl, _⟩
  · exact ⟨none, 0, by rw [h0]⟩
  · exact ⟨_, _, rfl⟩
theorem own_belS {w w' : World} {base : Nat} {e : TypeId} {size : Nat} {v : Value} {n : Nat} {xs : List Value} (h : w.ownsRow base e size v n xs) (k : Below w.heap.size w w') : w'.ownsRow base e size v n xs := by
  refine ⟨h.1, h.2.imp id ?_⟩
  rintro ⟨g, cap, cur, h1, h2, h3, h4⟩
  refine ⟨g, cap, cur, h1, h2, (k.block g ?_).trans h3, h4⟩
  rcases Nat.lt_or_ge g w.heap.size with h' | h'
  · exact h'
  · rw [Array.getElem?_eq_none h'] at h3; simp at h3
theorem own_cellsS {w : World} {B : Nat} {e : TypeId} {s : Nat} {v : Value} {n : Nat} {xs : List Value} (h : w.ownsRow B e s v n xs) {k : Nat} {cs : Array Value} {t : TypeId} {fr : Nat × Nat} (ht : t ≠ e) (hk : w.heap[k]? = some (.cells cs t fr)) : some k ≠ v.ownBlock := by
  rcases h.2 with ⟨rfl, _⟩ | ⟨g, cap, cur, rfl, _, hg, _⟩
  · simp [Value.ownBlock]
  · intro e2
    have : k = g := by simpa [Value.ownBlock] using e2
    subst this
    rw [hk] at hg
    cases hg
    exact ht rfl
theorem sc_Read1 (B E k n : Nat) (er o1 o2 : Int) (y : Sc.St) (u lv : Value) (ps : List (Sc.St × Value)) (X : World) (hBE : B + 3 ≤ E) (hX : E + 5 ≤ X.heap.size) (hn : ps.length = n) (hn2 : n ≤ 4096) (hu : isSl u)
    (h0 : X.heap[B]? = some (.cells #[lv] 53 (0, 0))) (h1 : X.heap[B + 1]? = some (.cells #[.int .i64 o1] 3 (0, 0))) (h2 : X.heap[B + 2]? = some (.cells #[.int .i64 o2] 31 (0, 0)))
    (hr : X.ownsRow (E + 5) 26 6 lv n (stCs ps)) :
    Calls Tryz.prog 56 #[.int .i64 k, stVal y u, .int .i64 er, .pointer (some ⟨B + 1, 0, none⟩), .pointer (some ⟨B + 2, 0, none⟩), .pointer (some ⟨B, 0, none⟩)] X fun e Y => e = .returned (.bool (rdE er n == 0)) ∧ Below B X Y ∧
      (∀ b, b < X.heap.size → b ≠ B → b ≠ B + 1 → b ≠ B + 2 → lv.ownBlock ≠ some b → Y.heap[b]? = X.heap[b]?) ∧ ∃ lv', Y.heap[B]? = some (.cells #[lv'] 53 (0, 0)) ∧ Y.heap[B + 1]? = some (.cells #[.int .i64 (k : Int)] 3 (0, 0)) ∧ Y.heap[B + 2]? = some (.cells #[.int .i64 (rdE er n)] 31 (0, 0)) ∧
        Y.ownsRow (E + 5) 26 6 lv' (n + 1) (stCs (ps ++ [(y, u)])) ∧ (lv'.ownBlock = lv.ownBlock ∨ ∃ g, lv'.ownBlock = some g ∧ X.heap.size ≤ g) := by
  obtain ⟨i0, hi, hz0, hz1, hz2⟩ := info_parts (show (Tryz.prog.info? 26).map (fun i => (i.zero, i.size, i.bytes)) = some (some (.agg #[.int .i64 0, .int .u64 0, .int .i64 0, .int .u64 0, .int .u64 0, .slice none 0 0]), 6, 64) by kernel_rfl)
  obtain ⟨up, un, uc, rfl⟩ := hu
  obtain ⟨p, c, rfl⟩ := own_slS hr
  have hlt := (Array.getElem?_eq_some_iff.1 h2).1
  obtain ⟨G, hG⟩ : ∃ z, X.heap.size = z := ⟨_, rfl⟩
  obtain ⟨X1, hX1⟩ : ∃ z, X.alloc (.cells #[.int .i64 y.kind, .int .u64 (y.conn : Int), .int .i64 y.topic, .int .u64 (y.n : Int), .int .u64 (y.draw : Int), .slice up un uc] 26) = z := ⟨_, rfl⟩
  have hb1 : Below X.heap.size X X1 := by rw [← hX1]; exact (Below.refl _ _).alloc (Nat.le_refl _) _
  have hs1 : X1.heap.size = G + 1 := by rw [← hX1, ← hG]; simp
  have hg1 : X1.heap[G]? = some (.cells #[.int .i64 y.kind, .int .u64 (y.conn : Int), .int .i64 y.topic, .int .u64 (y.n : Int), .int .u64 (y.draw : Int), .slice up un uc] 26 (0, 0)) := by rw [← hX1, ← hG]; exact World.alloc_heap_new _ _
  have h01 := (hb1.block B (by omega)).trans h0
  have h11 := (hb1.block (B + 1) (by omega)).trans h1
  have h21 := (hb1.block (B + 2) (by omega)).trans h2
  have hr1 := own_belS hr hb1
  -- the two stores
  obtain ⟨X2, hX2⟩ : ∃ z, X1.setCell ⟨B + 1, 0, none⟩ (.int .i64 (k : Int)) = z := ⟨_, rfl⟩
  obtain ⟨X3, hX3⟩ : ∃ z, X2.setCell ⟨B + 2, 0, none⟩ (.int .i64 er) = z := ⟨_, rfl⟩
  have hs2 : X2.heap.size = G + 1 := by rw [← hX2, ← hs1]; simp
  have hs3 : X3.heap.size = G + 1 := by rw [← hX3, ← hs2]; simp
  have o2' : ∀ b, b ≠ B + 1 → X2.heap[b]? = X1.heap[b]? := fun b hb => by rw [← hX2]; exact Below.heap_setCell _ _ _ _ (by show b ≠ B + 1; exact hb)
  have o3' : ∀ b, b ≠ B + 2 → X3.heap[b]? = X2.heap[b]? := fun b hb => by rw [← hX3]; exact Below.heap_setCell _ _ _ _ (by show b ≠ B + 2; exact hb)
  have h22 := (o2' (B + 2) (by omega)).trans h21
  have h12 : X2.heap[B + 1]? = some (.cells #[.int .i64 (k : Int)] 3 (0, 0)) := by rw [← hX2, heap_setCell_same X1 (B + 1) 0 _ _ _ h11]; simp
  have h13 := (o3' (B + 1) (by omega)).trans h12
  have h23 : X3.heap[B + 2]? = some (.cells #[.int .i64 er] 31 (0, 0)) := by rw [← hX3, heap_setCell_same X2 (B + 2) 0 _ _ _ h22]; simp
  have h03 := (o3' B (by omega)).trans ((o2' B (by omega)).trans h01)
  have hg3 := (o3' G (by omega)).trans ((o2' G (by omega)).trans hg1)
  have hne := own_cellsS hr1 (by decide : (3 : TypeId) ≠ 26) h11
  have hr2 : X2.ownsRow (E + 5) 26 6 (.slice p n c) n (stCs ps) := by rw [← hX2]; exact hr1.kept (grownBy_setCell' X1 (B + 1) _) (.inr hne.symm)
  have hne2 := own_cellsS hr2 (by decide : (31 : TypeId) ≠ 26) h22
  have hr3 : X3.ownsRow (E + 5) 26 6 (.slice p n c) n (stCs ps) := by rw [← hX3]; exact hr2.kept (grownBy_setCell' X2 (B + 2) _) (.inr hne2.symm)
  have HB3 := Lib.hid (show Below B X X3 by rw [← hX3, ← hX2]; exact ((hb1.mono (by omega)).setCell (p := ⟨B + 1, 0, none⟩) (by show B ≤ B + 1; omega) _).setCell (p := ⟨B + 2, 0, none⟩) (by show B ≤ B + 2; omega) _)
  have HO3 := Lib.hid (show ∀ b, b < X.heap.size → b ≠ B + 1 → b ≠ B + 2 → X3.heap[b]? = X.heap[b]? from fun b a1 a2 a3 => (o3' b a3).trans ((o2' b a2).trans (hb1.block b a1)))
  have c11 : X1.cell? ⟨B + 1, 0, none⟩ = some (.int .i64 o1) := by simp [World.cell?, h11]
  have z11 : X1.frozen? ⟨B + 1, 0, none⟩ = false := frozen_of_row _ _ _ _ _ h11
  have c22 : X2.cell? ⟨B + 2, 0, none⟩ = some (.int .i64 o2) := by simp [World.cell?, h22]
  have z22 : X2.frozen? ⟨B + 2, 0, none⟩ = false := frozen_of_row _ _ _ _ _ h22
  rw [← hX2] at c22 z22
  have c03 : X3.cell? ⟨B, 0, none⟩ = some (.slice p n c) := by simp [World.cell?, h03]
  have c23 : X3.cell? ⟨B + 2, 0, none⟩ = some (.int .i64 er) := by simp [World.cell?, h23]
  have z23 : X3.frozen? ⟨B + 2, 0, none⟩ = false := frozen_of_row _ _ _ _ _ h23
  have HX1 := Lib.hid hX1
  have HX2 := Lib.hid hX2
  have HX3 := Lib.hid hX3
  have HR3 := Lib.hid hr3
  have HN := Lib.hid hn
  have HG := Lib.hid hG
  have H03 := Lib.hid h03
  have H13 := Lib.hid h13
  have H23 := Lib.hid h23
  have HG3 := Lib.hid hg3
  have HS3 := Lib.hid hs3
  clear h0 h1 h2 hr hn hG hX1 hX2 hX3 hb1 hs1 hg1 h01 h11 h21 hr1 hs2 hs3 o2' o3' h22 h12 h13 h23 h03 hg3 hne hr2 hne2 hr3
  unfold stVal
  go_enter Tryz.func56, Tryz.ntmps56
  go_upto_region 1 with (fail)
  rw [HX1.out, HG.out]
  go_upto_region 2 with (fail)
  rw [HX2.out, HX3.out]
  clear c11 z11 c22 z22
  have APP := Lib.hid (show ∀ (X4 W5 : World) (r : Int) (v' : Value), X4.heap.size = G + 1 → Below B X X4 → (∀ b, b < X.heap.size → b ≠ B + 1 → b ≠ B + 2 → X4.heap[b]? = X.heap[b]?) → X4.heap[B]? = some (.cells #[.slice p n c] 53 (0, 0)) → X4.heap[B + 1]? = some (.cells #[.int .i64 (k : Int)] 3 (0, 0)) → X4.heap[B + 2]? = some (.cells #[.int .i64 r] 31 (0, 0)) → X4.ownsRow (E + 5) 26 6 (.slice p n c) n (stCs ps) →
      W5.ownsRow (E + 5) 26 6 v' (n + 1) (stCs ps ++ stC (y, .slice up un uc)) → (X4.alloc (.cells (stC (y, .slice up un uc)).toArray 26)).grownBy W5 (Value.slice p n c).ownBlock → (v'.ownBlock = (Value.slice p n c).ownBlock ∨ v'.ownBlock = some (X4.heap.size + 1)) →
      W5.heap[B]? = some (.cells #[.slice p n c] 53 (0, 0)) ∧ (W5.setCell ⟨B, 0, none⟩ v').heap[B + 2]? = some (.cells #[.int .i64 r] 31 (0, 0)) ∧ Below B X (W5.setCell ⟨B, 0, none⟩ v') ∧
      (∀ b, b < X.heap.size → b ≠ B → b ≠ B + 1 → b ≠ B + 2 → (Value.slice p n c).ownBlock ≠ some b → (W5.setCell ⟨B, 0, none⟩ v').heap[b]? = X.heap[b]?) ∧ (W5.setCell ⟨B, 0, none⟩ v').heap[B]? = some (.cells #[v'] 53 (0, 0)) ∧ (W5.setCell ⟨B, 0, none⟩ v').heap[B + 1]? = some (.cells #[.int .i64 (k : Int)] 3 (0, 0)) ∧
        (W5.setCell ⟨B, 0, none⟩ v').ownsRow (E + 5) 26 6 v' (n + 1) (stCs (ps ++ [(y, .slice up un uc)])) ∧ (v'.ownBlock = (Value.slice p n c).ownBlock ∨ ∃ g, v'.ownBlock = some g ∧ X.heap.size ≤ g) from by
    intro X4 W5 r v' hz hb ho k0 k1 k2 hrow hown hgrow hblk
    have hXG := HG.out
    have q0 := own_cellsS hrow (by decide : (53 : TypeId) ≠ 26) k0
    have q1 := own_cellsS hrow (by decide : (3 : TypeId) ≠ 26) k1
    have q2 := own_cellsS hrow (by decide : (31 : TypeId) ≠ 26) k2
    have al : ∀ b, b < X4.heap.size → (X4.alloc (.cells (stC (y, .slice up un uc)).toArray 26)).heap[b]? = X4.heap[b]? := fun b hb => Below.heap_alloc _ _ _ hb
    have gw : ∀ b, b < X4.heap.size → some b ≠ (Value.slice p n c).ownBlock → W5.heap[b]? = X4.heap[b]? := fun b h1 h2 => (hgrow.block b (by simp; omega) h2).trans (al b h1)
    have st : ∀ b, b ≠ B → (W5.setCell ⟨B, 0, none⟩ v').heap[b]? = W5.heap[b]? := fun b h => Below.heap_setCell _ _ _ _ (by show b ≠ B; exact h)
    have k05 := (gw B (by omega) q0).trans k0
    have ne5 := own_cellsS hown (by decide : (53 : TypeId) ≠ 26) k05
    have hlow : ∀ g, (Value.slice p n c).ownBlock = some g → E + 5 ≤ g := fun g hg => (hrow.lt g hg).1
    refine ⟨k05, (st (B + 2) (by omega)).trans ((gw (B + 2) (by omega) q2).trans k2), ?_, fun b a1 a2 a3 a4 a5 => (st b a2).trans ((gw b (by omega) (Ne.symm a5)).trans (ho b a1 a3 a4)), by rw [heap_setCell_same W5 B 0 _ _ _ k05]; simp, (st (B + 1) (by omega)).trans ((gw (B + 1) (by omega) q1).trans k1), ?_, ?_⟩
    · exact (Below.grown (hb.alloc (by omega) _) hgrow (by simp; omega) (fun g hg => by have := hlow g hg; omega)).setCell (p := ⟨B, 0, none⟩) (Nat.le_refl B) _
    · rw [stCs_snoc]
      exact hown.kept (grownBy_setCell' W5 B _) (.inr ne5.symm)
    · refine hblk.imp id (fun h => ⟨_, h, ?_⟩)
      omega)
  have cg0 : X3.cell? ⟨G, 0, none⟩ = some (.int .i64 y.kind) := by have h := HG3.out; simp [World.cell?, h]
  have cg1 : X3.cell? ⟨G, 1, none⟩ = some (.int .u64 (y.conn : Int)) := by have h := HG3.out; simp [World.cell?, h]
  have cg2 : X3.cell? ⟨G, 2, none⟩ = some (.int .i64 y.topic) := by have h := HG3.out; simp [World.cell?, h]
  have cg3 : X3.cell? ⟨G, 3, none⟩ = some (.int .u64 (y.n : Int)) := by have h := HG3.out; simp [World.cell?, h]
  have cg4 : X3.cell? ⟨G, 4, none⟩ = some (.int .u64 (y.draw : Int)) := by have h := HG3.out; simp [World.cell?, h]
  have cg5 : X3.cell? ⟨G, 5, none⟩ = some (.slice up un uc) := by have h := HG3.out; simp [World.cell?, h]
  by_cases h0 : er = 0
  · subst h0
    by_cases h1 : n = 4096
    · obtain ⟨X4, hX4⟩ : ∃ z, X3.setCell ⟨B + 2, 0, none⟩ (.int .i64 3) = z := ⟨_, rfl⟩
      have q1 : ((n : Int) == 4096) = true := by rw [h1]; rfl
      have HRD := Lib.hid (show rdE 0 n = 3 by unfold rdE; rw [if_pos rfl, if_pos h1])
      have st : ∀ b, b ≠ B + 2 → X4.heap[b]? = X3.heap[b]? := fun b h => by rw [← hX4]; exact Below.heap_setCell _ _ _ _ (by show b ≠ B + 2; exact h)
      have HS4 := Lib.hid (show X4.heap.size = G + 1 by rw [← hX4]; simpa using HS3.out)
      have HB4 := Lib.hid (show Below B X X4 by rw [← hX4]; exact HB3.out.setCell (p := ⟨B + 2, 0, none⟩) (by show B ≤ B + 2; omega) _)
      have HO4 := Lib.hid (show ∀ b, b < X.heap.size → b ≠ B + 1 → b ≠ B + 2 → X4.heap[b]? = X.heap[b]? from fun b a1 a2 a3 => (st b a3).trans (HO3.out b a1 a2 a3))
      have H04 := Lib.hid ((st B (by omega)).trans H03.out)
      have H14 := Lib.hid ((st (B + 1) (by omega)).trans H13.out)
      have H24 := Lib.hid (show X4.heap[B + 2]? = some (.cells #[.int .i64 3] 31 (0, 0)) by rw [← hX4, heap_setCell_same X3 (B + 2) 0 _ _ _ H23.out]; simp)
      have HR4 := Lib.hid (show X4.ownsRow (E + 5) 26 6 (.slice p n c) n (stCs ps) by rw [← hX4]; exact HR3.out.kept (grownBy_setCell' X3 (B + 2) _) (.inr (own_cellsS HR3.out (by decide : (31 : TypeId) ≠ 26) H23.out).symm))
      have hG4 := (st G (by have := HG.out; omega)).trans HG3.out
      have c04 : X4.cell? ⟨B, 0, none⟩ = some (.slice p n c) := by have h := H04.out; simp [World.cell?, h]
      have c24 : X4.cell? ⟨B + 2, 0, none⟩ = some (.int .i64 3) := by have h := H24.out; simp [World.cell?, h]
      have cf0 : X4.cell? ⟨G, 0, none⟩ = some (.int .i64 y.kind) := by simp [World.cell?, hG4]
      have cf1 : X4.cell? ⟨G, 1, none⟩ = some (.int .u64 (y.conn : Int)) := by simp [World.cell?, hG4]
      have cf2 : X4.cell? ⟨G, 2, none⟩ = some (.int .i64 y.topic) := by simp [World.cell?, hG4]
      have cf3 : X4.cell? ⟨G, 3, none⟩ = some (.int .u64 (y.n : Int)) := by simp [World.cell?, hG4]
      have cf4 : X4.cell? ⟨G, 4, none⟩ = some (.int .u64 (y.draw : Int)) := by simp [World.cell?, hG4]
      have cf5 : X4.cell? ⟨G, 5, none⟩ = some (.slice up un uc) := by simp [World.cell?, hG4]
      have HX4 := Lib.hid hX4
      clear hX4 st hG4 h1 cg0 cg1 cg2 cg3 cg4 cg5
      go_upto_region 4 with (fail)
      rw [HX4.out]
      clear c03 c23 z23
      have hbs : B < X4.heap.size := lt_of_cell c04
      go_wp2_with (at_builtin; refine wpList_append_blk rfl _ _ 53 rfl (E + 5) 26 i0 (.agg #[.int .i64 0, .int .u64 0, .int .i64 0, .int .u64 0, .int .u64 0, .slice none 0 0]) 6 64 Tryz.underlying53 hi hz0 hz1 hz2 rfl (by decide) _ _ _ rfl (HR4.out.alloc _) ⟨X4.heap.size, 0, none⟩ 1 1 (stC (y, .slice up un uc)) rfl rfl ?c1 ?c2 ?c3 ?c4 ?c5 ?_)
      case c1 =>
        intro j v hj
        match j, hj with
        | 0, hj | 1, hj | 2, hj | 3, hj | 4, hj | 5, hj => simp [stC] at hj; subst hj; simp [Addr.add]
      case c2 => intro v hv; simp [stC] at hv; rcases hv with rfl | rfl | rfl | rfl | rfl | rfl <;> rfl
      case c3 => unfold maxLen; omega
      case c4 => omega
      case c5 => have := HS4.out; have := HG.out; simp; omega
      intro v' W5 hown' hgrow hblk
      obtain ⟨k05, k25, k3, k4, k5, k6, k7, k8⟩ := APP.out X4 W5 3 v' HS4.out HB4.out HO4.out H04.out H14.out H24.out HR4.out hown' hgrow hblk
      obtain ⟨p', c', rfl⟩ := own_slS hown'
      have c05 : W5.cell? ⟨B, 0, none⟩ = some (.slice p n c) := by simp [World.cell?, k05]
      have z05 : W5.frozen? ⟨B, 0, none⟩ = false := frozen_of_row _ _ _ _ _ k05
      have c25 : (W5.setCell ⟨B, 0, none⟩ (.slice p' (n + 1) c')).cell? ⟨B + 2, 0, none⟩ = some (.int .i64 3) := by simp [World.cell?, k25]
      have K3 := Lib.hid k3
      have K4 := Lib.hid k4
      have K5 := Lib.hid k5
      have K6 := Lib.hid k6
      have K25 := Lib.hid k25
      have K7 := Lib.hid k7
      have K8 := Lib.hid k8
      clear hown' hgrow hblk k05 k25 k3 k4 k5 k6 k7 k8 c04 c24
      go_wp2_with fail
      go_ret
      rw [HRD.out]
      exact ⟨rfl, K3.out, K4.out, _, K5.out, K6.out, K25.out, K7.out, K8.out⟩
    · have q1 : ((n : Int) == 4096) = false := by rw [beq_eq_false_iff_ne]; omega
      have HRD := Lib.hid (show rdE 0 n = 0 by unfold rdE; rw [if_pos rfl, if_neg h1])
      have HS4 := Lib.hid HS3.out
      have HB4 := Lib.hid HB3.out
      have HO4 := Lib.hid HO3.out
      have H04 := Lib.hid H03.out
      have H14 := Lib.hid H13.out
      have H24 := Lib.hid H23.out
      have HR4 := Lib.hid HR3.out
      have c04 := c03
      have c24 := c23
      clear h1 c03 c23
      go_upto_region 4 with (fail)
      have hbs : B < X3.heap.size := lt_of_cell c04
      go_wp2_with (at_builtin; refine wpList_append_blk rfl _ _ 53 rfl (E + 5) 26 i0 (.agg #[.int .i64 0, .int .u64 0, .int .i64 0, .int .u64 0, .int .u64 0, .slice none 0 0]) 6 64 Tryz.underlying53 hi hz0 hz1 hz2 rfl (by decide) _ _ _ rfl (HR4.out.alloc _) ⟨X3.heap.size, 0, none⟩ 1 1 (stC (y, .slice up un uc)) rfl rfl ?c1 ?c2 ?c3 ?c4 ?c5 ?_)
      case c1 =>
        intro j v hj
        match j, hj with
        | 0, hj | 1, hj | 2, hj | 3, hj | 4, hj | 5, hj => simp [stC] at hj; subst hj; simp [Addr.add]
      case c2 => intro v hv; simp [stC] at hv; rcases hv with rfl | rfl | rfl | rfl | rfl | rfl <;> rfl
      case c3 => unfold maxLen; omega
      case c4 => omega
      case c5 => have := HS4.out; have := HG.out; simp; omega
      intro v' W5 hown' hgrow hblk
      obtain ⟨k05, k25, k3, k4, k5, k6, k7, k8⟩ := APP.out X3 W5 0 v' HS4.out HB4.out HO4.out H04.out H14.out H24.out HR4.out hown' hgrow hblk
      obtain ⟨p', c', rfl⟩ := own_slS hown'
      have c05 : W5.cell? ⟨B, 0, none⟩ = some (.slice p n c) := by simp [World.cell?, k05]
      have z05 : W5.frozen? ⟨B, 0, none⟩ = false := frozen_of_row _ _ _ _ _ k05
      have c25 : (W5.setCell ⟨B, 0, none⟩ (.slice p' (n + 1) c')).cell? ⟨B + 2, 0, none⟩ = some (.int .i64 0) := by simp [World.cell?, k25]
      have K3 := Lib.hid k3
      have K4 := Lib.hid k4
      have K5 := Lib.hid k5
      have K6 := Lib.hid k6
      have K25 := Lib.hid k25
      have K7 := Lib.hid k7
      have K8 := Lib.hid k8
      clear hown' hgrow hblk k05 k25 k3 k4 k5 k6 k7 k8 c04 c24
      go_wp2_with fail
      go_ret
      rw [HRD.out]
      exact ⟨rfl, K3.out, K4.out, _, K5.out, K6.out, K25.out, K7.out, K8.out⟩
  · have q0 : (er == 0) = false := by rw [beq_eq_false_iff_ne]; exact h0
    have HRD := Lib.hid (show rdE er n = er by unfold rdE; rw [if_neg h0])
    have HQ0 := Lib.hid q0
    have HS4 := Lib.hid HS3.out
    have HB4 := Lib.hid HB3.out
    have HO4 := Lib.hid HO3.out
    have H04 := Lib.hid H03.out
    have H14 := Lib.hid H13.out
    have H24 := Lib.hid H23.out
    have HR4 := Lib.hid HR3.out
    have c04 := c03
    have c24 := c23
    clear h0 c03 c23
    go_upto_region 4 with (fail)
    have hbs : B < X3.heap.size := lt_of_cell c04
    go_wp2_with (at_builtin; refine wpList_append_blk rfl _ _ 53 rfl (E + 5) 26 i0 (.agg #[.int .i64 0, .int .u64 0, .int .i64 0, .int .u64 0, .int .u64 0, .slice none 0 0]) 6 64 Tryz.underlying53 hi hz0 hz1 hz2 rfl (by decide) _ _ _ rfl (HR4.out.alloc _) ⟨X3.heap.size, 0, none⟩ 1 1 (stC (y, .slice up un uc)) rfl rfl ?c1 ?c2 ?c3 ?c4 ?c5 ?_)
    case c1 =>
      intro j v hj
      match j, hj with
      | 0, hj | 1, hj | 2, hj | 3, hj | 4, hj | 5, hj => simp [stC] at hj; subst hj; simp [Addr.add]
    case c2 => intro v hv; simp [stC] at hv; rcases hv with rfl | rfl | rfl | rfl | rfl | rfl <;> rfl
    case c3 => unfold maxLen; omega
    case c4 => omega
    case c5 => have := HS4.out; have := HG.out; simp; omega
    intro v' W5 hown' hgrow hblk
    obtain ⟨k05, k25, k3, k4, k5, k6, k7, k8⟩ := APP.out X3 W5 er v' HS4.out HB4.out HO4.out H04.out H14.out H24.out HR4.out hown' hgrow hblk
    obtain ⟨p', c', rfl⟩ := own_slS hown'
    have c05 : W5.cell? ⟨B, 0, none⟩ = some (.slice p n c) := by simp [World.cell?, k05]
    have z05 : W5.frozen? ⟨B, 0, none⟩ = false := frozen_of_row _ _ _ _ _ k05
    have c25 : (W5.setCell ⟨B, 0, none⟩ (.slice p' (n + 1) c')).cell? ⟨B + 2, 0, none⟩ = some (.int .i64 er) := by simp [World.cell?, k25]
    have K3 := Lib.hid k3
    have K4 := Lib.hid k4
    have K5 := Lib.hid k5
    have K6 := Lib.hid k6
    have K25 := Lib.hid k25
    have K7 := Lib.hid k7
    have K8 := Lib.hid k8
    clear hown' hgrow hblk k05 k25 k3 k4 k5 k6 k7 k8 c04 c24
    go_wp2_with fail
    go_ret
    rw [HRD.out]
    exact ⟨by rw [HQ0.out]; rfl, K3.out, K4.out, _, K5.out, K6.out, K25.out, K7.out, K8.out⟩
end Go.Proofs.YtbaakfcbakpmpaaGreatDoor

/- script: Read. No conditions but those that each law states. -/
namespace Go.Proofs.YtbaakfcbakpmpaaGreatDoor
set_option linter.unusedVariables false
set_option linter.unusedSimpArgs false
open Go.RowKit Go.Shelf
set_option maxHeartbeats 8000000
set_option maxRecDepth 100000
/-- the steps of lines, from the k-th on, behind those that stand; or the line that is none, and why -/
def Sc.rd : Nat → List (List UInt8) → List Sc.St → List Sc.St × Nat × Int
  | _, [], acc => (acc, 0, 0)
  | k, t :: ts, acc => if Sc.says t = true then (if rdE (erS (Sc.parse Sc.stepT t)) acc.length = 0 then Sc.rd (k + 1) ts (acc ++ [stp (Sc.parse Sc.stepT t)]) else ([], k, rdE (erS (Sc.parse Sc.stepT t)) acc.length)) else Sc.rd (k + 1) ts acc
theorem Sc.rd_skip {k : Nat} {t : List UInt8} {ts : List (List UInt8)} {acc : List Sc.St} (h : Sc.says t = false) : Sc.rd k (t :: ts) acc = Sc.rd (k + 1) ts acc := by
  conv => lhs; unfold Sc.rd
  rw [if_neg (by rw [h]; decide)]
theorem Sc.rd_take {k : Nat} {t : List UInt8} {ts : List (List UInt8)} {acc : List Sc.St} (h : Sc.says t = true) (he : rdE (erS (Sc.parse Sc.stepT t)) acc.length = 0) : Sc.rd k (t :: ts) acc = Sc.rd (k + 1) ts (acc ++ [stp (Sc.parse Sc.stepT t)]) := by
  conv => lhs; unfold Sc.rd
  rw [if_pos h, if_pos he]
theorem Sc.rd_no {k : Nat} {t : List UInt8} {ts : List (List UInt8)} {acc : List Sc.St} (h : Sc.says t = true) (he : rdE (erS (Sc.parse Sc.stepT t)) acc.length ≠ 0) : Sc.rd k (t :: ts) acc = ([], k, rdE (erS (Sc.parse Sc.stepT t)) acc.length) := by
  conv => lhs; unfold Sc.rd
  rw [if_pos h, if_neg he]
theorem brow_keep {X Y : World} {v : Value} {l : List UInt8} (h : BRow X v l) (hk : l ≠ [] → ∀ g, v.ownBlock = some g → g < X.heap.size → Y.heap[g]? = X.heap[g]?) : BRow Y v l := by
  obtain ⟨ao, cap, rfl, hc, h⟩ := h
  refine ⟨ao, cap, rfl, hc, ?_⟩
  rcases h with h | ⟨g, o, rfl, h⟩
  · exact .inl h
  · refine .inr ⟨g, o, rfl, fun j hj => ?_⟩
    have h1 := h j hj
    rw [← h1]
    exact World.cell?_of_block (a := ⟨g, o + j, none⟩) (hk (fun e => by rw [e] at hj; simp at hj) g rfl (lt_of_cell h1))
theorem brow_blk {X : World} {v : Value} {l : List UInt8} (h : BRow X v l) (hl : l ≠ []) : ∃ g o, v.ownBlock = some g ∧ X.heap[g]? = some o ∧ o.isCells = true := by
  obtain ⟨ao, cap, rfl, hc, h⟩ := h
  rcases h with ⟨_, h, _⟩ | ⟨g, o, rfl, h⟩
  · exact absurd h hl
  · have h1 := h 0 (List.length_pos_iff.2 hl)
    have hlt := lt_of_cell h1
    refine ⟨g, X.heap[g]'hlt, rfl, Array.getElem?_eq_getElem hlt, ?_⟩
    unfold World.cell? at h1
    simp only [Array.getElem?_eq_getElem hlt] at h1
    cases hx : X.heap[g]'hlt <;> rw [hx] at h1 <;> simp_all [Obj.isCells]
theorem own_turnS {B n : Nat} {own : Nat → Prop} {C : Nat} {X Y : World} {e : TypeId} {s : Nat} {v : Value} {xs : List Value} (h : X.ownsRow C e s v n xs) (ht : Turn B own X Y) (ho : ∀ b, own b → b < C) : Y.ownsRow C e s v n xs :=
  ⟨h.1, h.2.imp id (fun ⟨g, cap, cur, k1, k2, k3, k4⟩ => ⟨g, cap, cur, k1, k2, ht.cells k3 rfl (fun e => by have := ho g e; omega), k4⟩)⟩
/-- what has been read lies so -/
structure RdS (C : Nat) (X : World) (lv : Value) (ps : List (Sc.St × Value)) : Prop where
  own : X.ownsRow C 26 6 lv ps.length (stCs ps)
  brow : ∀ q ∈ ps, BRow X q.2 q.1.bytes
  fine : ∀ q ∈ ps, q.1.fine
  new : ∀ q ∈ ps, NewV C q.2
  sep : ∀ q ∈ ps, q.1.bytes ≠ [] → ∀ g, q.2.ownBlock = some g → lv.ownBlock ≠ some g
def RdJ (B : Nat) (w : World) (L : List (List UInt8)) (k : Nat) (X : World) : Prop :=
  ∃ ps lv o1, Sc.rd 0 L [] = Sc.rd k (L.drop k) (ps.map (·.1)) ∧ ps.length ≤ 4096 ∧ Below B w X ∧ X.heap[B]? = some (.cells #[lv] 53 (0, 0)) ∧ X.heap[B + 1]? = some (.cells #[.int .i64 o1] 3 (0, 0)) ∧ X.heap[B + 2]? = some (.cells #[.int .i64 0] 31 (0, 0)) ∧ RdS (B + 3 + 5) X lv ps
def RdX (B : Nat) (w : World) (L : List (List UInt8)) (X : World) : Prop :=
  ∃ (k : Nat) (no : Int) (lv : Value), Sc.rd 0 L [] = ([], k, no) ∧ no ≠ 0 ∧ Below B w X ∧ isSl lv ∧ X.heap[B]? = some (.cells #[lv] 53 (0, 0)) ∧ X.heap[B + 1]? = some (.cells #[.int .i64 (k : Int)] 3 (0, 0)) ∧ X.heap[B + 2]? = some (.cells #[.int .i64 no] 31 (0, 0))
theorem turn_lowS {E B : Nat} {X Y : World} {o : Obj} {b : Nat} (ht : Turn E (ownE E) X Y) (hb : b < E) (h : X.heap[b]? = some o) : Y.heap[b]? = some o :=
  (ht.block b (Array.getElem?_eq_some_iff.1 h).1 (fun e => by rcases e with e | e <;> omega) (fun h => by omega)).trans h
theorem RdS.turn {E : Nat} {X Y : World} {lv : Value} {ps : List (Sc.St × Value)} (h : RdS (E + 5) X lv ps) (ht : Turn E (ownE E) X Y) : RdS (E + 5) Y lv ps :=
  ⟨own_turnS h.own ht (fun b hb => by rcases hb with e | e <;> omega), fun q hq => by
    refine brow_keep (h.brow q hq) (fun hl g hg hlt => ?_)
    obtain ⟨g', o, h1, h2, h3⟩ := brow_blk (h.brow q hq) hl
    rw [hg] at h1
    cases h1
    have hn := h.new q hq g hg
    exact (ht.cells h2 h3 (fun e => by rcases e with e | e <;> omega)).trans h2.symm, h.fine, h.new, h.sep⟩
theorem RdJ.turn {B : Nat} {w : World} {L : List (List UInt8)} {k : Nat} {X Y : World} (h : RdJ B w L k X) (ht : Turn (B + 3) (ownE (B + 3)) X Y) : RdJ B w L k Y := by
  obtain ⟨ps, lv, o1, h1, h2, h3, h4, h5, h6, h7⟩ := h
  exact ⟨ps, lv, o1, h1, h2, h3.trans (ht.below (by omega) (by have := (Array.getElem?_eq_some_iff.1 h4).1; omega) (fun b hb => by rcases hb with e | e <;> omega)), turn_lowS (B := B) ht (by omega) h4, turn_lowS (B := B) ht (by omega) h5, turn_lowS (B := B) ht (by omega) h6, h7.turn ht⟩
theorem RdX.turn {B : Nat} {w : World} {L : List (List UInt8)} {X Y : World} (h : RdX B w L X) (ht : Turn (B + 3) (ownE (B + 3)) X Y) : RdX B w L Y := by
  obtain ⟨k, no, lv, h1, h2, h3, h3s, h4, h5, h6⟩ := h
  exact ⟨k, no, lv, h1, h2, h3.trans (ht.below (by omega) (by have := (Array.getElem?_eq_some_iff.1 h4).1; omega) (fun b hb => by rcases hb with e | e <;> omega)), h3s, turn_lowS (B := B) ht (by omega) h4, turn_lowS (B := B) ht (by omega) h5, turn_lowS (B := B) ht (by omega) h6⟩
theorem RdS.below {C : Nat} {X Y : World} {lv : Value} {ps : List (Sc.St × Value)} (h : RdS C X lv ps) (hb : Below X.heap.size X Y) : RdS C Y lv ps :=
  ⟨own_belS h.own hb, fun q hq => (h.brow q hq).below hb, h.fine, h.new, h.sep⟩
theorem drop_at {L : List (List UInt8)} {k : Nat} (hk : k < L.length) : L.drop k = L.getD k [] :: L.drop (k + 1) := by
  rw [List.drop_eq_getElem_cons hk, List.getD_eq_getElem?_getD, List.getElem?_eq_getElem hk]; rfl
theorem erS_cases (o : Option (Int × Sc.St)) : erS o = 0 ∨ erS o = 390 := by
  unfold erS
  cases o.isSome
  · exact .inr rfl
  · exact .inl rfl
/-- a line's step put behind those that stand -/
theorem rd_tell {B : Nat} {w : World} {L : List (List UInt8)} (k : Nat) (X0 X : World) (u : Value) (hk : k < L.length) (hs : Sc.says (L.getD k []) = true) (hj : RdJ B w L k X0) (hsz : B + 3 + 5 ≤ X0.heap.size) (hb : Below X0.heap.size X0 X)
    (hn : NewV X0.heap.size u) (hu : BRow X u (stp (Sc.parse Sc.stepT (L.getD k []))).bytes) (hf : (stp (Sc.parse Sc.stepT (L.getD k []))).fine) :
    Calls Tryz.prog 56 #[.int .i64 k, stVal (stp (Sc.parse Sc.stepT (L.getD k []))) u, .int .i64 (erS (Sc.parse Sc.stepT (L.getD k []))), .pointer (some ⟨B + 1, 0, none⟩), .pointer (some ⟨B + 2, 0, none⟩), .pointer (some ⟨B, 0, none⟩)] X fun e Y =>
      ((e = .returned (.bool true) ∧ RdJ B w L (k + 1) Y) ∨ (e = .returned (.bool false) ∧ RdX B w L Y)) ∧ KeepsFrom (B + 3) X Y ∧ ∀ b, B + 3 ≤ b → b < B + 3 + 5 → Y.heap[b]? = X.heap[b]? := by
  obtain ⟨ps, lv, o1, h1, h2, h3, h4, h5, h6, h7⟩ := hj
  have lo : ∀ {b o}, X0.heap[b]? = some o → X.heap[b]? = some o := fun h => (hb.block _ (Array.getElem?_eq_some_iff.1 h).1).trans h
  have hS := h7.below hb
  obtain ⟨t, ht⟩ : ∃ z, L.getD k [] = z := ⟨_, rfl⟩
  have hd := drop_at hk
  rw [ht] at hd hs hu hf ⊢
  obtain ⟨o, ho⟩ : ∃ z, Sc.parse Sc.stepT t = z := ⟨_, rfl⟩
  rw [ho] at hu hf ⊢
  have hsX := hb.size
  have hlow : ∀ g, lv.ownBlock = some g → B + 3 + 5 ≤ g ∧ g < X0.heap.size := fun g hg => h7.own.lt g hg
  refine (sc_Read1 B (B + 3) k ps.length (erS o) o1 0 (stp o) u lv ps X (Nat.le_refl _) (by omega) rfl h2 hu.sl (lo h4) (lo h5) (lo h6) hS.own).mono ?_
  rintro e Y ⟨rfl, hbY, hfr, lv', k1, k2, k3, k4, k5⟩
  have hXs : ∀ {b}, X.heap[b]? ≠ none → b < X.heap.size := fun {b} h => by
    rcases Nat.lt_or_ge b X.heap.size with h' | h'
    · exact h'
    · exact absurd (Array.getElem?_eq_none h') h
  have hblk : ∀ b o, B + 3 ≤ b → X.heap[b]? = some o → (lv.ownBlock = some b → False) → Y.heap[b]? = some o := fun b o a1 a2 a3 => (hfr b (Array.getElem?_eq_some_iff.1 a2).1 (by omega) (by omega) (by omega) a3).trans a2
  have hcellsOf : ∀ g, lv.ownBlock = some g → ∀ o, X.heap[g]? = some o → o.isCells = true := fun g hg o ho2 => by
    rcases hS.own.2 with ⟨rfl, _⟩ | ⟨g', cap, cur, rfl, _, hg', _⟩
    · simp [Value.ownBlock] at hg
    · have : g' = g := by simpa [Value.ownBlock] using hg
      subst this
      rw [hg'] at ho2; cases ho2; rfl
  refine ⟨?_, ⟨hbY.size, fun b o' a1 a2 a3 => hblk b o' a1 a2 (fun e => by rw [hcellsOf b e o' a2] at a3; cases a3)⟩, fun b a1 a2 => ?_⟩
  · by_cases he : rdE (erS o) ps.length = 0
    · refine .inl ⟨by rw [he]; rfl, ps ++ [(stp o, u)], lv', k, ?_, ?_, (h3.trans ((hb.mono (by omega)).trans hbY)), k1, k2, by rw [k3, he], ?_⟩
      · rw [h1, hd, Sc.rd_take hs (by rw [ho, List.length_map]; exact he), ho, List.map_append]; rfl
      · have : ps.length ≠ 4096 := fun e2 => by
          rw [e2] at he
          rcases erS_cases o with e3 | e3 <;> rw [e3] at he <;> simp [rdE] at he
        rw [List.length_append, List.length_singleton]; omega
      · refine ⟨by rw [List.length_append, List.length_singleton]; exact k4, fun q hq => ?_, fun q hq => ?_, fun q hq => ?_, fun q hq hl g hg => ?_⟩
        · rcases List.mem_append.1 hq with hq | hq
          · exact brow_keep (hS.brow q hq) (fun hl g hg hlt => hfr g hlt (by have := h7.new q hq g hg; omega) (by have := h7.new q hq g hg; omega) (by have := h7.new q hq g hg; omega) (h7.sep q hq hl g hg))
          · simp only [List.mem_singleton] at hq
            subst hq
            exact brow_keep hu (fun hl g hg hlt => hfr g hlt (by have := hn g hg; omega) (by have := hn g hg; omega) (by have := hn g hg; omega) (fun e => by have := hn g hg; have := (hlow g e).2; omega))
        · rcases List.mem_append.1 hq with hq | hq
          · exact h7.fine q hq
          · simp only [List.mem_singleton] at hq
            subst hq
            exact hf
        · rcases List.mem_append.1 hq with hq | hq
          · exact h7.new q hq
          · simp only [List.mem_singleton] at hq
            subst hq
            exact fun g hg => by have := hn g hg; omega
        · intro e2
          rcases List.mem_append.1 hq with hq | hq
          · rcases k5 with e3 | ⟨g', e3, e4⟩
            · rw [e3] at e2
              exact h7.sep q hq hl g hg e2
            · rw [e3] at e2
              cases e2
              obtain ⟨g2, _, a1, a2, _⟩ := brow_blk (hS.brow q hq) hl
              rw [hg] at a1
              cases a1
              have := (Array.getElem?_eq_some_iff.1 a2).1
              omega
          · simp only [List.mem_singleton] at hq
            subst hq
            rcases k5 with e3 | ⟨g', e3, e4⟩
            · rw [e3] at e2
              have := hn g hg
              have := (hlow g e2).2
              omega
            · rw [e3] at e2
              cases e2
              obtain ⟨g2, _, a1, a2, _⟩ := brow_blk hu hl
              rw [hg] at a1
              cases a1
              have := (Array.getElem?_eq_some_iff.1 a2).1
              omega
    · refine .inr ⟨by rw [beq_eq_false_iff_ne.2 he], k, rdE (erS o) ps.length, lv', ?_, he, (h3.trans ((hb.mono (by omega)).trans hbY)), ?_, k1, k2, k3⟩
      · rw [h1, hd, Sc.rd_no hs (by rw [ho, List.length_map]; exact he), ho, List.length_map]
      · obtain ⟨p, c, rfl⟩ := own_slS k4
        exact ⟨_, _, _, rfl⟩
  · have hlt : b < X.heap.size := by omega
    exact hfr b hlt (by omega) (by omega) (by omega) (fun e => by have := (hlow b e).1; omega)
end Go.Proofs.YtbaakfcbakpmpaaGreatDoor
