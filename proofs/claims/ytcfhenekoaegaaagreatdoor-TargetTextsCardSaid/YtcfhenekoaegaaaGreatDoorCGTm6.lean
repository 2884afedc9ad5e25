/- Texts of this claim, one behind the other: LGT. -/
import Derived.Test.YtcfhenekoaegaaaGreatDoorCGTm5
/- TargetTexts returns true for any targets, any key, any number: the walk. -/
namespace Go.Proofs.YtcfhenekoaegaaaGreatDoor
set_option linter.unusedVariables false
set_option linter.unusedSimpArgs false
open Go.RowKit Go.Shelf
attribute [local go_sem] Oper.semAt_some
set_option maxHeartbeats 8000000
set_option maxRecDepth 100000
theorem gt_max (ts : Array TypeId) (t : TypeId) (a b : Int) (w : World) : (Builtin.max_ ts t #[.int .i64 a, .int .i64 b]).run Tryz.prog w = .ok (.int .i64 (if b > a then b else a)) w := by
  simp [Builtin.max_, Builtin.max2, go_sem]
theorem gt_min (ts : Array TypeId) (t : TypeId) (a b : Int) (w : World) : (Builtin.min_ ts t #[.int .i64 a, .int .i64 b]).run Tryz.prog w = .ok (.int .i64 (if b < a then b else a)) w := by
  simp [Builtin.min_, Builtin.min2, go_sem]
theorem gt_nil (fn : Fn) (f c : Array Value) (W : World) : (binOp BinOp.eql 49 (.func fn f c) .nilFunc).run Tryz.prog W = .ok (.bool false) W := by kernel_rfl
/-- where a key stands first; the length: nowhere -/
theorem first_key (kb : ByteArray) : ∀ (Q : List (List UInt8 × List UInt8)), ∃ k, k ≤ Q.length ∧ (∀ j, j < k → tx (Q.getD j ([], [])).1 ≠ .string kb) ∧ (k < Q.length → tx (Q.getD k ([], [])).1 = .string kb)
  | [] => ⟨0, Nat.le_refl _, fun j hj => absurd hj (by omega), fun h => absurd h (by simp)⟩
  | q :: Q => by
    by_cases h : tx q.1 = .string kb
    · exact ⟨0, Nat.zero_le _, fun j hj => absurd hj (by omega), fun _ => h⟩
    · obtain ⟨k, h1, h2, h3⟩ := first_key kb Q
      refine ⟨k + 1, by simp; omega, fun j hj => ?_, fun hk => h3 (by simp at hk; omega)⟩
      cases j with
      | zero => exact h
      | succ j => exact h2 j (by omega)
/-- what stays through the law -/
structure LB (w W : World) (s1 s2 u1 u2 : Value) (m : Int) (B : Nat) : Prop where
  hb : Below w.heap.size w W
  hB : w.heap.size = B
  t : W.heap[B]? = some (.cells #[s1, s2] 26 (0, 0))
  o : W.heap[B + 1]? = some (.cells #[u1, u2] 26 (0, 0))
  m : Boxed W (B + 2) 3 (.int .i64 m)
  r : Boxed W (B + 3) 4 (.bool false)
theorem LB.lt {w W : World} {s1 s2 u1 u2 : Value} {m : Int} {B : Nat} (h : LB w W s1 s2 u1 u2 m B) : B + 3 < W.heap.size := h.r.lt
theorem LB.keep {w W W' : World} {s1 s2 u1 u2 : Value} {m : Int} {B : Nat} (h : LB w W s1 s2 u1 u2 m B) (hb : Below w.heap.size w W') (k : ∀ b, B ≤ b → b ≤ B + 3 → W'.heap[b]? = W.heap[b]?) : LB w W' s1 s2 u1 u2 m B :=
  ⟨hb, h.hB, (k _ (by omega) (by omega)).trans h.t, (k _ (by omega) (by omega)).trans h.o, (k _ (by omega) (by omega)).trans h.m, (k _ (by omega) (by omega)).trans h.r⟩
theorem LB.next {w W W' : World} {s1 s2 u1 u2 : Value} {m : Int} {B : Nat} (h : LB w W s1 s2 u1 u2 m B) (hb : Below W.heap.size W W') : LB w W' s1 s2 u1 u2 m B :=
  h.keep (h.hb.trans (hb.mono h.hb.size)) (fun b _ h2 => hb.block b (by have := h.lt; omega))
theorem LB.alloc {w W : World} {s1 s2 u1 u2 : Value} {m : Int} {B : Nat} (h : LB w W s1 s2 u1 u2 m B) (ob : Obj) : LB w (W.alloc ob) s1 s2 u1 u2 m B :=
  h.next ((Below.refl _ _).alloc (Nat.le_refl _) _)
theorem LB.turn {w W W' : World} {s1 s2 u1 u2 : Value} {m : Int} {B E : Nat} (h : LB w W s1 s2 u1 u2 m B) (ht : Turn E (fun _ => False) W W') (hE : B ≤ E) : LB w W' s1 s2 u1 u2 m B :=
  ⟨h.hb.trans (ht.below (by have := h.hB; omega) h.hb.size (fun b hb => hb.elim)), h.hB, ht.cells h.t rfl (fun h => h), ht.cells h.o rfl (fun h => h), ht.boxed h.m (fun h => h), ht.boxed h.r (fun h => h)⟩
theorem LB.set {w W : World} {s1 s2 u1 u2 : Value} {m : Int} {B b : Nat} (h : LB w W s1 s2 u1 u2 m B) (hb : B + 3 < b) (v : Value) : LB w (W.setCell ⟨b, 0, none⟩ v) s1 s2 u1 u2 m B :=
  h.keep (h.hb.setCell (p := ⟨b, 0, none⟩) (by have := h.hB; show _ ≤ b; omega) v) (fun c _ hc => Below.heap_setCell _ _ _ _ (by show c ≠ b; omega))
theorem po_set {o : Option (Nat × Obj)} {X : World} {b E : Nat} (h : PB o X) (hb : PB.at o E < b ∨ PB.at o E = E) (v : Value) : (b ≠ PB.at o E) → PB o (X.setCell ⟨b, 0, none⟩ v) := fun hne => h.keep (E := E) (Below.heap_setCell _ _ _ _ (fun e => hne e.symm))
def gtR (p1 p2 q1 q2 : Option Addr) (c1 c2 d1 d2 n1 N r1 r2 : Nat) (xb jb : ByteArray) (sm : Bool) : Nat → World → Value → Prop
  | 0, _, v => v = .agg #[.slice p1 n1 c1, .slice p2 N c2]
  | 1, _, v => v = .bool true
  | 2, _, v => v = .bool false
  | 3, _, v => v = .bool false
  | 4, _, v => v = undef
  | 5, _, v => v = undef
  | 6, _, v => v = undef
  | 7, _, v => v = undef
  | 8, _, v => v = undef
  | 9, _, v => v = undef
  | 10, _, v => v = undef
  | 11, _, v => v = .bool false
  | 12, _, v => v = .bool false
  | 13, _, v => v = .agg #[.slice p1 n1 c1, .slice p2 N c2]
  | 14, _, v => v = .bool true
  | 15, _, v => v = .bool true
  | 16, _, v => v = .string xb
  | 17, _, v => v = .agg #[.slice p1 n1 c1, .slice p2 N c2]
  | 18, _, v => v = .string xb
  | 19, _, v => v = .bool false
  | 20, _, v => v = .bool false
  | 21, _, v => v = .int .i64 0
  | 22, _, v => v = .int .i64 0
  | 23, _, v => v = .bool false
  | 24, _, v => v = .bool false
  | 25, _, v => v = .bool false
  | 26, _, v => v = .bool false
  | 27, _, v => v = .bool false
  | 28, _, v => v = .agg #[.slice p1 n1 c1, .slice p2 N c2]
  | 29, _, v => v = .string jb
  | 30, _, v => v = .agg #[.slice p1 n1 c1, .slice p2 N c2]
  | 31, _, v => v = .string jb
  | 32, _, v => v = .bool false
  | 33, _, v => v = .bool false
  | 34, _, v => v = .bool false
  | 35, _, v => v = .agg #[.slice p1 n1 c1, .slice p2 N c2]
  | 36, _, v => v = .agg #[.slice q1 r1 d1, .slice q2 r2 d2]
  | 37, _, v => v = .bool sm
  | 38, _, v => v = .agg #[.slice p1 n1 c1, .slice p2 N c2]
  | 39, _, v => v = .agg #[.slice q1 r1 d1, .slice q2 r2 d2]
  | 40, _, v => v = .bool sm
  | 41, _, v => v = .bool false
  | 42, _, v => v = .bool false
  | 43, _, v => v = .bool false
  | 44, _, v => v = .agg #[.slice p1 n1 c1, .slice p2 N c2]
  | 45, _, v => v = .agg #[.slice p1 n1 c1, .slice p2 N c2]
  | 46, _, v => v = .bool true
  | 47, _, v => v = .bool false
  | 48, _, v => v = .bool false
  | _, _, _ => False
def gtN (p1 p2 q1 q2 : Option Addr) (c1 c2 d1 d2 n1 N r1 r2 : Nat) (xb jb : ByteArray) (sm : Bool) : Nat → World → Value → Prop
  | 0, _, v => v = .agg #[.slice p1 n1 c1, .slice p2 N c2]
  | 1, _, v => v = .bool false
  | 2, _, v => v = .bool true
  | 3, _, v => v = .bool true
  | 4, _, v => v = .string (⟨#[]⟩ : ByteArray)
  | 5, _, v => v = .bool false
  | 6, _, v => v = .bool false
  | 7, _, v => v = .int .i64 2
  | 8, _, v => v = .int .i64 2
  | 9, _, v => v = .bool false
  | 10, _, v => v = .bool false
  | 11, _, v => v = .bool false
  | 12, _, v => v = .bool false
  | 13, _, v => v = .agg #[.slice p1 n1 c1, .slice p2 N c2]
  | 14, _, v => v = .bool false
  | 15, _, v => v = .bool false
  | 16, _, v => v = undef
  | 17, _, v => v = undef
  | 18, _, v => v = undef
  | 19, _, v => v = undef
  | 20, _, v => v = undef
  | 21, _, v => v = undef
  | 22, _, v => v = undef
  | 23, _, v => v = undef
  | 24, _, v => v = undef
  | 25, _, v => v = .bool false
  | 26, _, v => v = .bool false
  | 27, _, v => v = .bool false
  | 28, _, v => v = .agg #[.slice p1 n1 c1, .slice p2 N c2]
  | 29, _, v => v = .string jb
  | 30, _, v => v = .agg #[.slice p1 n1 c1, .slice p2 N c2]
  | 31, _, v => v = .string jb
  | 32, _, v => v = .bool false
  | 33, _, v => v = .bool false
  | 34, _, v => v = .bool false
  | 35, _, v => v = .agg #[.slice p1 n1 c1, .slice p2 N c2]
  | 36, _, v => v = .agg #[.slice q1 r1 d1, .slice q2 r2 d2]
  | 37, _, v => v = .bool sm
  | 38, _, v => v = .agg #[.slice p1 n1 c1, .slice p2 N c2]
  | 39, _, v => v = .agg #[.slice q1 r1 d1, .slice q2 r2 d2]
  | 40, _, v => v = .bool sm
  | 41, _, v => v = .bool false
  | 42, _, v => v = .bool false
  | 43, _, v => v = .bool false
  | 44, _, v => v = .agg #[.slice p1 n1 c1, .slice p2 N c2]
  | 45, _, v => v = .agg #[.slice p1 n1 c1, .slice p2 N c2]
  | 46, _, v => v = .bool true
  | 47, _, v => v = .bool false
  | 48, _, v => v = .bool false
  | _, _, _ => False
theorem walkGT (v1 v2 : Value) (P : List (List UInt8)) (Q : List (List UInt8 × List UInt8)) (x1 x2 : Value) (P' : List (List UInt8)) (Q' : List (List UInt8 × List UInt8)) (kb : ByteArray) (m : Int) (w : World)
    (h1 : TS w v1 P) (h2 : PS w v2 Q) (hs1 : ∀ p ∈ P, p.length ≤ maxLen) (hl1 : P.length ≤ maxLen) (hs2 : ∀ q ∈ Q, q.1.length ≤ reachBytes ∧ q.2.length ≤ reachBytes) (hl2 : Q.length ≤ maxLen)
    (h3 : TS w x1 P') (h4 : PS w x2 Q') (hs3 : ∀ p ∈ P', p.length ≤ maxLen) (hl3 : P'.length ≤ maxLen) (hs4 : ∀ q ∈ Q', q.1.length ≤ reachBytes ∧ q.2.length ≤ reachBytes) (hl4 : Q'.length ≤ maxLen)
    (hs : kb.size ≤ maxLen) (hm : (Lit.int .i64 m).wf = true) (hk : KX w) :
    Calls Tryz.prog 5 #[.agg #[v1, v2], .agg #[x1, x2], .string kb, .int .i64 m] w fun e w' => e = .returned (.bool true) ∧ Below w.heap.size w w' := by
  have WK := Lib.hid (fun W (h : KX W) => law_works W h)
  have HK := Lib.hid hk
  have HN := Lib.hid law_num
  obtain ⟨p1, c1, rfl⟩ := h1.slice
  obtain ⟨p2, c2, rfl⟩ := h2.slice
  obtain ⟨q1, d1, rfl⟩ := h3.slice
  obtain ⟨q2, d2, rfl⟩ := h4.slice
  have FW := Lib.hid (fun W (a : TS W (.slice p1 P.length c1) P) (b : PS W (.slice p2 Q.length c2) Q) => law_few (.slice p1 P.length c1) (.slice p2 Q.length c2) P Q W a b hs1 hl1 hs2 hl2)
  have FO := Lib.hid (fun W (a : TS W (.slice q1 P'.length d1) P') (b : PS W (.slice q2 Q'.length d2) Q') => law_few (.slice q1 P'.length d1) (.slice q2 Q'.length d2) P' Q' W a b hs3 hl3 hs4 hl4)
  obtain ⟨n1, hn1⟩ : ∃ n, P.length = n := ⟨_, rfl⟩
  obtain ⟨N, hN⟩ : ∃ n, Q.length = n := ⟨_, rfl⟩
  obtain ⟨r1, hr1⟩ : ∃ n, P'.length = n := ⟨_, rfl⟩
  obtain ⟨r2, hr2⟩ : ∃ n, Q'.length = n := ⟨_, rfl⟩
  rw [hn1, hN] at FW
  rw [hr1, hr2] at FO
  rw [hn1] at h1 ⊢
  rw [hN] at h2 ⊢
  rw [hr1] at h3 ⊢
  rw [hr2] at h4 ⊢
  have H1 := Lib.hid h1
  have H2 := Lib.hid h2
  have H3 := Lib.hid h3
  have H4 := Lib.hid h4
  have HN1 := Lib.hid hn1
  have HNN := Lib.hid hN
  have HR1 := Lib.hid hr1
  have HR2 := Lib.hid hr2
  have hs' : kb.size ≤ 9223372036854775807 := hs
  have hnil := gt_nil
  obtain ⟨B, hB⟩ : ∃ B, w.heap.size = B := ⟨_, rfl⟩
  obtain ⟨W1, hW1⟩ : ∃ W1, (((w.alloc (.cells #[.slice p1 n1 c1, .slice p2 N c2] 26)).alloc (.cells #[.slice q1 r1 d1, .slice q2 r2 d2] 26)).alloc (.cells #[.int .i64 m] 3)).alloc (.cells #[.bool false] 4) = W1 := ⟨_, rfl⟩
  have L1 : LB w W1 (.slice p1 n1 c1) (.slice p2 N c2) (.slice q1 r1 d1) (.slice q2 r2 d2) m B := by
    subst hW1
    have b0 := World.alloc_heap_new w (.cells #[.slice p1 n1 c1, .slice p2 N c2] 26)
    have b1 := World.alloc_heap_new (w.alloc (.cells #[.slice p1 n1 c1, .slice p2 N c2] 26)) (.cells #[.slice q1 r1 d1, .slice q2 r2 d2] 26)
    have b2 := Boxed.new ((w.alloc (.cells #[.slice p1 n1 c1, .slice p2 N c2] 26)).alloc (.cells #[.slice q1 r1 d1, .slice q2 r2 d2] 26)) 3 (.int .i64 m)
    have b3 := Boxed.new (((w.alloc (.cells #[.slice p1 n1 c1, .slice p2 N c2] 26)).alloc (.cells #[.slice q1 r1 d1, .slice q2 r2 d2] 26)).alloc (.cells #[.int .i64 m] 3)) 4 (.bool false)
    simp only [World.size_alloc, hB] at b0 b1 b2 b3
    exact ⟨(((((Below.refl _ w).alloc (Nat.le_refl _) _).alloc (by simp) _).alloc (by simp; omega) _).alloc (by simp; omega) _), hB,
      (Below.heap_alloc _ _ _ (by simp; omega)).trans ((Below.heap_alloc _ _ _ (by simp; omega)).trans ((Below.heap_alloc _ _ _ (by simp; omega)).trans b0)),
      (Below.heap_alloc _ _ _ (by simp; omega)).trans ((Below.heap_alloc _ _ _ (by simp; omega)).trans b1), b2.alloc _, b3⟩
  have HL1 := Lib.hid L1
  have HBB := Lib.hid hB
  have HW1 := Lib.hid hW1
  obtain ⟨t0, t1⟩ := two_cells L1.t
  obtain ⟨o0, o1⟩ := two_cells L1.o
  have FWK := Lib.hid (FW.out W1 (H1.out.below L1.hb) (H2.out.below L1.hb))
  clear h1 h2 h3 h4 hs1 hl1 hs2 hl2 hs3 hl3 hs4 hl4 hn1 hN hr1 hr2 hs hB hW1 L1 hk
  refine callsIn_wide.1 (callsIn_of_wp_marks (F := Fence.wide) (n := 9) Tryz.func5 rfl trivial ?_ rfl)
  simp only [Tryz.ntmps5, List.size_toArray, List.length_cons, List.length_nil, Nat.reduceAdd, Nat.reduceSub, Array.replicate_succ, Array.replicate_zero, List.push_toArray, List.append_toArray, List.nil_append, List.cons_append]
  refine wpIn_wide.2 ?_
  go_wp2_with fail
  rw [HW1.out, HBB.out, show B + 1 + 1 + 1 = B + 3 from rfl, show B + 1 + 1 = B + 2 from rfl]
  refine FWK.out.mono ?_
  rintro e w2 ⟨b, rfl, hfw, hb2⟩
  have HL2 := Lib.hid (HL1.out.next hb2)
  clear hb2 t0 t1 o0 o1
  obtain ⟨t0, t1⟩ := two_cells HL2.out.t
  obtain ⟨o0, o1⟩ := two_cells HL2.out.o
  have lr := HL2.out.r.cell
  have fr := HL2.out.r.frozen
  cases b with
  | false =>
    go_wp2_with fail
    refine (WK.out _ (HK.out.below HL2.out.hb)).mono ?_
    rintro e w3 ⟨rfl, hb3⟩
    have HL3 := Lib.hid (HL2.out.next hb3)
    clear hb3 t0 t1 o0 o1 lr fr
    have lr := HL3.out.r.cell
    have fr := HL3.out.r.frozen
    go_wp2_with fail
    have c0 := (HL3.out.r.set (.bool true)).cell
    refine ⟨.bool true, ?_, rfl, HL3.out.hb.setCell (p := ⟨B + 3, 0, none⟩) (by have := HBB.out; show w.heap.size ≤ B + 3; omega) _⟩
    simp [results, Tryz.results5, go_sem, c0]
  | true =>
    have HFW := Lib.hid (hfw rfl)
    have FOK := Lib.hid (FO.out w2 (H3.out.below HL2.out.hb) (H4.out.below HL2.out.hb))
    clear hfw
    go_wp2_with fail
    refine FOK.out.mono ?_
    rintro e w3 ⟨b, rfl, hfo, hb3⟩
    have HL3 := Lib.hid (HL2.out.next hb3)
    clear hb3 t0 t1 o0 o1 lr fr
    obtain ⟨t0, t1⟩ := two_cells HL3.out.t
    obtain ⟨o0, o1⟩ := two_cells HL3.out.o
    have lr := HL3.out.r.cell
    have fr := HL3.out.r.frozen
    cases b with
    | false =>
      go_wp2_with fail
      refine (WK.out _ (HK.out.below HL3.out.hb)).mono ?_
      rintro e w4 ⟨rfl, hb4⟩
      have HL4 := Lib.hid (HL3.out.next hb4)
      clear hb4 t0 t1 o0 o1 lr fr
      have lr := HL4.out.r.cell
      have fr := HL4.out.r.frozen
      go_wp2_with fail
      have c0 := (HL4.out.r.set (.bool true)).cell
      refine ⟨.bool true, ?_, rfl, HL4.out.hb.setCell (p := ⟨B + 3, 0, none⟩) (by have := HBB.out; show w.heap.size ≤ B + 3; omega) _⟩
      simp [results, Tryz.results5, go_sem, c0]
    | true =>
      have HFO := Lib.hid (hfo rfl)
      clear hfo
      by_cases hkl : kb.size ≤ 60
      · have hP := HFW.out.path
        have hQ := HFW.out.query
        have hP' := HFO.out.path
        have hQ' := HFO.out.query
        have hPs : ∀ p ∈ P, p.length ≤ 300 := fun p hp => by have := HFW.out.part p hp; omega
        have hQs : ∀ q ∈ Q, q.1.length ≤ 300 ∧ q.2.length ≤ 300 := fun q hq => by have := HFW.out.pair q hq; omega
        have TX := Lib.hid (fun W (a : TS W (.slice p1 n1 c1) P) (b : PS W (.slice p2 N c2) Q) (t : Tabs W) => tg_Text (.slice p1 n1 c1) (.slice p2 N c2) P Q W a b (by omega) hPs (by omega) hQs t)
        have RX := Lib.hid (fun W (a : TS W (.slice p1 n1 c1) P) (b : PS W (.slice p2 N c2) Q) => ref_Text (.slice p1 n1 c1) (.slice p2 N c2) P Q W a b (by omega) hPs (by omega) hQs)
        have RT := Lib.hid (fun W (a : TS W (.slice p1 n1 c1) P) => right_any (.slice p1 n1 c1) P W a (by omega) (fun p hp => by have := hPs p hp; omega) p2 N c2)
        have PA := Lib.hid (fun W (a : TS W (.slice p1 n1 c1) P) => tg_Path (.slice p1 n1 c1) P W a (by omega) hPs p2 N c2)
        have RP := Lib.hid (fun W (a : TS W (.slice p1 n1 c1) P) => ref_Path (.slice p1 n1 c1) P W a (by omega) hPs p2 N c2)
        have SM := Lib.hid (fun W (a : TS W (.slice p1 n1 c1) P) (b : PS W (.slice p2 N c2) Q) (c : TS W (.slice q1 r1 d1) P') (d : PS W (.slice q2 r2 d2) Q') => tg_Same (.slice p1 n1 c1) (.slice p2 N c2) (.slice q1 r1 d1) (.slice q2 r2 d2) P P' Q Q' W a b c d (by omega) (by omega) (by omega) (by omega))
        have RS := Lib.hid (fun W (a : TS W (.slice p1 n1 c1) P) (b : PS W (.slice p2 N c2) Q) (c : TS W (.slice q1 r1 d1) P') (d : PS W (.slice q2 r2 d2) Q') => ref_Same (.slice p1 n1 c1) (.slice p2 N c2) (.slice q1 r1 d1) (.slice q2 r2 d2) P P' Q Q' W a b c d (by omega) (by omega) (by omega) (by omega))
        have ST := Lib.hid (fun W (a : TS W (.slice p1 n1 c1) P) (b : PS W (.slice p2 N c2) Q) => tg_Same (.slice p1 n1 c1) (.slice p2 N c2) (.slice p1 n1 c1) (.slice p2 N c2) P P Q Q W a b a b (by omega) (by omega) (by omega) (by omega))
        rw [decide_eq_true (show P = P ∧ Q = Q from ⟨rfl, rfl⟩)] at ST
        obtain ⟨sm, hsm⟩ : ∃ z, decide (P = P' ∧ Q = Q') = z := ⟨_, rfl⟩
        rw [hsm] at SM RS
        obtain ⟨jb, hjb⟩ : ∃ z : ByteArray, (⟨(Gt.jpath P).toArray⟩ : ByteArray) = z := ⟨_, rfl⟩
        rw [hjb] at PA RP
        obtain ⟨k, hk1, hk2, hk3⟩ := first_key kb Q
        have GE := Lib.hid (fun W (a : TS W (.slice p1 n1 c1) P) (b : PS W (.slice p2 N c2) Q) => tg_Get (.slice p1 n1 c1) (.slice p2 N c2) P Q kb k W a b (by omega) hk1 hk2 hk3)
        have HK1 := Lib.hid (show k ≤ N by rw [← HNN.out]; exact hk1)
        have HK2 := Lib.hid hk2
        have HK3 := Lib.hid hk3
        have hd3 : decide ((60 : Int) < (kb.size : Int)) = false := decide_eq_false (by omega)
        have PP := Lib.hid (fun W (b : PS W (.slice p2 N c2) Q) => tg_Pairs (.slice p1 n1 c1) (.slice p2 N c2) Q W ⟨_, _, _, rfl⟩ b (by omega))
        have hNl : N ≤ 20 := by rw [← HNN.out]; exact hQ
        clear hk1 hk2 hk3 hsm hjb hP hQ hP' hQ' hPs hQs
        have TXW := Lib.hid (TX.out w3 (H1.out.below HL3.out.hb) (H2.out.below HL3.out.hb) (HK.out.tabs.below HL3.out.hb))
        cases hr : Gt.right P with
        | true =>
          obtain ⟨xb, hxb⟩ : ∃ z : ByteArray, (⟨(Gt.text P Q).toArray⟩ : ByteArray) = z := ⟨_, rfl⟩
          unfold txtOut at TXW
          rw [if_pos hr] at TXW
          rw [hxb] at TXW RX
          rw [hr] at RT
          clear hr hxb
          go_wp2_with fail
          refine TXW.out.mono ?_
          rintro e w4 ⟨rfl, hb4⟩
          have HL4 := Lib.hid (HL3.out.next hb4)
          have HT4 := Lib.hid (H1.out.below HL4.out.hb)
          have HQ4 := Lib.hid (H2.out.below HL4.out.hb)
          have HO4 := Lib.hid (H3.out.below HL4.out.hb)
          have HP4 := Lib.hid (H4.out.below HL4.out.hb)
          clear hb4 t0 t1 o0 o1 lr fr hnil
          go_wp2_with fail
          refine region_slotsH (fun i => 38 + min i 48) (gtR p1 p2 q1 q2 c1 c2 d1 d2 n1 N r1 r2 xb jb sm) (fun i => ([true, true, true, true, false, false, false, false, false, false, false, true, true, true, true, true, true, true, true, true, true, true, true, true, true, true, true, true, true, true, true, true, true, true, true, true, true, true, true, true, true, true, true, true, true, true, true, true, true] : List Bool).getD i true) (by kernel_rfl) (by kernel_rfl) (fun i => by show 38 + min i 48 < _; simp; omega) (fun i j hi hj h => by have hi : i < 49 := hi; have hj : j < 49 := hj; omega) ?mono ?dst ?gu ?ng ?skip ?step ?done
          case mono =>
            intro i W W' v h hbw
            match i, h with
            | 0, h | 1, h | 2, h | 3, h | 4, h | 5, h | 6, h | 7, h | 8, h | 9, h | 10, h | 11, h | 12, h | 13, h | 14, h | 15, h | 16, h | 17, h | 18, h | 19, h | 20, h | 21, h | 22, h | 23, h | 24, h | 25, h | 26, h | 27, h | 28, h | 29, h | 30, h | 31, h | 32, h | 33, h | 34, h | 35, h | 36, h | 37, h | 38, h | 39, h | 40, h | 41, h | 42, h | 43, h | 44, h | 45, h | 46, h | 47, h | 48, h => exact h
            | n + 49, h => exact h.elim
          case dst =>
            intro i o ho
            match i, ho with
            | 0, ho | 1, ho | 2, ho | 3, ho | 4, ho | 5, ho | 6, ho | 7, ho | 8, ho | 9, ho | 10, ho | 11, ho | 12, ho | 13, ho | 14, ho | 15, ho | 16, ho | 17, ho | 18, ho | 19, ho | 20, ho | 21, ho | 22, ho | 23, ho | 24, ho | 25, ho | 26, ho | 27, ho | 28, ho | 29, ho | 30, ho | 31, ho | 32, ho | 33, ho | 34, ho | 35, ho | 36, ho | 37, ho | 38, ho | 39, ho | 40, ho | 41, ho | 42, ho | 43, ho | 44, ho | 45, ho | 46, ho | 47, ho | 48, ho => cases ho; rfl
            | n + 49, ho => exact absurd ho (by simp)
          case gu =>
            intro i o g b ho hgd W v hv
            match i, ho with
            | 0, ho => cases ho; cases hgd
            | 1, ho => cases ho; cases hgd
            | 2, ho => cases ho; cases hgd
            | 3, ho => cases ho; cases hgd
            | 4, ho => cases ho; cases hgd; first | exact .inl hv | exact .inr ⟨rfl, hv⟩
            | 5, ho => cases ho; cases hgd; first | exact .inl hv | exact .inr ⟨rfl, hv⟩
            | 6, ho => cases ho; cases hgd; first | exact .inl hv | exact .inr ⟨rfl, hv⟩
            | 7, ho => cases ho; cases hgd; first | exact .inl hv | exact .inr ⟨rfl, hv⟩
            | 8, ho => cases ho; cases hgd; first | exact .inl hv | exact .inr ⟨rfl, hv⟩
            | 9, ho => cases ho; cases hgd; first | exact .inl hv | exact .inr ⟨rfl, hv⟩
            | 10, ho => cases ho; cases hgd; first | exact .inl hv | exact .inr ⟨rfl, hv⟩
            | 11, ho => cases ho; cases hgd
            | 12, ho => cases ho; cases hgd
            | 13, ho => cases ho; cases hgd; first | exact .inl hv | exact .inr ⟨rfl, hv⟩
            | 14, ho => cases ho; cases hgd; first | exact .inl hv | exact .inr ⟨rfl, hv⟩
            | 15, ho => cases ho; cases hgd; first | exact .inl hv | exact .inr ⟨rfl, hv⟩
            | 16, ho => cases ho; cases hgd; first | exact .inl hv | exact .inr ⟨rfl, hv⟩
            | 17, ho => cases ho; cases hgd; first | exact .inl hv | exact .inr ⟨rfl, hv⟩
            | 18, ho => cases ho; cases hgd; first | exact .inl hv | exact .inr ⟨rfl, hv⟩
            | 19, ho => cases ho; cases hgd; first | exact .inl hv | exact .inr ⟨rfl, hv⟩
            | 20, ho => cases ho; cases hgd; first | exact .inl hv | exact .inr ⟨rfl, hv⟩
            | 21, ho => cases ho; cases hgd; first | exact .inl hv | exact .inr ⟨rfl, hv⟩
            | 22, ho => cases ho; cases hgd; first | exact .inl hv | exact .inr ⟨rfl, hv⟩
            | 23, ho => cases ho; cases hgd; first | exact .inl hv | exact .inr ⟨rfl, hv⟩
            | 24, ho => cases ho; cases hgd; first | exact .inl hv | exact .inr ⟨rfl, hv⟩
            | 25, ho => cases ho; cases hgd; first | exact .inl hv | exact .inr ⟨rfl, hv⟩
            | 26, ho => cases ho; cases hgd
            | 27, ho => cases ho; cases hgd
            | 28, ho => cases ho; cases hgd; first | exact .inl hv | exact .inr ⟨rfl, hv⟩
            | 29, ho => cases ho; cases hgd; first | exact .inl hv | exact .inr ⟨rfl, hv⟩
            | 30, ho => cases ho; cases hgd; first | exact .inl hv | exact .inr ⟨rfl, hv⟩
            | 31, ho => cases ho; cases hgd; first | exact .inl hv | exact .inr ⟨rfl, hv⟩
            | 32, ho => cases ho; cases hgd; first | exact .inl hv | exact .inr ⟨rfl, hv⟩
            | 33, ho => cases ho; cases hgd
            | 34, ho => cases ho; cases hgd
            | 35, ho => cases ho; cases hgd; first | exact .inl hv | exact .inr ⟨rfl, hv⟩
            | 36, ho => cases ho; cases hgd; first | exact .inl hv | exact .inr ⟨rfl, hv⟩
            | 37, ho => cases ho; cases hgd; first | exact .inl hv | exact .inr ⟨rfl, hv⟩
            | 38, ho => cases ho; cases hgd; first | exact .inl hv | exact .inr ⟨rfl, hv⟩
            | 39, ho => cases ho; cases hgd; first | exact .inl hv | exact .inr ⟨rfl, hv⟩
            | 40, ho => cases ho; cases hgd; first | exact .inl hv | exact .inr ⟨rfl, hv⟩
            | 41, ho => cases ho; cases hgd; first | exact .inl hv | exact .inr ⟨rfl, hv⟩
            | 42, ho => cases ho; cases hgd
            | 43, ho => cases ho; cases hgd
            | 44, ho => cases ho; cases hgd; first | exact .inl hv | exact .inr ⟨rfl, hv⟩
            | 45, ho => cases ho; cases hgd; first | exact .inl hv | exact .inr ⟨rfl, hv⟩
            | 46, ho => cases ho; cases hgd; first | exact .inl hv | exact .inr ⟨rfl, hv⟩
            | 47, ho => cases ho; cases hgd; first | exact .inl hv | exact .inr ⟨rfl, hv⟩
            | 48, ho => cases ho; cases hgd
            | n + 49, ho => exact absurd ho (by simp)
          case ng =>
            intro i o ho hgd
            match i, ho with
            | 0, ho => cases ho; first | rfl | cases hgd
            | 1, ho => cases ho; first | rfl | cases hgd
            | 2, ho => cases ho; first | rfl | cases hgd
            | 3, ho => cases ho; first | rfl | cases hgd
            | 4, ho => cases ho; first | rfl | cases hgd
            | 5, ho => cases ho; first | rfl | cases hgd
            | 6, ho => cases ho; first | rfl | cases hgd
            | 7, ho => cases ho; first | rfl | cases hgd
            | 8, ho => cases ho; first | rfl | cases hgd
            | 9, ho => cases ho; first | rfl | cases hgd
            | 10, ho => cases ho; first | rfl | cases hgd
            | 11, ho => cases ho; first | rfl | cases hgd
            | 12, ho => cases ho; first | rfl | cases hgd
            | 13, ho => cases ho; first | rfl | cases hgd
            | 14, ho => cases ho; first | rfl | cases hgd
            | 15, ho => cases ho; first | rfl | cases hgd
            | 16, ho => cases ho; first | rfl | cases hgd
            | 17, ho => cases ho; first | rfl | cases hgd
            | 18, ho => cases ho; first | rfl | cases hgd
            | 19, ho => cases ho; first | rfl | cases hgd
            | 20, ho => cases ho; first | rfl | cases hgd
            | 21, ho => cases ho; first | rfl | cases hgd
            | 22, ho => cases ho; first | rfl | cases hgd
            | 23, ho => cases ho; first | rfl | cases hgd
            | 24, ho => cases ho; first | rfl | cases hgd
            | 25, ho => cases ho; first | rfl | cases hgd
            | 26, ho => cases ho; first | rfl | cases hgd
            | 27, ho => cases ho; first | rfl | cases hgd
            | 28, ho => cases ho; first | rfl | cases hgd
            | 29, ho => cases ho; first | rfl | cases hgd
            | 30, ho => cases ho; first | rfl | cases hgd
            | 31, ho => cases ho; first | rfl | cases hgd
            | 32, ho => cases ho; first | rfl | cases hgd
            | 33, ho => cases ho; first | rfl | cases hgd
            | 34, ho => cases ho; first | rfl | cases hgd
            | 35, ho => cases ho; first | rfl | cases hgd
            | 36, ho => cases ho; first | rfl | cases hgd
            | 37, ho => cases ho; first | rfl | cases hgd
            | 38, ho => cases ho; first | rfl | cases hgd
            | 39, ho => cases ho; first | rfl | cases hgd
            | 40, ho => cases ho; first | rfl | cases hgd
            | 41, ho => cases ho; first | rfl | cases hgd
            | 42, ho => cases ho; first | rfl | cases hgd
            | 43, ho => cases ho; first | rfl | cases hgd
            | 44, ho => cases ho; first | rfl | cases hgd
            | 45, ho => cases ho; first | rfl | cases hgd
            | 46, ho => cases ho; first | rfl | cases hgd
            | 47, ho => cases ho; first | rfl | cases hgd
            | 48, ho => cases ho; first | rfl | cases hgd
            | n + 49, ho => exact absurd ho (by simp)
          case skip =>
            intro i W hi hsel
            match i, hi, hsel with
            | 0, _, hsel => first | exact absurd hsel (by decide) | rfl
            | 1, _, hsel => first | exact absurd hsel (by decide) | rfl
            | 2, _, hsel => first | exact absurd hsel (by decide) | rfl
            | 3, _, hsel => first | exact absurd hsel (by decide) | rfl
            | 4, _, hsel => first | exact absurd hsel (by decide) | rfl
            | 5, _, hsel => first | exact absurd hsel (by decide) | rfl
            | 6, _, hsel => first | exact absurd hsel (by decide) | rfl
            | 7, _, hsel => first | exact absurd hsel (by decide) | rfl
            | 8, _, hsel => first | exact absurd hsel (by decide) | rfl
            | 9, _, hsel => first | exact absurd hsel (by decide) | rfl
            | 10, _, hsel => first | exact absurd hsel (by decide) | rfl
            | 11, _, hsel => first | exact absurd hsel (by decide) | rfl
            | 12, _, hsel => first | exact absurd hsel (by decide) | rfl
            | 13, _, hsel => first | exact absurd hsel (by decide) | rfl
            | 14, _, hsel => first | exact absurd hsel (by decide) | rfl
            | 15, _, hsel => first | exact absurd hsel (by decide) | rfl
            | 16, _, hsel => first | exact absurd hsel (by decide) | rfl
            | 17, _, hsel => first | exact absurd hsel (by decide) | rfl
            | 18, _, hsel => first | exact absurd hsel (by decide) | rfl
            | 19, _, hsel => first | exact absurd hsel (by decide) | rfl
            | 20, _, hsel => first | exact absurd hsel (by decide) | rfl
            | 21, _, hsel => first | exact absurd hsel (by decide) | rfl
            | 22, _, hsel => first | exact absurd hsel (by decide) | rfl
            | 23, _, hsel => first | exact absurd hsel (by decide) | rfl
            | 24, _, hsel => first | exact absurd hsel (by decide) | rfl
            | 25, _, hsel => first | exact absurd hsel (by decide) | rfl
            | 26, _, hsel => first | exact absurd hsel (by decide) | rfl
            | 27, _, hsel => first | exact absurd hsel (by decide) | rfl
            | 28, _, hsel => first | exact absurd hsel (by decide) | rfl
            | 29, _, hsel => first | exact absurd hsel (by decide) | rfl
            | 30, _, hsel => first | exact absurd hsel (by decide) | rfl
            | 31, _, hsel => first | exact absurd hsel (by decide) | rfl
            | 32, _, hsel => first | exact absurd hsel (by decide) | rfl
            | 33, _, hsel => first | exact absurd hsel (by decide) | rfl
            | 34, _, hsel => first | exact absurd hsel (by decide) | rfl
            | 35, _, hsel => first | exact absurd hsel (by decide) | rfl
            | 36, _, hsel => first | exact absurd hsel (by decide) | rfl
            | 37, _, hsel => first | exact absurd hsel (by decide) | rfl
            | 38, _, hsel => first | exact absurd hsel (by decide) | rfl
            | 39, _, hsel => first | exact absurd hsel (by decide) | rfl
            | 40, _, hsel => first | exact absurd hsel (by decide) | rfl
            | 41, _, hsel => first | exact absurd hsel (by decide) | rfl
            | 42, _, hsel => first | exact absurd hsel (by decide) | rfl
            | 43, _, hsel => first | exact absurd hsel (by decide) | rfl
            | 44, _, hsel => first | exact absurd hsel (by decide) | rfl
            | 45, _, hsel => first | exact absurd hsel (by decide) | rfl
            | 46, _, hsel => first | exact absurd hsel (by decide) | rfl
            | 47, _, hsel => first | exact absurd hsel (by decide) | rfl
            | 48, _, hsel => first | exact absurd hsel (by decide) | rfl
            | n + 49, hi, _ => exact absurd hi (by simp)
          case step =>
            intro f a' W i o ho hsel hpre hbel hrest
            match i, ho, hsel with
            | 0, ho, _ =>
              cases ho
              have q4 : a'.tmps.getD 4 undef = .pointer (some ⟨B, 0, none⟩) := (hrest 4 (by intro i hi; have hi : i < 49 := hi; show 38 + min i 48 ≠ _; omega))
              have hgt := two_cells ((hbel.block B (by have := HL4.out.lt; omega)).trans HL4.out.t)
              have ct0 := hgt.1
              have ct1 := hgt.2
              have e4 := rg_ev q4
              exact rg_same (.agg #[.slice p1 n1 c1, .slice p2 N c2]) (by unfold Oper.wp execOp; go_simp; all_goals ((try simp only [e4]); (try go_simp); (try rw [if_pos (by omega)]); (try rw [if_neg (by omega)]); first | done | rfl | exact ⟨rfl, rfl⟩ | trivial)) rfl
            | 1, ho, _ =>
              cases ho
              have q38 : a'.tmps.getD 38 undef = .agg #[.slice p1 n1 c1, .slice p2 N c2] := (hpre { on := 0, ground := .data } (by simp) rfl)
              exact rg_call 38 16 _ _ _ rfl q38 (enters_of Tryz.func16 (by kernel_rfl) rfl) (RT.out W (HT4.out.below hbel)) (fun e w' h => ⟨_, h.1, _, rfl, rfl, h.2⟩)
            | 2, ho, _ =>
              cases ho
              have q39 : a'.tmps.getD 39 undef = .bool true := (hpre { on := 1, ground := .data } (by simp) rfl)
              have e39 := rg_ev q39
              exact rg_same (.bool false) (by unfold Oper.wp execOp; go_simp; all_goals ((try simp only [e39]); (try go_simp); (try rw [if_pos (by omega)]); (try rw [if_neg (by omega)]); first | done | rfl | exact ⟨rfl, rfl⟩ | trivial)) rfl
            | 3, ho, _ =>
              cases ho
              have q40 : a'.tmps.getD 40 undef = .bool false := (hpre { on := 2, ground := .data } (by simp) rfl)
              have e40 := rg_ev q40
              exact rg_same (.bool false) (by unfold Oper.wp execOp; go_simp; all_goals ((try simp only [e40]); (try go_simp); (try rw [if_pos (by omega)]); (try rw [if_neg (by omega)]); first | done | rfl | exact ⟨rfl, rfl⟩ | trivial)) rfl
            | 4, ho, hsel => exact absurd hsel (by decide)
            | 5, ho, hsel => exact absurd hsel (by decide)
            | 6, ho, hsel => exact absurd hsel (by decide)
            | 7, ho, hsel => exact absurd hsel (by decide)
            | 8, ho, hsel => exact absurd hsel (by decide)
            | 9, ho, hsel => exact absurd hsel (by decide)
            | 10, ho, hsel => exact absurd hsel (by decide)
            | 11, ho, _ =>
              cases ho
              have q41 : a'.tmps.getD 41 undef = .bool false := (hpre { on := 3, ground := .data } (by simp) rfl)
              have q48 : a'.tmps.getD 48 undef = undef := (hpre { on := 10, ground := .data } (by simp) rfl)
              have e41 := rg_ev q41
              have e48 := rg_ev q48
              exact rg_same (.bool false) (by unfold Oper.wp execOp; go_simp; all_goals ((try simp only [e41, e48]); (try go_simp); (try rw [if_pos (by omega)]); (try rw [if_neg (by omega)]); first | done | rfl | exact ⟨rfl, rfl⟩ | trivial)) rfl
            | 12, ho, _ =>
              cases ho
              have q49 : a'.tmps.getD 49 undef = .bool false := (hpre { on := 11, ground := .data } (by simp) rfl)
              have e49 := rg_ev q49
              exact rg_same (.bool false) (by unfold Oper.wp execOp; go_simp; all_goals ((try simp only [e49]); (try go_simp); (try rw [if_pos (by omega)]); (try rw [if_neg (by omega)]); first | done | rfl | exact ⟨rfl, rfl⟩ | trivial)) rfl
            | 13, ho, _ =>
              cases ho
              have q4 : a'.tmps.getD 4 undef = .pointer (some ⟨B, 0, none⟩) := (hrest 4 (by intro i hi; have hi : i < 49 := hi; show 38 + min i 48 ≠ _; omega))
              have hgt := two_cells ((hbel.block B (by have := HL4.out.lt; omega)).trans HL4.out.t)
              have ct0 := hgt.1
              have ct1 := hgt.2
              have e4 := rg_ev q4
              exact rg_same (.agg #[.slice p1 n1 c1, .slice p2 N c2]) (by unfold Oper.wp execOp; go_simp; all_goals ((try simp only [e4]); (try go_simp); (try rw [if_pos (by omega)]); (try rw [if_neg (by omega)]); first | done | rfl | exact ⟨rfl, rfl⟩ | trivial)) rfl
            | 14, ho, _ =>
              cases ho
              have q51 : a'.tmps.getD 51 undef = .agg #[.slice p1 n1 c1, .slice p2 N c2] := (hpre { on := 13, ground := .data } (by simp) rfl)
              exact rg_call 51 16 _ _ _ rfl q51 (enters_of Tryz.func16 (by kernel_rfl) rfl) (RT.out W (HT4.out.below hbel)) (fun e w' h => ⟨_, h.1, _, rfl, rfl, h.2⟩)
            | 15, ho, _ =>
              cases ho
              have q52 : a'.tmps.getD 52 undef = .bool true := (hpre { on := 14, ground := .data } (by simp) rfl)
              have e52 := rg_ev q52
              exact rg_same (.bool true) (by unfold Oper.wp execOp; go_simp; all_goals ((try simp only [e52]); (try go_simp); (try rw [if_pos (by omega)]); (try rw [if_neg (by omega)]); first | done | rfl | exact ⟨rfl, rfl⟩ | trivial)) rfl
            | 16, ho, _ =>
              cases ho
              have q9 : a'.tmps.getD 9 undef = .string xb := (hrest 9 (by intro i hi; have hi : i < 49 := hi; show 38 + min i 48 ≠ _; omega))
              have e9 := rg_ev q9
              exact rg_same (.string xb) (by unfold Oper.wp execOp; go_simp; all_goals ((try simp only [e9]); (try go_simp); (try rw [if_pos (by omega)]); (try rw [if_neg (by omega)]); first | done | rfl | exact ⟨rfl, rfl⟩ | trivial)) rfl
            | 17, ho, _ =>
              cases ho
              have q4 : a'.tmps.getD 4 undef = .pointer (some ⟨B, 0, none⟩) := (hrest 4 (by intro i hi; have hi : i < 49 := hi; show 38 + min i 48 ≠ _; omega))
              have hgt := two_cells ((hbel.block B (by have := HL4.out.lt; omega)).trans HL4.out.t)
              have ct0 := hgt.1
              have ct1 := hgt.2
              have e4 := rg_ev q4
              exact rg_same (.agg #[.slice p1 n1 c1, .slice p2 N c2]) (by unfold Oper.wp execOp; go_simp; all_goals ((try simp only [e4]); (try go_simp); (try rw [if_pos (by omega)]); (try rw [if_neg (by omega)]); first | done | rfl | exact ⟨rfl, rfl⟩ | trivial)) rfl
            | 18, ho, _ =>
              cases ho
              have q55 : a'.tmps.getD 55 undef = .agg #[.slice p1 n1 c1, .slice p2 N c2] := (hpre { on := 17, ground := .data } (by simp) rfl)
              exact rg_call 55 19 _ _ _ rfl q55 (enters_of Tryz.func19 (by kernel_rfl) rfl) (RX.out W (HT4.out.below hbel) (HQ4.out.below hbel)) (fun e w' h => ⟨_, h.1, _, rfl, rfl, h.2⟩)
            | 19, ho, _ =>
              cases ho
              have q54 : a'.tmps.getD 54 undef = .string xb := (hpre { on := 16, ground := .data } (by simp) rfl)
              have q56 : a'.tmps.getD 56 undef = .string xb := (hpre { on := 18, ground := .data } (by simp) rfl)
              have hnn : (xb.toList == xb.toList) = true := beq_self_eq_true _
              have e54 := rg_ev q54
              have e56 := rg_ev q56
              exact rg_same (.bool false) (by unfold Oper.wp execOp; go_simp; all_goals ((try simp only [e54, e56]); (try go_simp); (try rw [if_pos (by omega)]); (try rw [if_neg (by omega)]); first | done | rfl | exact ⟨rfl, rfl⟩ | trivial)) rfl
            | 20, ho, _ =>
              cases ho
              have q57 : a'.tmps.getD 57 undef = .bool false := (hpre { on := 19, ground := .data } (by simp) rfl)
              have e57 := rg_ev q57
              exact rg_same (.bool false) (by unfold Oper.wp execOp; go_simp; all_goals ((try simp only [e57]); (try go_simp); (try rw [if_pos (by omega)]); (try rw [if_neg (by omega)]); first | done | rfl | exact ⟨rfl, rfl⟩ | trivial)) rfl
            | 21, ho, _ =>
              cases ho
              have q10 : a'.tmps.getD 10 undef = .int .i64 0 := (hrest 10 (by intro i hi; have hi : i < 49 := hi; show 38 + min i 48 ≠ _; omega))
              have e10 := rg_ev q10
              exact rg_same (.int .i64 0) (by unfold Oper.wp execOp; go_simp; all_goals ((try simp only [e10]); (try go_simp); (try rw [if_pos (by omega)]); (try rw [if_neg (by omega)]); first | done | rfl | exact ⟨rfl, rfl⟩ | trivial)) rfl
            | 22, ho, _ =>
              cases ho
              have q59 : a'.tmps.getD 59 undef = .int .i64 0 := (hpre { on := 21, ground := .data } (by simp) rfl)
              exact rg_call 59 10 _ _ _ rfl q59 (enters_of Tryz.func10 (by kernel_rfl) rfl) (HN.out 0 W (by omega)) (fun e w' h => ⟨_, h.1, _, rfl, rfl, by rw [h.2]; exact Below.refl _ _⟩)
            | 23, ho, _ =>
              cases ho
              have q60 : a'.tmps.getD 60 undef = .int .i64 0 := (hpre { on := 22, ground := .data } (by simp) rfl)
              have e60 := rg_ev q60
              exact rg_same (.bool false) (by unfold Oper.wp execOp; go_simp; all_goals ((try simp only [e60]); (try go_simp); (try rw [if_pos (by omega)]); (try rw [if_neg (by omega)]); first | done | rfl | exact ⟨rfl, rfl⟩ | trivial)) rfl
            | 24, ho, _ =>
              cases ho
              have q58 : a'.tmps.getD 58 undef = .bool false := (hpre { on := 20, ground := .data } (by simp) rfl)
              have q61 : a'.tmps.getD 61 undef = .bool false := (hpre { on := 23, ground := .data } (by simp) rfl)
              have e58 := rg_ev q58
              have e61 := rg_ev q61
              exact rg_same (.bool false) (by unfold Oper.wp execOp; go_simp; all_goals ((try simp only [e58, e61]); (try go_simp); (try rw [if_pos (by omega)]); (try rw [if_neg (by omega)]); first | done | rfl | exact ⟨rfl, rfl⟩ | trivial)) rfl
            | 25, ho, _ =>
              cases ho
              have q53 : a'.tmps.getD 53 undef = .bool true := (hpre { on := 15, ground := .data } (by simp) rfl)
              have q62 : a'.tmps.getD 62 undef = .bool false := (hpre { on := 24, ground := .data } (by simp) rfl)
              have e53 := rg_ev q53
              have e62 := rg_ev q62
              exact rg_same (.bool false) (by unfold Oper.wp execOp; go_simp; all_goals ((try simp only [e53, e62]); (try go_simp); (try rw [if_pos (by omega)]); (try rw [if_neg (by omega)]); first | done | rfl | exact ⟨rfl, rfl⟩ | trivial)) rfl
            | 26, ho, _ =>
              cases ho
              have q50 : a'.tmps.getD 50 undef = .bool false := (hpre { on := 12, ground := .data } (by simp) rfl)
              have q63 : a'.tmps.getD 63 undef = .bool false := (hpre { on := 25, ground := .data } (by simp) rfl)
              have e50 := rg_ev q50
              have e63 := rg_ev q63
              exact rg_same (.bool false) (by unfold Oper.wp execOp; go_simp; all_goals ((try simp only [e50, e63]); (try go_simp); (try rw [if_pos (by omega)]); (try rw [if_neg (by omega)]); first | done | rfl | exact ⟨rfl, rfl⟩ | trivial)) rfl
            | 27, ho, _ =>
              cases ho
              have q64 : a'.tmps.getD 64 undef = .bool false := (hpre { on := 26, ground := .data } (by simp) rfl)
              have e64 := rg_ev q64
              exact rg_same (.bool false) (by unfold Oper.wp execOp; go_simp; all_goals ((try simp only [e64]); (try go_simp); (try rw [if_pos (by omega)]); (try rw [if_neg (by omega)]); first | done | rfl | exact ⟨rfl, rfl⟩ | trivial)) rfl
            | 28, ho, _ =>
              cases ho
              have q4 : a'.tmps.getD 4 undef = .pointer (some ⟨B, 0, none⟩) := (hrest 4 (by intro i hi; have hi : i < 49 := hi; show 38 + min i 48 ≠ _; omega))
              have hgt := two_cells ((hbel.block B (by have := HL4.out.lt; omega)).trans HL4.out.t)
              have ct0 := hgt.1
              have ct1 := hgt.2
              have e4 := rg_ev q4
              exact rg_same (.agg #[.slice p1 n1 c1, .slice p2 N c2]) (by unfold Oper.wp execOp; go_simp; all_goals ((try simp only [e4]); (try go_simp); (try rw [if_pos (by omega)]); (try rw [if_neg (by omega)]); first | done | rfl | exact ⟨rfl, rfl⟩ | trivial)) rfl
            | 29, ho, _ =>
              cases ho
              have q66 : a'.tmps.getD 66 undef = .agg #[.slice p1 n1 c1, .slice p2 N c2] := (hpre { on := 28, ground := .data } (by simp) rfl)
              exact rg_call 66 20 _ _ _ rfl q66 (enters_of Tryz.func20 (by kernel_rfl) rfl) (PA.out W (HT4.out.below hbel)) (fun e w' h => ⟨_, h.1, _, rfl, rfl, h.2⟩)
            | 30, ho, _ =>
              cases ho
              have q4 : a'.tmps.getD 4 undef = .pointer (some ⟨B, 0, none⟩) := (hrest 4 (by intro i hi; have hi : i < 49 := hi; show 38 + min i 48 ≠ _; omega))
              have hgt := two_cells ((hbel.block B (by have := HL4.out.lt; omega)).trans HL4.out.t)
              have ct0 := hgt.1
              have ct1 := hgt.2
              have e4 := rg_ev q4
              exact rg_same (.agg #[.slice p1 n1 c1, .slice p2 N c2]) (by unfold Oper.wp execOp; go_simp; all_goals ((try simp only [e4]); (try go_simp); (try rw [if_pos (by omega)]); (try rw [if_neg (by omega)]); first | done | rfl | exact ⟨rfl, rfl⟩ | trivial)) rfl
            | 31, ho, _ =>
              cases ho
              have q68 : a'.tmps.getD 68 undef = .agg #[.slice p1 n1 c1, .slice p2 N c2] := (hpre { on := 30, ground := .data } (by simp) rfl)
              exact rg_call 68 21 _ _ _ rfl q68 (enters_of Tryz.func21 (by kernel_rfl) rfl) (RP.out W (HT4.out.below hbel)) (fun e w' h => ⟨_, h.1, _, rfl, rfl, h.2⟩)
            | 32, ho, _ =>
              cases ho
              have q67 : a'.tmps.getD 67 undef = .string jb := (hpre { on := 29, ground := .data } (by simp) rfl)
              have q69 : a'.tmps.getD 69 undef = .string jb := (hpre { on := 31, ground := .data } (by simp) rfl)
              have hnn : (jb.toList == jb.toList) = true := beq_self_eq_true _
              have e67 := rg_ev q67
              have e69 := rg_ev q69
              exact rg_same (.bool false) (by unfold Oper.wp execOp; go_simp; all_goals ((try simp only [e67, e69]); (try go_simp); (try rw [if_pos (by omega)]); (try rw [if_neg (by omega)]); first | done | rfl | exact ⟨rfl, rfl⟩ | trivial)) rfl
            | 33, ho, _ =>
              cases ho
              have q65 : a'.tmps.getD 65 undef = .bool false := (hpre { on := 27, ground := .data } (by simp) rfl)
              have q70 : a'.tmps.getD 70 undef = .bool false := (hpre { on := 32, ground := .data } (by simp) rfl)
              have e65 := rg_ev q65
              have e70 := rg_ev q70
              exact rg_same (.bool false) (by unfold Oper.wp execOp; go_simp; all_goals ((try simp only [e65, e70]); (try go_simp); (try rw [if_pos (by omega)]); (try rw [if_neg (by omega)]); first | done | rfl | exact ⟨rfl, rfl⟩ | trivial)) rfl
            | 34, ho, _ =>
              cases ho
              have q71 : a'.tmps.getD 71 undef = .bool false := (hpre { on := 33, ground := .data } (by simp) rfl)
              have e71 := rg_ev q71
              exact rg_same (.bool false) (by unfold Oper.wp execOp; go_simp; all_goals ((try simp only [e71]); (try go_simp); (try rw [if_pos (by omega)]); (try rw [if_neg (by omega)]); first | done | rfl | exact ⟨rfl, rfl⟩ | trivial)) rfl
            | 35, ho, _ =>
              cases ho
              have q4 : a'.tmps.getD 4 undef = .pointer (some ⟨B, 0, none⟩) := (hrest 4 (by intro i hi; have hi : i < 49 := hi; show 38 + min i 48 ≠ _; omega))
              have hgt := two_cells ((hbel.block B (by have := HL4.out.lt; omega)).trans HL4.out.t)
              have ct0 := hgt.1
              have ct1 := hgt.2
              have e4 := rg_ev q4
              exact rg_same (.agg #[.slice p1 n1 c1, .slice p2 N c2]) (by unfold Oper.wp execOp; go_simp; all_goals ((try simp only [e4]); (try go_simp); (try rw [if_pos (by omega)]); (try rw [if_neg (by omega)]); first | done | rfl | exact ⟨rfl, rfl⟩ | trivial)) rfl
            | 36, ho, _ =>
              cases ho
              have q5 : a'.tmps.getD 5 undef = .pointer (some ⟨B + 1, 0, none⟩) := (hrest 5 (by intro i hi; have hi : i < 49 := hi; show 38 + min i 48 ≠ _; omega))
              have hgo := two_cells ((hbel.block (B + 1) (by have := HL4.out.lt; omega)).trans HL4.out.o)
              have co0 := hgo.1
              have co1 := hgo.2
              have e5 := rg_ev q5
              exact rg_same (.agg #[.slice q1 r1 d1, .slice q2 r2 d2]) (by unfold Oper.wp execOp; go_simp; all_goals ((try simp only [e5]); (try go_simp); (try rw [if_pos (by omega)]); (try rw [if_neg (by omega)]); first | done | rfl | exact ⟨rfl, rfl⟩ | trivial)) rfl
            | 37, ho, _ =>
              cases ho
              have q73 : a'.tmps.getD 73 undef = .agg #[.slice p1 n1 c1, .slice p2 N c2] := (hpre { on := 35, ground := .data } (by simp) rfl)
              have q74 : a'.tmps.getD 74 undef = .agg #[.slice q1 r1 d1, .slice q2 r2 d2] := (hpre { on := 36, ground := .data } (by simp) rfl)
              exact rg_call2 73 74 18 _ _ _ _ rfl q73 q74 (enters_of Tryz.func18 (by kernel_rfl) rfl) (SM.out W (HT4.out.below hbel) (HQ4.out.below hbel) (HO4.out.below hbel) (HP4.out.below hbel)) (fun e w' h => ⟨_, h.1, _, rfl, rfl, h.2⟩)
            | 38, ho, _ =>
              cases ho
              have q4 : a'.tmps.getD 4 undef = .pointer (some ⟨B, 0, none⟩) := (hrest 4 (by intro i hi; have hi : i < 49 := hi; show 38 + min i 48 ≠ _; omega))
              have hgt := two_cells ((hbel.block B (by have := HL4.out.lt; omega)).trans HL4.out.t)
              have ct0 := hgt.1
              have ct1 := hgt.2
              have e4 := rg_ev q4
              exact rg_same (.agg #[.slice p1 n1 c1, .slice p2 N c2]) (by unfold Oper.wp execOp; go_simp; all_goals ((try simp only [e4]); (try go_simp); (try rw [if_pos (by omega)]); (try rw [if_neg (by omega)]); first | done | rfl | exact ⟨rfl, rfl⟩ | trivial)) rfl
            | 39, ho, _ =>
              cases ho
              have q5 : a'.tmps.getD 5 undef = .pointer (some ⟨B + 1, 0, none⟩) := (hrest 5 (by intro i hi; have hi : i < 49 := hi; show 38 + min i 48 ≠ _; omega))
              have hgo := two_cells ((hbel.block (B + 1) (by have := HL4.out.lt; omega)).trans HL4.out.o)
              have co0 := hgo.1
              have co1 := hgo.2
              have e5 := rg_ev q5
              exact rg_same (.agg #[.slice q1 r1 d1, .slice q2 r2 d2]) (by unfold Oper.wp execOp; go_simp; all_goals ((try simp only [e5]); (try go_simp); (try rw [if_pos (by omega)]); (try rw [if_neg (by omega)]); first | done | rfl | exact ⟨rfl, rfl⟩ | trivial)) rfl
            | 40, ho, _ =>
              cases ho
              have q76 : a'.tmps.getD 76 undef = .agg #[.slice p1 n1 c1, .slice p2 N c2] := (hpre { on := 38, ground := .data } (by simp) rfl)
              have q77 : a'.tmps.getD 77 undef = .agg #[.slice q1 r1 d1, .slice q2 r2 d2] := (hpre { on := 39, ground := .data } (by simp) rfl)
              exact rg_call2 76 77 9 _ _ _ _ rfl q76 q77 (enters_of Tryz.func9 (by kernel_rfl) rfl) (RS.out W (HT4.out.below hbel) (HQ4.out.below hbel) (HO4.out.below hbel) (HP4.out.below hbel)) (fun e w' h => ⟨_, h.1, _, rfl, rfl, h.2⟩)
            | 41, ho, _ =>
              cases ho
              have q75 : a'.tmps.getD 75 undef = .bool sm := (hpre { on := 37, ground := .data } (by simp) rfl)
              have q78 : a'.tmps.getD 78 undef = .bool sm := (hpre { on := 40, ground := .data } (by simp) rfl)
              have hnn : (sm == sm) = true := beq_self_eq_true _
              have e75 := rg_ev q75
              have e78 := rg_ev q78
              exact rg_same (.bool false) (by unfold Oper.wp execOp; go_simp; all_goals ((try simp only [e75, e78]); (try go_simp); (try rw [if_pos (by omega)]); (try rw [if_neg (by omega)]); first | done | rfl | exact ⟨rfl, rfl⟩ | trivial)) rfl
            | 42, ho, _ =>
              cases ho
              have q72 : a'.tmps.getD 72 undef = .bool false := (hpre { on := 34, ground := .data } (by simp) rfl)
              have q79 : a'.tmps.getD 79 undef = .bool false := (hpre { on := 41, ground := .data } (by simp) rfl)
              have e72 := rg_ev q72
              have e79 := rg_ev q79
              exact rg_same (.bool false) (by unfold Oper.wp execOp; go_simp; all_goals ((try simp only [e72, e79]); (try go_simp); (try rw [if_pos (by omega)]); (try rw [if_neg (by omega)]); first | done | rfl | exact ⟨rfl, rfl⟩ | trivial)) rfl
            | 43, ho, _ =>
              cases ho
              have q80 : a'.tmps.getD 80 undef = .bool false := (hpre { on := 42, ground := .data } (by simp) rfl)
              have e80 := rg_ev q80
              exact rg_same (.bool false) (by unfold Oper.wp execOp; go_simp; all_goals ((try simp only [e80]); (try go_simp); (try rw [if_pos (by omega)]); (try rw [if_neg (by omega)]); first | done | rfl | exact ⟨rfl, rfl⟩ | trivial)) rfl
            | 44, ho, _ =>
              cases ho
              have q4 : a'.tmps.getD 4 undef = .pointer (some ⟨B, 0, none⟩) := (hrest 4 (by intro i hi; have hi : i < 49 := hi; show 38 + min i 48 ≠ _; omega))
              have hgt := two_cells ((hbel.block B (by have := HL4.out.lt; omega)).trans HL4.out.t)
              have ct0 := hgt.1
              have ct1 := hgt.2
              have e4 := rg_ev q4
              exact rg_same (.agg #[.slice p1 n1 c1, .slice p2 N c2]) (by unfold Oper.wp execOp; go_simp; all_goals ((try simp only [e4]); (try go_simp); (try rw [if_pos (by omega)]); (try rw [if_neg (by omega)]); first | done | rfl | exact ⟨rfl, rfl⟩ | trivial)) rfl
            | 45, ho, _ =>
              cases ho
              have q4 : a'.tmps.getD 4 undef = .pointer (some ⟨B, 0, none⟩) := (hrest 4 (by intro i hi; have hi : i < 49 := hi; show 38 + min i 48 ≠ _; omega))
              have hgt := two_cells ((hbel.block B (by have := HL4.out.lt; omega)).trans HL4.out.t)
              have ct0 := hgt.1
              have ct1 := hgt.2
              have e4 := rg_ev q4
              exact rg_same (.agg #[.slice p1 n1 c1, .slice p2 N c2]) (by unfold Oper.wp execOp; go_simp; all_goals ((try simp only [e4]); (try go_simp); (try rw [if_pos (by omega)]); (try rw [if_neg (by omega)]); first | done | rfl | exact ⟨rfl, rfl⟩ | trivial)) rfl
            | 46, ho, _ =>
              cases ho
              have q82 : a'.tmps.getD 82 undef = .agg #[.slice p1 n1 c1, .slice p2 N c2] := (hpre { on := 44, ground := .data } (by simp) rfl)
              have q83 : a'.tmps.getD 83 undef = .agg #[.slice p1 n1 c1, .slice p2 N c2] := (hpre { on := 45, ground := .data } (by simp) rfl)
              exact rg_call2 82 83 18 _ _ _ _ rfl q82 q83 (enters_of Tryz.func18 (by kernel_rfl) rfl) (ST.out W (HT4.out.below hbel) (HQ4.out.below hbel)) (fun e w' h => ⟨_, h.1, _, rfl, rfl, h.2⟩)
            | 47, ho, _ =>
              cases ho
              have q84 : a'.tmps.getD 84 undef = .bool true := (hpre { on := 46, ground := .data } (by simp) rfl)
              have e84 := rg_ev q84
              exact rg_same (.bool false) (by unfold Oper.wp execOp; go_simp; all_goals ((try simp only [e84]); (try go_simp); (try rw [if_pos (by omega)]); (try rw [if_neg (by omega)]); first | done | rfl | exact ⟨rfl, rfl⟩ | trivial)) rfl
            | 48, ho, _ =>
              cases ho
              have q81 : a'.tmps.getD 81 undef = .bool false := (hpre { on := 43, ground := .data } (by simp) rfl)
              have q85 : a'.tmps.getD 85 undef = .bool false := (hpre { on := 47, ground := .data } (by simp) rfl)
              have e81 := rg_ev q81
              have e85 := rg_ev q85
              exact rg_same (.bool false) (by unfold Oper.wp execOp; go_simp; all_goals ((try simp only [e81, e85]); (try go_simp); (try rw [if_pos (by omega)]); (try rw [if_neg (by omega)]); first | done | rfl | exact ⟨rfl, rfl⟩ | trivial)) rfl
            | n + 49, ho, _ => exact absurd ho (by simp)
          case done =>
            intro vs W hbel hvs
            have v0 : vs 0 = .agg #[.slice p1 n1 c1, .slice p2 N c2] := hvs 0 (by decide)
            have v1 : vs 1 = .bool true := hvs 1 (by decide)
            have v2 : vs 2 = .bool false := hvs 2 (by decide)
            have v3 : vs 3 = .bool false := hvs 3 (by decide)
            have v4 : vs 4 = undef := hvs 4 (by decide)
            have v5 : vs 5 = undef := hvs 5 (by decide)
            have v6 : vs 6 = undef := hvs 6 (by decide)
            have v7 : vs 7 = undef := hvs 7 (by decide)
            have v8 : vs 8 = undef := hvs 8 (by decide)
            have v9 : vs 9 = undef := hvs 9 (by decide)
            have v10 : vs 10 = undef := hvs 10 (by decide)
            have v11 : vs 11 = .bool false := hvs 11 (by decide)
            have v12 : vs 12 = .bool false := hvs 12 (by decide)
            have v13 : vs 13 = .agg #[.slice p1 n1 c1, .slice p2 N c2] := hvs 13 (by decide)
            have v14 : vs 14 = .bool true := hvs 14 (by decide)
            have v15 : vs 15 = .bool true := hvs 15 (by decide)
            have v16 : vs 16 = .string xb := hvs 16 (by decide)
            have v17 : vs 17 = .agg #[.slice p1 n1 c1, .slice p2 N c2] := hvs 17 (by decide)
            have v18 : vs 18 = .string xb := hvs 18 (by decide)
            have v19 : vs 19 = .bool false := hvs 19 (by decide)
            have v20 : vs 20 = .bool false := hvs 20 (by decide)
            have v21 : vs 21 = .int .i64 0 := hvs 21 (by decide)
            have v22 : vs 22 = .int .i64 0 := hvs 22 (by decide)
            have v23 : vs 23 = .bool false := hvs 23 (by decide)
            have v24 : vs 24 = .bool false := hvs 24 (by decide)
            have v25 : vs 25 = .bool false := hvs 25 (by decide)
            have v26 : vs 26 = .bool false := hvs 26 (by decide)
            have v27 : vs 27 = .bool false := hvs 27 (by decide)
            have v28 : vs 28 = .agg #[.slice p1 n1 c1, .slice p2 N c2] := hvs 28 (by decide)
            have v29 : vs 29 = .string jb := hvs 29 (by decide)
            have v30 : vs 30 = .agg #[.slice p1 n1 c1, .slice p2 N c2] := hvs 30 (by decide)
            have v31 : vs 31 = .string jb := hvs 31 (by decide)
            have v32 : vs 32 = .bool false := hvs 32 (by decide)
            have v33 : vs 33 = .bool false := hvs 33 (by decide)
            have v34 : vs 34 = .bool false := hvs 34 (by decide)
            have v35 : vs 35 = .agg #[.slice p1 n1 c1, .slice p2 N c2] := hvs 35 (by decide)
            have v36 : vs 36 = .agg #[.slice q1 r1 d1, .slice q2 r2 d2] := hvs 36 (by decide)
            have v37 : vs 37 = .bool sm := hvs 37 (by decide)
            have v38 : vs 38 = .agg #[.slice p1 n1 c1, .slice p2 N c2] := hvs 38 (by decide)
            have v39 : vs 39 = .agg #[.slice q1 r1 d1, .slice q2 r2 d2] := hvs 39 (by decide)
            have v40 : vs 40 = .bool sm := hvs 40 (by decide)
            have v41 : vs 41 = .bool false := hvs 41 (by decide)
            have v42 : vs 42 = .bool false := hvs 42 (by decide)
            have v43 : vs 43 = .bool false := hvs 43 (by decide)
            have v44 : vs 44 = .agg #[.slice p1 n1 c1, .slice p2 N c2] := hvs 44 (by decide)
            have v45 : vs 45 = .agg #[.slice p1 n1 c1, .slice p2 N c2] := hvs 45 (by decide)
            have v46 : vs 46 = .bool true := hvs 46 (by decide)
            have v47 : vs 47 = .bool false := hvs 47 (by decide)
            have v48 : vs 48 = .bool false := hvs 48 (by decide)
            have HBR := Lib.hid hbel
            simp only [fillN, List.size_toArray, List.length_cons, List.length_nil, Nat.reduceAdd, show List.range 49 = [0, 1, 2, 3, 4, 5, 6, 7, 8, 9, 10, 11, 12, 13, 14, 15, 16, 17, 18, 19, 20, 21, 22, 23, 24, 25, 26, 27, 28, 29, 30, 31, 32, 33, 34, 35, 36, 37, 38, 39, 40, 41, 42, 43, 44, 45, 46, 47, 48] from rfl, List.foldl_cons, List.foldl_nil, show 38 + min 0 48 = 38 from rfl, show 38 + min 1 48 = 39 from rfl, show 38 + min 2 48 = 40 from rfl, show 38 + min 3 48 = 41 from rfl, show 38 + min 4 48 = 42 from rfl, show 38 + min 5 48 = 43 from rfl, show 38 + min 6 48 = 44 from rfl, show 38 + min 7 48 = 45 from rfl, show 38 + min 8 48 = 46 from rfl, show 38 + min 9 48 = 47 from rfl, show 38 + min 10 48 = 48 from rfl, show 38 + min 11 48 = 49 from rfl, show 38 + min 12 48 = 50 from rfl, show 38 + min 13 48 = 51 from rfl, show 38 + min 14 48 = 52 from rfl, show 38 + min 15 48 = 53 from rfl, show 38 + min 16 48 = 54 from rfl, show 38 + min 17 48 = 55 from rfl, show 38 + min 18 48 = 56 from rfl, show 38 + min 19 48 = 57 from rfl, show 38 + min 20 48 = 58 from rfl, show 38 + min 21 48 = 59 from rfl, show 38 + min 22 48 = 60 from rfl, show 38 + min 23 48 = 61 from rfl, show 38 + min 24 48 = 62 from rfl, show 38 + min 25 48 = 63 from rfl, show 38 + min 26 48 = 64 from rfl, show 38 + min 27 48 = 65 from rfl, show 38 + min 28 48 = 66 from rfl, show 38 + min 29 48 = 67 from rfl, show 38 + min 30 48 = 68 from rfl, show 38 + min 31 48 = 69 from rfl, show 38 + min 32 48 = 70 from rfl, show 38 + min 33 48 = 71 from rfl, show 38 + min 34 48 = 72 from rfl, show 38 + min 35 48 = 73 from rfl, show 38 + min 36 48 = 74 from rfl, show 38 + min 37 48 = 75 from rfl, show 38 + min 38 48 = 76 from rfl, show 38 + min 39 48 = 77 from rfl, show 38 + min 40 48 = 78 from rfl, show 38 + min 41 48 = 79 from rfl, show 38 + min 42 48 = 80 from rfl, show 38 + min 43 48 = 81 from rfl, show 38 + min 44 48 = 82 from rfl, show 38 + min 45 48 = 83 from rfl, show 38 + min 46 48 = 84 from rfl, show 38 + min 47 48 = 85 from rfl, show 38 + min 48 48 = 86 from rfl, v0, v1, v2, v3, v4, v5, v6, v7, v8, v9, v10, v11, v12, v13, v14, v15, v16, v17, v18, v19, v20, v21, v22, v23, v24, v25, v26, v27, v28, v29, v30, v31, v32, v33, v34, v35, v36, v37, v38, v39, v40, v41, v42, v43, v44, v45, v46, v47, v48]
            clear v0 v1 v2 v3 v4 v5 v6 v7 v8 v9 v10 v11 v12 v13 v14 v15 v16 v17 v18 v19 v20 v21 v22 v23 v24 v25 v26 v27 v28 v29 v30 v31 v32 v33 v34 v35 v36 v37 v38 v39 v40 v41 v42 v43 v44 v45 v46 v47 v48 hvs hbel
            go_simp
            have HL5 := Lib.hid (HL4.out.next HBR.out)
            have hnil := gt_nil
            obtain ⟨t0, t1⟩ := two_cells HL5.out.t
            have HGE := Lib.hid (GE.out W (H1.out.below HL5.out.hb) (H2.out.below HL5.out.hb))
            unfold getOut at HGE
            by_cases hkN : k < N
            · rw [if_pos (by rw [HNN.out]; exact hkN)] at HGE
              obtain ⟨vb, hvb⟩ : ∃ z : ByteArray, tx (Q.getD k ([], [])).2 = .string z := ⟨_, rfl⟩
              rw [hvb] at HGE
              have HVB := Lib.hid hvb
              clear hvb
              go_wp2_with fail
              refine HGE.out.mono ?_
              rintro e w6 ⟨rfl, hb6⟩
              have HL6 := Lib.hid (HL5.out.next hb6)
              clear hb6 t0 t1
              obtain ⟨t0, t1⟩ := two_cells HL6.out.t
              obtain ⟨g1, o1, rfl, hcs⟩ := (H2.out.below HL6.out.hb).cells (k := k) (by rw [HNN.out]; exact hkN)
              have HCS := Lib.hid hcs
              clear hcs
              go_wp2_with fail
              go_loopw [13] (fun i wr => ∃ j : Nat, j ≤ k ∧ i = .int .i64 j ∧ wr = w6) (fun i _ => k - (intOf i).toNat)
              case atStart => exact ⟨0, Nat.zero_le _, rfl, by first | rfl | trivial⟩
              case round =>
                obtain ⟨j, hj, rfl, hwr⟩ := hrel
                have hwr2 := hwr.symm
                clear hwr
                subst hwr2
                obtain ⟨hx, hy⟩ := HCS.out j (by rw [HNN.out]; omega)
                obtain ⟨ab, hab⟩ : ∃ z : ByteArray, tx (Q.getD j ([], [])).1 = .string z := ⟨_, rfl⟩
                obtain ⟨zb, hzb⟩ : ∃ z : ByteArray, tx (Q.getD j ([], [])).2 = .string z := ⟨_, rfl⟩
                rw [hab] at hx
                rw [hzb] at hy
                by_cases hjk : j < k
                · have hne : ab ≠ kb := fun e => HK2.out j hjk (by rw [hab, e])
                  have hbq : (ab.toList == kb.toList) = false := beq_eq_false_iff_ne.2 (fun e => hne (ba_inj e))
                  have hjN : j < N := by omega
                  clear hab hzb hne
                  go_wp2_with fail
                  go_roundw
                  case rel => exact ⟨j + 1, hjk, by go_num, by first | rfl | trivial⟩
                  case measure => simp [intOf]; omega
                · have hjk2 : j = k := by omega
                  subst hjk2
                  have he : ab = kb := by
                    have h := HK3.out (by rw [HNN.out]; exact hkN)
                    rw [hab] at h
                    cases h; rfl
                  subst he
                  have hz : zb = vb := by
                    have h := HVB.out
                    rw [hzb] at h
                    cases h; rfl
                  subst hz
                  have lr := HL6.out.r.cell
                  have fr := HL6.out.r.frozen
                  have KP := Lib.hid (PP.out w6 (H2.out.below HL6.out.hb))
                  clear hab hzb hjk
                  go_wp2_with fail
                  refine KP.out.mono ?_
                  rintro e V ⟨C, r, rfl, hbC, hrow, hCB, hbV⟩
                  obtain ⟨oo, po, hpo, hat⟩ := PB.of hrow
                  have EV := HL6.out.next hbV
                  obtain ⟨TV, hTV⟩ : ∃ TV, V.heap.size = TV := ⟨_, rfl⟩
                  obtain ⟨V0, hV0⟩ : ∃ V0, V.alloc (.cells #[.int .i64 0] 3) = V0 := ⟨_, rfl⟩
                  have hB4 : B + 3 < TV := by rw [← hTV]; exact EV.lt
                  have HTV := Lib.hid hTV
                  have HV0 := Lib.hid hV0
                  clear t0 t1 lr fr hTV hV0
                  go_wp2_with fail
                  rw [HV0.out, HTV.out]
                  refine (wpIn_wide (n := 9)).1 ?_
                  refine wpIn_loop_rounds 3 ?_
                  rw [roundsIn_succ]
                  have E0 : LB w V0 (.slice p1 n1 c1) (.slice (some ⟨g1, o1, none⟩) N c2) (.slice q1 r1 d1) (.slice q2 r2 d2) m B := by rw [← HV0.out]; exact EV.alloc _
                  have bT : Boxed V0 TV 3 (.int .i64 0) := by rw [← HV0.out, ← HTV.out]; exact Boxed.new _ _ _
                  have po0 : PB oo V0 := by rw [← HV0.out]; exact po.below ((Below.refl _ _).alloc (Nat.le_refl _) _)
                  have bC0 : Boxed V0 C 24 r := by rw [← HV0.out]; exact hbC.alloc _
                  have hat0 := hat
                  have cT := bT.cell
                  obtain ⟨T', hT'⟩ : ∃ T', V0.heap.size = T' := ⟨_, rfl⟩
                  obtain ⟨X1, hX1⟩ : ∃ X1, V0.alloc (.cells #[.int .i64 0] 3) = X1 := ⟨_, rfl⟩
                  have E1 : LB w X1 (.slice p1 n1 c1) (.slice (some ⟨g1, o1, none⟩) N c2) (.slice q1 r1 d1) (.slice q2 r2 d2) m B := by rw [← hX1]; exact E0.alloc _
                  have bT1 : Boxed X1 TV 3 (.int .i64 0) := by rw [← hX1]; exact bT.alloc _
                  have bn1 : Boxed X1 T' 3 (.int .i64 0) := by rw [← hX1, ← hT']; exact Boxed.new _ _ _
                  have po1 : PB oo X1 := by rw [← hX1]; exact po0.below ((Below.refl _ _).alloc (Nat.le_refl _) _)
                  have bC1 : Boxed X1 C 24 r := by rw [← hX1]; exact bC0.alloc _
                  have hs1 : X1.heap.size = T' + 1 := by rw [← hX1, ← hT']; simp
                  have hTT : TV < T' := by rw [← hT']; exact bT.lt
                  have HX1 := Lib.hid hX1
                  have HT1 := Lib.hid hT'
                  have hCT : C < TV := by have := hbC.lt; rw [HTV.out] at this; exact this
                  clear hX1 hT' E0 bC0 po0 hat0
                  gi_wp2_with fail
                  rw [HX1.out, HT1.out]
                  have hatE := hat (T' + 3)
                  rw [HTV.out] at hatE
                  refine rf_break (id := 4) (N := N) (own := fun _ => False) (Kp := Keep (fun b => b = PB.at oo (T' + 3) ∨ b = T' + 3)) (encs := fun i => #[tx (Q.getD i ([], [])).1, tx (Q.getD i ([], [])).2]) rfl (by omega) (gf := 57) (lb := #[.pointer (some ⟨C, 0, none⟩)]) rfl trivial (enters_of Tryz.func57 (by kernel_rfl) rfl)
                    (fun _ => rfl) (fun b hb => hb.elim)
                    (fun X hX hs => by
                      have := pair_iter (E := T' + 3) (o := oo) (by omega) ((hX.block _ bC1.lt).trans bC1) (po1.below hX) hpo (by rw [HNN.out]; omega) (9 - 1)
                      rwa [HNN.out] at this)
                    Keep.trans (fun X ob o' h2 h3 => Keep.putObj _ _ _ (by omega))
                    (fun i X => LB w X (.slice p1 n1 c1) (.slice (some ⟨g1, o1, none⟩) N c2) (.slice q1 r1 d1) (.slice q2 r2 d2) m B ∧ PB oo X ∧ Boxed X C 24 r ∧ Boxed X TV 3 (.int .i64 0) ∧ Boxed X T' 3 (.int .i64 (i : Int)) ∧ (1 ≤ i → (i : Int) < m))
                    (fun X => ∃ i : Nat, i ≤ N ∧ (i = N ∨ (1 ≤ i ∧ m ≤ (i : Int))) ∧ (2 ≤ i → (i : Int) - 1 < m) ∧ LB w X (.slice p1 n1 c1) (.slice (some ⟨g1, o1, none⟩) N c2) (.slice q1 r1 d1) (.slice q2 r2 d2) m B ∧ PB oo X ∧ Boxed X C 24 r ∧ Boxed X TV 3 (.int .i64 0) ∧ Boxed X T' 3 (.int .i64 (i : Int)))
                    (fun i X Y hs ht => ⟨hs.1.turn ht (by omega), hs.2.1.turn ht, ht.boxed hs.2.2.1 (fun h => h), ht.boxed hs.2.2.2.1 (fun h => h), ht.boxed hs.2.2.2.2.1 (fun h => h), hs.2.2.2.2.2⟩)
                    (fun X Y hs ht => by
                      obtain ⟨i, e2, e3, e4, e5, e6, e7, e8, e9⟩ := hs
                      exact ⟨i, e2, e3, e4, e5.turn ht (by omega), e6.turn ht, ht.boxed e7 (fun h => h), ht.boxed e8 (fun h => h), ht.boxed e9 (fun h => h)⟩)
                    ⟨E1, po1, bC1, bT1, bn1, by omega⟩
                    (fun i b _ => b = { tmps := #[Value.agg #[Value.slice p1 n1 c1, Value.slice (some { block := g1, off := o1 }) N c2], Value.agg #[Value.slice q1 r1 d1, Value.slice q2 r2 d2], Value.string ab, Value.int IntKind.i64 m, Value.pointer (some { block := B, off := 0 }), Value.pointer (some { block := B + 1, off := 0 }), undef, Value.pointer (some { block := B + 2, off := 0 }), Value.pointer (some { block := B + 3, off := 0 }), Value.string xb, Value.int IntKind.i64 0, Value.string zb, Value.bool true, Value.int IntKind.i64 ↑j, Value.func (Fn.func 57) #[] #[Value.pointer (some { block := C, off := 0 })], Value.pointer (some { block := TV, off := 0 }), Value.pointer (some { block := T', off := 0 }), tx (Q.getD i ([], [])).1, tx (Q.getD i ([], [])).2, Value.agg #[Value.slice p1 n1 c1, Value.slice (some { block := g1, off := o1 }) N c2], Value.bool true, Value.bool false, Value.bool false, Value.agg #[Value.slice q1 r1 d1, Value.slice q2 r2 d2], Value.bool true, Value.bool false, Value.bool false, Value.bool false, Value.string ab, Value.int IntKind.i64 ↑ab.size, Value.bool false, Value.bool false, undef, Value.tuple #[Value.string xb, Value.int IntKind.i64 0], Value.agg #[Value.slice p1 n1 c1, Value.slice (some { block := g1, off := o1 }) N c2], Value.tuple #[Value.string xb, Value.int IntKind.i64 0], Value.string xb, Value.int IntKind.i64 0, Value.agg #[Value.slice p1 n1 c1, Value.slice (some { block := g1, off := o1 }) N c2], Value.bool true, Value.bool false, Value.bool false, undef, undef, undef, undef, undef, undef, undef, Value.bool false, Value.bool false, Value.agg #[Value.slice p1 n1 c1, Value.slice (some { block := g1, off := o1 }) N c2], Value.bool true, Value.bool true, Value.string xb, Value.agg #[Value.slice p1 n1 c1, Value.slice (some { block := g1, off := o1 }) N c2], Value.string xb, Value.bool false, Value.bool false, Value.int IntKind.i64 0, Value.int IntKind.i64 0, Value.bool false, Value.bool false, Value.bool false, Value.bool false, Value.bool false, Value.agg #[Value.slice p1 n1 c1, Value.slice (some { block := g1, off := o1 }) N c2], Value.string jb, Value.agg #[Value.slice p1 n1 c1, Value.slice (some { block := g1, off := o1 }) N c2], Value.string jb, Value.bool false, Value.bool false, Value.bool false, Value.agg #[Value.slice p1 n1 c1, Value.slice (some { block := g1, off := o1 }) N c2], Value.agg #[Value.slice q1 r1 d1, Value.slice q2 r2 d2], Value.bool sm, Value.agg #[Value.slice p1 n1 c1, Value.slice (some { block := g1, off := o1 }) N c2], Value.agg #[Value.slice q1 r1 d1, Value.slice q2 r2 d2], Value.bool sm, Value.bool false, Value.bool false, Value.bool false, Value.agg #[Value.slice p1 n1 c1, Value.slice (some { block := g1, off := o1 }) N c2], Value.agg #[Value.slice p1 n1 c1, Value.slice (some { block := g1, off := o1 }) N c2], Value.bool true, Value.bool false, Value.bool false, Value.tuple #[Value.string zb, Value.bool true], Value.agg #[Value.slice p1 n1 c1, Value.slice (some { block := g1, off := o1 }) N c2], Value.string ab, Value.tuple #[Value.string zb, Value.bool true], Value.string zb, Value.bool true, Value.int IntKind.i64 ↑j, Value.pointer (some { block := B, off := 1 }), Value.slice (some { block := g1, off := o1 }) N c2, Value.int IntKind.i64 ↑N, Value.bool true, Value.bool true, Value.pointer (some { block := B, off := 1 }), Value.slice (some { block := g1, off := o1 }) N c2, Value.int IntKind.i64 ↑j, Value.pointer (some { block := g1, off := o1 + j * 2 }), Value.pointer (some { block := g1, off := o1 + j * 2 }), Value.string ab, Value.string ab, Value.bool false, Value.bool false, u108, u109, Value.bool true, Value.int IntKind.i64 ↑j, Value.pointer (some { block := B, off := 1 }), Value.slice (some { block := g1, off := o1 }) N c2, Value.int IntKind.i64 ↑N, Value.bool true, Value.bool false, Value.bool false, Value.bool true, Value.bool true, Value.string zb, Value.pointer (some { block := B, off := 1 }), Value.slice (some { block := g1, off := o1 }) N c2, Value.int IntKind.i64 ↑j, Value.pointer (some { block := g1, off := o1 + j * 2 }), Value.pointer (some { block := g1, off := o1 + j * 2 + 1 }), Value.string zb, Value.bool false, Value.bool false, Value.bool false, Value.bool false, Value.bool true, Value.bool false, Value.bool false, undef, undef, Value.bool false, Value.bool false, Value.agg #[Value.slice p1 n1 c1, Value.slice (some { block := g1, off := o1 }) N c2], Value.func (Fn.func 57) #[] #[Value.pointer (some { block := C, off := 0 })], Value.func (Fn.func 57) #[] #[Value.pointer (some { block := C, off := 0 })], Value.bool false, Value.int IntKind.i64 0, Value.bool true, undef, undef, Value.func (Fn.func 57) #[] #[Value.pointer (some { block := C, off := 0 })], tx (Q.getD i ([], [])).1, tx (Q.getD i ([], [])).2, undef, undef, undef, undef, undef, undef, undef, undef, undef, undef, undef, undef, undef, undef, undef, undef, undef, undef, undef, undef, undef, undef, undef, undef, undef, undef, undef, undef, undef, undef, undef, undef, undef, undef, undef, undef, undef, undef, undef, undef, undef, undef, undef, undef, undef, undef, undef, undef, undef, undef], defers := [] })
                    (fun _ _ _ _ hs _ => hs) ?assign ?body ?all ?fin
                  case assign =>
                    intro l' i X K hi hI hK
                    gi_wp2
                    exact hK _ _ (KeepsFrom.refl _ _) (fun _ _ => rfl) hI rfl
                  case body =>
                    rintro l' i b X hl' ⟨rc, hr⟩ hi ⟨E2, po2, bC2, bT2, bn2, him⟩ rfl
                    have cn := bn2.cell
                    have fn := bn2.frozen
                    have cT2 := bT2.cell
                    have cm := E2.m.cell
                    obtain ⟨y0, y1⟩ := two_cells E2.t
                    obtain ⟨g9, o9, he9, hcs9⟩ := (H2.out.below E2.hb).cells (k := i) (by rw [HNN.out]; exact hi)
                    cases he9
                    obtain ⟨hx, hy⟩ := hcs9 i (by rw [HNN.out]; exact hi)
                    obtain ⟨xa, hxa⟩ : ∃ z : ByteArray, tx (Q.getD i ([], [])).1 = .string z := ⟨_, rfl⟩
                    obtain ⟨xc, hxc⟩ : ∃ z : ByteArray, tx (Q.getD i ([], [])).2 = .string z := ⟨_, rfl⟩
                    rw [hxa] at hx ⊢
                    rw [hxc] at hy ⊢
                    have HE2 := Lib.hid E2
                    have HbC2 := Lib.hid bC2
                    have HbT2 := Lib.hid bT2
                    have Hbn2 := Lib.hid bn2
                    have HPO2 := Lib.hid po2
                    have HIM := Lib.hid him
                    have hba : (xa.toList == xa.toList) = true := beq_self_eq_true _
                    have hbc : (xc.toList == xc.toList) = true := beq_self_eq_true _
                    clear E2 bT2 bn2 bC2 po2 him hxa hxc hcs9 cT
                    gi_wp2
                    · have h1 : m ≤ (i : Int) + 1 := by assumption
                      exact ⟨(KeepsOthers.setCell _ _ _).from _, rfl, i + 1, by omega, .inr ⟨by omega, by omega⟩, fun h => by have := HIM.out (by omega); omega, HE2.out.set (by omega) _, (po_set (E := T' + 3) HPO2.out (by omega) _ (by omega)), HbC2.out.other (by omega) _, HbT2.out.other (by omega) _, Hbn2.out.set _⟩
                    · have h1 : (i : Int) + 1 < m := by assumption
                      exact ⟨(KeepsOthers.setCell _ _ _).from _, fun b hb => Below.heap_setCell _ _ _ _ (by show b ≠ T'; omega), HE2.out.set (by omega) _, (po_set (E := T' + 3) HPO2.out (by omega) _ (by omega)), HbC2.out.other (by omega) _, HbT2.out.other (by omega) _, Hbn2.out.set _, fun _ => by omega⟩
                  case all =>
                    rintro X ⟨e1, e2, e3, e4, e5, e6⟩
                    exact ⟨N, Nat.le_refl _, .inl rfl, fun h => by have := e6 (by omega); omega, e1, e2, e3, e4, e5⟩
                  case fin =>
                    rintro D1 X hD1 ⟨i0, hiN, him, hil, E2, po2, bC2, bT2, bn2⟩ hK1
                    have cn := bn2.cell
                    have cT := bT2.cell
                    have fT := bT2.frozen
                    have cm := E2.m.cell
                    obtain ⟨y0, y1⟩ := two_cells E2.t
                    have HE2 := Lib.hid E2
                    have HbC2 := Lib.hid bC2
                    have HbT2 := Lib.hid bT2
                    have HPO2 := Lib.hid po2
                    have HK1D := Lib.hid hK1
                    have Hbn2 := Lib.hid bn2
                    obtain ⟨mx, hmx, hmi⟩ : ∃ mx : Int, (∀ W, (Builtin.max_ #[3, 3] 3 #[.int .i64 1, .int .i64 m]).run Tryz.prog W = .ok (.int .i64 mx) W) ∧ (∀ W, (Builtin.min_ #[3, 3] 3 #[.int .i64 (N : Int), .int .i64 mx]).run Tryz.prog W = .ok (.int .i64 (i0 : Int)) W) := by
                      refine ⟨if m > 1 then m else 1, fun W => gt_max _ _ _ _ W, fun W => ?_⟩
                      rw [gt_min]
                      congr 2
                      split <;> split <;> omega
                    clear E2 bT2 bn2 bC2 po2 him hK1 hil
                    gi_wp2_with fail
                    rw [roundsIn_succ]
                    obtain ⟨T2, hT2⟩ : ∃ T2, X.heap.size = T2 := ⟨_, rfl⟩
                    obtain ⟨X2, hX2⟩ : ∃ X2, X.alloc (.cells #[.int .i64 1] 3) = X2 := ⟨_, rfl⟩
                    obtain ⟨X3, hX3⟩ : ∃ X3, X2.alloc (.cells #[.int .i64 0] 3) = X3 := ⟨_, rfl⟩
                    have hCX : T' < X.heap.size := by have := Hbn2.out.lt; omega
                    have E3 : LB w X3 (.slice p1 n1 c1) (.slice (some ⟨g1, o1, none⟩) N c2) (.slice q1 r1 d1) (.slice q2 r2 d2) m B := by rw [← hX3, ← hX2]; exact (HE2.out.alloc _).alloc _
                    have po3 : PB oo X3 := by rw [← hX3, ← hX2]; exact (HPO2.out.below ((Below.refl _ _).alloc (Nat.le_refl _) _)).below ((Below.refl _ _).alloc (Nat.le_refl _) _)
                    have bC3 : Boxed X3 C 24 r := by rw [← hX3, ← hX2]; exact (HbC2.out.alloc _).alloc _
                    have bT3 : Boxed X3 T2 3 (.int .i64 1) := by rw [← hX3, ← hX2, ← hT2]; exact (Boxed.new _ _ _).alloc _
                    obtain ⟨C2, hC2⟩ : ∃ C2, X2.heap.size = C2 := ⟨_, rfl⟩
                    have hTC2 : C2 = T2 + 1 := by rw [← hC2, ← hX2, ← hT2]; simp
                    have bn3 : Boxed X3 C2 3 (.int .i64 0) := by rw [← hX3, ← hC2]; exact Boxed.new _ _ _
                    have hs3 : X3.heap.size = C2 + 1 := by rw [← hX3, ← hC2]; simp
                    have hD1s : D1 < T2 := by rw [← hT2]; exact (Array.getElem?_eq_some_iff.1 HK1D.out).1
                    have K3 : X3.heap[D1]? = some (.deferred (some [])) := by
                      rw [← hX3, ← hX2]
                      exact (Below.heap_alloc _ _ _ (by simp; omega)).trans ((Below.heap_alloc _ _ _ (by omega)).trans HK1D.out)
                    have cT2 : X2.cell? ⟨T2, 0, none⟩ = some (.int .i64 1) := by rw [← hX2, ← hT2]; exact (Boxed.new _ _ _).cell
                    have cT2b : (X2.alloc (.cells #[.int .i64 0] 3)).cell? ⟨T2, 0, none⟩ = some (.int .i64 1) := by rw [hX3]; exact bT3.cell
                    rw [hT2, hX2]
                    have HX3 := Lib.hid hX3
                    have HC2 := Lib.hid hC2
                    have HTC2 := Lib.hid hTC2
                    have hTT2 : T' < T2 := by omega
                    clear hX3 hC2 hT2 hX2 hTC2 cn cT fT cm y0 y1
                    gi_wp2_with fail
                    rw [HX3.out, HC2.out]
                    have hTC2 : T2 < C2 := by have := HTC2.out; omega
                    have hatE2 := hat (C2 + 3)
                    rw [HTV.out] at hatE2
                    clear cT2 cT2b
                    refine rf_break (id := 4) (N := N) (own := fun _ => False) (Kp := Keep (fun b => b = PB.at oo (C2 + 3) ∨ b = C2 + 3)) (encs := fun i => #[tx (Q.getD i ([], [])).1, tx (Q.getD i ([], [])).2]) rfl (by omega) (gf := 57) (lb := #[.pointer (some ⟨C, 0, none⟩)]) rfl trivial (enters_of Tryz.func57 (by kernel_rfl) rfl)
                      (fun _ => rfl) (fun b hb => hb.elim)
                      (fun Y hY hs => by
                        have := pair_iter (E := C2 + 3) (o := oo) (by omega) ((hY.block _ bC3.lt).trans bC3) (po3.below hY) hpo (by rw [HNN.out]; omega) (9 - 1)
                        rwa [HNN.out] at this)
                      Keep.trans (fun Y ob o' h2 h3 => Keep.putObj _ _ _ (by omega))
                      (fun i Y => LB w Y (.slice p1 n1 c1) (.slice (some ⟨g1, o1, none⟩) N c2) (.slice q1 r1 d1) (.slice q2 r2 d2) m B ∧ Boxed Y T2 3 (.int .i64 1) ∧ Boxed Y C2 3 (.int .i64 (i : Int)) ∧ Y.heap[D1]? = some (.deferred (some [])))
                      (fun Y => LB w Y (.slice p1 n1 c1) (.slice (some ⟨g1, o1, none⟩) N c2) (.slice q1 r1 d1) (.slice q2 r2 d2) m B ∧ Boxed Y T2 3 (.int .i64 1) ∧ Boxed Y C2 3 (.int .i64 (N : Int)) ∧ Y.heap[D1]? = some (.deferred (some [])))
                      (fun i Y Z hs ht => ⟨hs.1.turn ht (by omega), ht.boxed hs.2.1 (fun h => h), ht.boxed hs.2.2.1 (fun h => h), ht.low hs.2.2.2 (by omega) (fun h => h)⟩)
                      (fun Y Z hs ht => ⟨hs.1.turn ht (by omega), ht.boxed hs.2.1 (fun h => h), ht.boxed hs.2.2.1 (fun h => h), ht.low hs.2.2.2 (by omega) (fun h => h)⟩)
                      ⟨E3, bT3, bn3, K3⟩
                      (fun i b _ => b = { tmps := #[Value.agg #[Value.slice p1 n1 c1, Value.slice (some { block := g1, off := o1 }) N c2], Value.agg #[Value.slice q1 r1 d1, Value.slice q2 r2 d2], Value.string ab, Value.int IntKind.i64 m, Value.pointer (some { block := B, off := 0 }), Value.pointer (some { block := B + 1, off := 0 }), undef, Value.pointer (some { block := B + 2, off := 0 }), Value.pointer (some { block := B + 3, off := 0 }), Value.string xb, Value.int IntKind.i64 0, Value.string zb, Value.bool true, Value.int IntKind.i64 ↑j, Value.func (Fn.func 57) #[] #[Value.pointer (some { block := C, off := 0 })], .pointer (some ⟨T2, 0, none⟩), .pointer (some ⟨C2, 0, none⟩), tx (Q.getD i ([], [])).1, tx (Q.getD i ([], [])).2, Value.agg #[Value.slice p1 n1 c1, Value.slice (some { block := g1, off := o1 }) N c2], Value.bool true, Value.bool false, Value.bool false, Value.agg #[Value.slice q1 r1 d1, Value.slice q2 r2 d2], Value.bool true, Value.bool false, Value.bool false, Value.bool false, Value.string ab, Value.int IntKind.i64 ↑ab.size, Value.bool false, Value.bool false, undef, Value.tuple #[Value.string xb, Value.int IntKind.i64 0], Value.agg #[Value.slice p1 n1 c1, Value.slice (some { block := g1, off := o1 }) N c2], Value.tuple #[Value.string xb, Value.int IntKind.i64 0], Value.string xb, Value.int IntKind.i64 0, Value.agg #[Value.slice p1 n1 c1, Value.slice (some { block := g1, off := o1 }) N c2], Value.bool true, Value.bool false, Value.bool false, undef, undef, undef, undef, undef, undef, undef, Value.bool false, Value.bool false, Value.agg #[Value.slice p1 n1 c1, Value.slice (some { block := g1, off := o1 }) N c2], Value.bool true, Value.bool true, Value.string xb, Value.agg #[Value.slice p1 n1 c1, Value.slice (some { block := g1, off := o1 }) N c2], Value.string xb, Value.bool false, Value.bool false, Value.int IntKind.i64 0, Value.int IntKind.i64 0, Value.bool false, Value.bool false, Value.bool false, Value.bool false, Value.bool false, Value.agg #[Value.slice p1 n1 c1, Value.slice (some { block := g1, off := o1 }) N c2], Value.string jb, Value.agg #[Value.slice p1 n1 c1, Value.slice (some { block := g1, off := o1 }) N c2], Value.string jb, Value.bool false, Value.bool false, Value.bool false, Value.agg #[Value.slice p1 n1 c1, Value.slice (some { block := g1, off := o1 }) N c2], Value.agg #[Value.slice q1 r1 d1, Value.slice q2 r2 d2], Value.bool sm, Value.agg #[Value.slice p1 n1 c1, Value.slice (some { block := g1, off := o1 }) N c2], Value.agg #[Value.slice q1 r1 d1, Value.slice q2 r2 d2], Value.bool sm, Value.bool false, Value.bool false, Value.bool false, Value.agg #[Value.slice p1 n1 c1, Value.slice (some { block := g1, off := o1 }) N c2], Value.agg #[Value.slice p1 n1 c1, Value.slice (some { block := g1, off := o1 }) N c2], Value.bool true, Value.bool false, Value.bool false, Value.tuple #[Value.string zb, Value.bool true], Value.agg #[Value.slice p1 n1 c1, Value.slice (some { block := g1, off := o1 }) N c2], Value.string ab, Value.tuple #[Value.string zb, Value.bool true], Value.string zb, Value.bool true, Value.int IntKind.i64 ↑j, Value.pointer (some { block := B, off := 1 }), Value.slice (some { block := g1, off := o1 }) N c2, Value.int IntKind.i64 ↑N, Value.bool true, Value.bool true, Value.pointer (some { block := B, off := 1 }), Value.slice (some { block := g1, off := o1 }) N c2, Value.int IntKind.i64 ↑j, Value.pointer (some { block := g1, off := o1 + j * 2 }), Value.pointer (some { block := g1, off := o1 + j * 2 }), Value.string ab, Value.string ab, Value.bool false, Value.bool false, u108, u109, Value.bool true, Value.int IntKind.i64 ↑j, Value.pointer (some { block := B, off := 1 }), Value.slice (some { block := g1, off := o1 }) N c2, Value.int IntKind.i64 ↑N, Value.bool true, Value.bool false, Value.bool false, Value.bool true, Value.bool true, Value.string zb, Value.pointer (some { block := B, off := 1 }), Value.slice (some { block := g1, off := o1 }) N c2, Value.int IntKind.i64 ↑j, Value.pointer (some { block := g1, off := o1 + j * 2 }), Value.pointer (some { block := g1, off := o1 + j * 2 + 1 }), Value.string zb, Value.bool false, Value.bool false, Value.bool false, Value.bool false, Value.bool true, Value.bool false, Value.bool false, undef, undef, Value.bool false, Value.bool false, Value.agg #[Value.slice p1 n1 c1, Value.slice (some { block := g1, off := o1 }) N c2], Value.func (Fn.func 57) #[] #[Value.pointer (some { block := C, off := 0 })], Value.func (Fn.func 57) #[] #[Value.pointer (some { block := C, off := 0 })], Value.bool false, .int .i64 1, .bool true, .int .i64 0, .int .i64 1, Value.func (Fn.func 57) #[] #[Value.pointer (some { block := C, off := 0 })], tx (Q.getD i ([], [])).1, tx (Q.getD i ([], [])).2, undef, undef, undef, undef, undef, undef, undef, undef, undef, undef, undef, undef, undef, undef, undef, undef, undef, undef, undef, undef, undef, undef, undef, undef, undef, .int .i64 0, .bool true, .bool true, .int .i64 (i0 : Int), .pointer (some ⟨B, 1, none⟩), .slice (some ⟨g1, o1, none⟩) N c2, .int .i64 (N : Int), .int .i64 m, .int .i64 mx, .int .i64 (i0 : Int), .bool false, .bool false, .bool false, .int .i64 0, .bool false, .bool false, undef, undef, undef, undef, undef, .bool false, .bool false, .int .i64 0, undef], defers := [] })
                      (fun _ _ _ _ hs _ => hs) ?assign2 ?body2 ?all2 ?fin2
                    case assign2 =>
                      intro l' i Y K hi hI hK
                      gi_wp2
                      exact hK _ _ (KeepsFrom.refl _ _) (fun _ _ => rfl) hI rfl
                    case body2 =>
                      rintro l' i b Y hl' ⟨rc, hr⟩ hi ⟨E4, bT4, bn4, K4⟩ rfl
                      have cn := bn4.cell
                      have fn := bn4.frozen
                      have cT := bT4.cell
                      have cm := E4.m.cell
                      obtain ⟨y0, y1⟩ := two_cells E4.t
                      obtain ⟨g9, o9, he9, hcs9⟩ := (H2.out.below E4.hb).cells (k := i) (by rw [HNN.out]; exact hi)
                      cases he9
                      obtain ⟨hx, hy⟩ := hcs9 i (by rw [HNN.out]; exact hi)
                      obtain ⟨xa, hxa⟩ : ∃ z : ByteArray, tx (Q.getD i ([], [])).1 = .string z := ⟨_, rfl⟩
                      obtain ⟨xc, hxc⟩ : ∃ z : ByteArray, tx (Q.getD i ([], [])).2 = .string z := ⟨_, rfl⟩
                      rw [hxa] at hx ⊢
                      rw [hxc] at hy ⊢
                      have HE4 := Lib.hid E4
                      have HbT4 := Lib.hid bT4
                      have Hbn4 := Lib.hid bn4
                      have HK4 := Lib.hid K4
                      have hba : (xa.toList == xa.toList) = true := beq_self_eq_true _
                      have hbc : (xc.toList == xc.toList) = true := beq_self_eq_true _
                      clear E4 bT4 bn4 K4 hmx hmi hxa hxc hcs9
                      gi_wp2
                      exact ⟨(KeepsOthers.setCell _ _ _).from _, fun b hb => Below.heap_setCell _ _ _ _ (by show b ≠ C2; omega), HE4.out.set (by omega) _, HbT4.out.other (by omega) _, Hbn4.out.set _, (Below.heap_setCell _ _ _ _ (by show D1 ≠ C2; omega)).trans HK4.out⟩
                    case all2 =>
                      rintro Y ⟨e1, e2, e3, e4⟩
                      exact ⟨e1, e2, e3, e4⟩
                    case fin2 =>
                      rintro D2 Y hD2 ⟨E5, bT5, bn5, K5⟩ hK2
                      have cn := bn5.cell
                      have cT := bT5.cell
                      have cm := E5.m.cell
                      obtain ⟨y0, y1⟩ := two_cells E5.t
                      have HE5 := Lib.hid E5
                      have HK5 := Lib.hid K5
                      have HK2D := Lib.hid hK2
                      clear E5 bT5 bn5 K5 hK2 hmx hmi
                      gi_wp2_with fail
                      rw [roundsIn_succ]
                      obtain ⟨Z, hZ⟩ : ∃ Z, Y.alloc (.cells #[.int .i64 2] 3) = Z := ⟨_, rfl⟩
                      obtain ⟨T3, hT3⟩ : ∃ T3, Y.heap.size = T3 := ⟨_, rfl⟩
                      have cZ : Z.cell? ⟨T3, 0, none⟩ = some (.int .i64 2) := by rw [← hZ, ← hT3]; exact (Boxed.new _ _ _).cell
                      have E6 : LB w Z (.slice p1 n1 c1) (.slice (some ⟨g1, o1, none⟩) N c2) (.slice q1 r1 d1) (.slice q2 r2 d2) m B := by rw [← hZ]; exact HE5.out.alloc _
                      have K6 : Z.heap[D1]? = some (.deferred (some [])) := by rw [← hZ]; exact (Below.heap_alloc _ _ _ (Array.getElem?_eq_some_iff.1 HK5.out).1).trans HK5.out
                      have K7 : Z.heap[D2]? = some (.deferred (some [])) := by rw [← hZ]; exact (Below.heap_alloc _ _ _ (Array.getElem?_eq_some_iff.1 HK2D.out).1).trans HK2D.out
                      rw [hT3, hZ]
                      have HE6 := Lib.hid E6
                      have HK6 := Lib.hid K6
                      have HK7 := Lib.hid K7
                      have WKZ := Lib.hid (WK.out Z (HK.out.below E6.hb))
                      clear hT3 hZ E6 K6 K7 cn cT cm y0 y1
                      gi_wp2_with fail
                      first
                        | refine WKZ.out.mono ?_
                        | refine ⟨trivial, (callsIn_wide.2 WKZ.out).mono ?_⟩
                        | (go_wp2_with fail; refine WKZ.out.mono ?_)
                      rintro e V' ⟨rfl, hbV⟩
                      have bR : Boxed V' (B + 3) 4 (.bool false) := (hbV.block _ HE6.out.r.lt).trans HE6.out.r
                      have K8 : V'.heap[D1]? = some (.deferred (some [])) := (hbV.block _ (Array.getElem?_eq_some_iff.1 HK6.out).1).trans HK6.out
                      have K9 : V'.heap[D2]? = some (.deferred (some [])) := (hbV.block _ (Array.getElem?_eq_some_iff.1 HK7.out).1).trans HK7.out
                      have bV := HE6.out.hb.trans (hbV.mono HE6.out.hb.size)
                      have cR := bR.cell
                      have fR := bR.frozen
                      have HK8 := Lib.hid K8
                      have HK9 := Lib.hid K9
                      have HbR := Lib.hid bR
                      have HbV := Lib.hid bV
                      clear bR K8 K9 bV hbV
                      first | go_wp2_with fail | skip
                      have hBw := HE6.out.hB
                      have d2 : B + 3 < D2 := by omega
                      have d1 : B + 3 < D1 := by omega
                      have d12 : D1 ≠ D2 := by omega
                      have L9 : (V'.setCell ⟨B + 3, 0, none⟩ (.bool true)).heap[D2]? = some (.deferred (some [])) := (Below.heap_setCell _ _ _ _ (by show D2 ≠ B + 3; omega)).trans HK9.out
                      have L8 : ((V'.setCell ⟨B + 3, 0, none⟩ (.bool true)).putObj D2 (.deferred none)).heap[D1]? = some (.deferred (some [])) := (World.putObj_heap_other d12).trans ((Below.heap_setCell _ _ _ _ (by show D1 ≠ B + 3; omega)).trans HK8.out)
                      have L0 : Boxed (((V'.setCell ⟨B + 3, 0, none⟩ (.bool true)).putObj D2 (.deferred none)).putObj D1 (.deferred none)) (B + 3) 4 (.bool true) := (World.putObj_heap_other (by omega)).trans ((World.putObj_heap_other (by omega)).trans (HbR.out.set _))
                      have c0 := L0.cell
                      refine ⟨by simp, .inl ⟨_, _, rfl, run_takeDeferred L9, ?_⟩⟩
                      refine ⟨by simp, .inl ⟨_, _, rfl, run_takeDeferred L8, ?_⟩⟩
                      refine ⟨.bool true, ?_, rfl, ?_⟩
                      · simp [results, Tryz.results5, go_sem, c0]
                      · refine (HbV.out.setCell (p := ⟨B + 3, 0, none⟩) (by show w.heap.size ≤ B + 3; omega) _).trans ((belowK_b (w := w) (Nat.le_refl _) _ D2 _ _ (by omega) L9 rfl rfl).trans (belowK_b (w := w) (Nat.le_refl _) _ D1 _ _ (by omega) L8 rfl rfl))

            · rw [if_neg (by rw [HNN.out]; exact hkN)] at HGE
              go_wp2_with fail
              refine HGE.out.mono ?_
              rintro e w6 ⟨rfl, hb6⟩
              have HL6 := Lib.hid (HL5.out.next hb6)
              clear hb6 t0 t1
              obtain ⟨t0, t1⟩ := two_cells HL6.out.t
              have hkN2 : k = N := by have := HK1.out; omega
              go_wp2_with fail
              go_loopw [13] (fun i wr => ∃ j : Nat, j ≤ k ∧ i = .int .i64 j ∧ wr = w6) (fun i _ => k - (intOf i).toNat)
              case atStart => exact ⟨0, Nat.zero_le _, rfl, by first | rfl | trivial⟩
              case round =>
                obtain ⟨j, hj, rfl, hwr⟩ := hrel
                have hwr2 := hwr.symm
                clear hwr
                subst hwr2
                by_cases hjk : j < k
                · obtain ⟨g1, o1, rfl, hcs⟩ := (H2.out.below HL6.out.hb).cells (k := j) (by rw [HNN.out]; omega)
                  obtain ⟨hx, hy⟩ := hcs j (by rw [HNN.out]; omega)
                  obtain ⟨ab, hab⟩ : ∃ z : ByteArray, tx (Q.getD j ([], [])).1 = .string z := ⟨_, rfl⟩
                  rw [hab] at hx
                  have hne : ab ≠ kb := fun e => HK2.out j hjk (by rw [hab, e])
                  have hbq : (ab.toList == kb.toList) = false := beq_eq_false_iff_ne.2 (fun e => hne (ba_inj e))
                  have hjN : j < N := by omega
                  clear hab hne hcs hy
                  go_wp2_with fail
                  go_roundw
                  case rel => exact ⟨j + 1, hjk, by go_num, by first | rfl | trivial⟩
                  case measure => simp [intOf]; omega
                · have hjk2 : j = k := by omega
                  subst hjk2
                  have lr := HL6.out.r.cell
                  have fr := HL6.out.r.frozen
                  have KP := Lib.hid (PP.out w6 (H2.out.below HL6.out.hb))
                  clear hjk
                  go_wp2_with fail
                  refine KP.out.mono ?_
                  rintro e V ⟨C, r, rfl, hbC, hrow, hCB, hbV⟩
                  obtain ⟨oo, po, hpo, hat⟩ := PB.of hrow
                  have EV := HL6.out.next hbV
                  obtain ⟨TV, hTV⟩ : ∃ TV, V.heap.size = TV := ⟨_, rfl⟩
                  obtain ⟨V0, hV0⟩ : ∃ V0, V.alloc (.cells #[.int .i64 0] 3) = V0 := ⟨_, rfl⟩
                  have hB4 : B + 3 < TV := by rw [← hTV]; exact EV.lt
                  have HTV := Lib.hid hTV
                  have HV0 := Lib.hid hV0
                  clear t0 t1 lr fr hTV hV0
                  go_wp2_with fail
                  rw [HV0.out, HTV.out]
                  refine (wpIn_wide (n := 9)).1 ?_
                  refine wpIn_loop_rounds 3 ?_
                  rw [roundsIn_succ]
                  have E0 : LB w V0 (.slice p1 n1 c1) (.slice p2 N c2) (.slice q1 r1 d1) (.slice q2 r2 d2) m B := by rw [← HV0.out]; exact EV.alloc _
                  have bT : Boxed V0 TV 3 (.int .i64 0) := by rw [← HV0.out, ← HTV.out]; exact Boxed.new _ _ _
                  have po0 : PB oo V0 := by rw [← HV0.out]; exact po.below ((Below.refl _ _).alloc (Nat.le_refl _) _)
                  have bC0 : Boxed V0 C 24 r := by rw [← HV0.out]; exact hbC.alloc _
                  have hat0 := hat
                  have cT := bT.cell
                  obtain ⟨T', hT'⟩ : ∃ T', V0.heap.size = T' := ⟨_, rfl⟩
                  obtain ⟨X1, hX1⟩ : ∃ X1, V0.alloc (.cells #[.int .i64 0] 3) = X1 := ⟨_, rfl⟩
                  have E1 : LB w X1 (.slice p1 n1 c1) (.slice p2 N c2) (.slice q1 r1 d1) (.slice q2 r2 d2) m B := by rw [← hX1]; exact E0.alloc _
                  have bT1 : Boxed X1 TV 3 (.int .i64 0) := by rw [← hX1]; exact bT.alloc _
                  have bn1 : Boxed X1 T' 3 (.int .i64 0) := by rw [← hX1, ← hT']; exact Boxed.new _ _ _
                  have po1 : PB oo X1 := by rw [← hX1]; exact po0.below ((Below.refl _ _).alloc (Nat.le_refl _) _)
                  have bC1 : Boxed X1 C 24 r := by rw [← hX1]; exact bC0.alloc _
                  have hs1 : X1.heap.size = T' + 1 := by rw [← hX1, ← hT']; simp
                  have hTT : TV < T' := by rw [← hT']; exact bT.lt
                  have HX1 := Lib.hid hX1
                  have HT1 := Lib.hid hT'
                  have hCT : C < TV := by have := hbC.lt; rw [HTV.out] at this; exact this
                  clear hX1 hT' E0 bC0 po0 hat0
                  gi_wp2_with fail
                  rw [HX1.out, HT1.out]
                  have hatE := hat (T' + 3)
                  rw [HTV.out] at hatE
                  refine rf_break (id := 4) (N := N) (own := fun _ => False) (Kp := Keep (fun b => b = PB.at oo (T' + 3) ∨ b = T' + 3)) (encs := fun i => #[tx (Q.getD i ([], [])).1, tx (Q.getD i ([], [])).2]) rfl (by omega) (gf := 57) (lb := #[.pointer (some ⟨C, 0, none⟩)]) rfl trivial (enters_of Tryz.func57 (by kernel_rfl) rfl)
                    (fun _ => rfl) (fun b hb => hb.elim)
                    (fun X hX hs => by
                      have := pair_iter (E := T' + 3) (o := oo) (by omega) ((hX.block _ bC1.lt).trans bC1) (po1.below hX) hpo (by rw [HNN.out]; omega) (9 - 1)
                      rwa [HNN.out] at this)
                    Keep.trans (fun X ob o' h2 h3 => Keep.putObj _ _ _ (by omega))
                    (fun i X => LB w X (.slice p1 n1 c1) (.slice p2 N c2) (.slice q1 r1 d1) (.slice q2 r2 d2) m B ∧ PB oo X ∧ Boxed X C 24 r ∧ Boxed X TV 3 (.int .i64 0) ∧ Boxed X T' 3 (.int .i64 (i : Int)) ∧ (1 ≤ i → (i : Int) < m))
                    (fun X => ∃ i : Nat, i ≤ N ∧ (i = N ∨ (1 ≤ i ∧ m ≤ (i : Int))) ∧ (2 ≤ i → (i : Int) - 1 < m) ∧ LB w X (.slice p1 n1 c1) (.slice p2 N c2) (.slice q1 r1 d1) (.slice q2 r2 d2) m B ∧ PB oo X ∧ Boxed X C 24 r ∧ Boxed X TV 3 (.int .i64 0) ∧ Boxed X T' 3 (.int .i64 (i : Int)))
                    (fun i X Y hs ht => ⟨hs.1.turn ht (by omega), hs.2.1.turn ht, ht.boxed hs.2.2.1 (fun h => h), ht.boxed hs.2.2.2.1 (fun h => h), ht.boxed hs.2.2.2.2.1 (fun h => h), hs.2.2.2.2.2⟩)
                    (fun X Y hs ht => by
                      obtain ⟨i, e2, e3, e4, e5, e6, e7, e8, e9⟩ := hs
                      exact ⟨i, e2, e3, e4, e5.turn ht (by omega), e6.turn ht, ht.boxed e7 (fun h => h), ht.boxed e8 (fun h => h), ht.boxed e9 (fun h => h)⟩)
                    ⟨E1, po1, bC1, bT1, bn1, by omega⟩
                    (fun i b _ => b = { tmps := #[Value.agg #[Value.slice p1 n1 c1, Value.slice p2 N c2], Value.agg #[Value.slice q1 r1 d1, Value.slice q2 r2 d2], Value.string kb, Value.int IntKind.i64 m, Value.pointer (some { block := B, off := 0 }), Value.pointer (some { block := B + 1, off := 0 }), undef, Value.pointer (some { block := B + 2, off := 0 }), Value.pointer (some { block := B + 3, off := 0 }), Value.string xb, Value.int IntKind.i64 0, Value.string { data := #[] }, Value.bool false, Value.int IntKind.i64 ↑N, Value.func (Fn.func 57) #[] #[Value.pointer (some { block := C, off := 0 })], Value.pointer (some { block := TV, off := 0 }), Value.pointer (some { block := T', off := 0 }), tx (Q.getD i ([], [])).1, tx (Q.getD i ([], [])).2, Value.agg #[Value.slice p1 n1 c1, Value.slice p2 N c2], Value.bool true, Value.bool false, Value.bool false, Value.agg #[Value.slice q1 r1 d1, Value.slice q2 r2 d2], Value.bool true, Value.bool false, Value.bool false, Value.bool false, Value.string kb, Value.int IntKind.i64 ↑kb.size, Value.bool false, Value.bool false, undef, Value.tuple #[Value.string xb, Value.int IntKind.i64 0], Value.agg #[Value.slice p1 n1 c1, Value.slice p2 N c2], Value.tuple #[Value.string xb, Value.int IntKind.i64 0], Value.string xb, Value.int IntKind.i64 0, Value.agg #[Value.slice p1 n1 c1, Value.slice p2 N c2], Value.bool true, Value.bool false, Value.bool false, undef, undef, undef, undef, undef, undef, undef, Value.bool false, Value.bool false, Value.agg #[Value.slice p1 n1 c1, Value.slice p2 N c2], Value.bool true, Value.bool true, Value.string xb, Value.agg #[Value.slice p1 n1 c1, Value.slice p2 N c2], Value.string xb, Value.bool false, Value.bool false, Value.int IntKind.i64 0, Value.int IntKind.i64 0, Value.bool false, Value.bool false, Value.bool false, Value.bool false, Value.bool false, Value.agg #[Value.slice p1 n1 c1, Value.slice p2 N c2], Value.string jb, Value.agg #[Value.slice p1 n1 c1, Value.slice p2 N c2], Value.string jb, Value.bool false, Value.bool false, Value.bool false, Value.agg #[Value.slice p1 n1 c1, Value.slice p2 N c2], Value.agg #[Value.slice q1 r1 d1, Value.slice q2 r2 d2], Value.bool sm, Value.agg #[Value.slice p1 n1 c1, Value.slice p2 N c2], Value.agg #[Value.slice q1 r1 d1, Value.slice q2 r2 d2], Value.bool sm, Value.bool false, Value.bool false, Value.bool false, Value.agg #[Value.slice p1 n1 c1, Value.slice p2 N c2], Value.agg #[Value.slice p1 n1 c1, Value.slice p2 N c2], Value.bool true, Value.bool false, Value.bool false, Value.tuple #[Value.string { data := #[] }, Value.bool false], Value.agg #[Value.slice p1 n1 c1, Value.slice p2 N c2], Value.string kb, Value.tuple #[Value.string { data := #[] }, Value.bool false], Value.string { data := #[] }, Value.bool false, Value.int IntKind.i64 ↑N, Value.pointer (some { block := B, off := 1 }), Value.slice p2 N c2, Value.int IntKind.i64 ↑N, Value.bool false, Value.bool false, undef, undef, undef, undef, undef, undef, undef, undef, Value.bool false, u108, u109, Value.bool false, Value.int IntKind.i64 ↑N, Value.pointer (some { block := B, off := 1 }), Value.slice p2 N c2, Value.int IntKind.i64 ↑N, Value.bool false, Value.bool false, Value.bool false, Value.bool false, Value.bool false, undef, undef, undef, undef, undef, undef, undef, undef, Value.bool false, Value.bool false, Value.bool false, Value.bool false, Value.bool true, Value.bool true, Value.string { data := #[] }, Value.bool false, Value.bool false, Value.bool false, Value.agg #[Value.slice p1 n1 c1, Value.slice p2 N c2], Value.func (Fn.func 57) #[] #[Value.pointer (some { block := C, off := 0 })], Value.func (Fn.func 57) #[] #[Value.pointer (some { block := C, off := 0 })], Value.bool false, Value.int IntKind.i64 0, Value.bool true, undef, undef, Value.func (Fn.func 57) #[] #[Value.pointer (some { block := C, off := 0 })], tx (Q.getD i ([], [])).1, tx (Q.getD i ([], [])).2, undef, undef, undef, undef, undef, undef, undef, undef, undef, undef, undef, undef, undef, undef, undef, undef, undef, undef, undef, undef, undef, undef, undef, undef, undef, undef, undef, undef, undef, undef, undef, undef, undef, undef, undef, undef, undef, undef, undef, undef, undef, undef, undef, undef, undef, undef, undef, undef, undef, undef], defers := [] })
                    (fun _ _ _ _ hs _ => hs) ?assign ?body ?all ?fin
                  case assign =>
                    intro l' i X K hi hI hK
                    gi_wp2
                    exact hK _ _ (KeepsFrom.refl _ _) (fun _ _ => rfl) hI rfl
                  case body =>
                    rintro l' i b X hl' ⟨rc, hr⟩ hi ⟨E2, po2, bC2, bT2, bn2, him⟩ rfl
                    have cn := bn2.cell
                    have fn := bn2.frozen
                    have cT2 := bT2.cell
                    have cm := E2.m.cell
                    obtain ⟨y0, y1⟩ := two_cells E2.t
                    obtain ⟨g9, o9, he9, hcs9⟩ := (H2.out.below E2.hb).cells (k := i) (by rw [HNN.out]; exact hi)
                    cases he9
                    obtain ⟨hx, hy⟩ := hcs9 i (by rw [HNN.out]; exact hi)
                    obtain ⟨xa, hxa⟩ : ∃ z : ByteArray, tx (Q.getD i ([], [])).1 = .string z := ⟨_, rfl⟩
                    obtain ⟨xc, hxc⟩ : ∃ z : ByteArray, tx (Q.getD i ([], [])).2 = .string z := ⟨_, rfl⟩
                    rw [hxa] at hx ⊢
                    rw [hxc] at hy ⊢
                    have HE2 := Lib.hid E2
                    have HbC2 := Lib.hid bC2
                    have HbT2 := Lib.hid bT2
                    have Hbn2 := Lib.hid bn2
                    have HPO2 := Lib.hid po2
                    have HIM := Lib.hid him
                    have hba : (xa.toList == xa.toList) = true := beq_self_eq_true _
                    have hbc : (xc.toList == xc.toList) = true := beq_self_eq_true _
                    clear E2 bT2 bn2 bC2 po2 him hxa hxc hcs9 cT
                    gi_wp2
                    · have h1 : m ≤ (i : Int) + 1 := by assumption
                      exact ⟨(KeepsOthers.setCell _ _ _).from _, rfl, i + 1, by omega, .inr ⟨by omega, by omega⟩, fun h => by have := HIM.out (by omega); omega, HE2.out.set (by omega) _, (po_set (E := T' + 3) HPO2.out (by omega) _ (by omega)), HbC2.out.other (by omega) _, HbT2.out.other (by omega) _, Hbn2.out.set _⟩
                    · have h1 : (i : Int) + 1 < m := by assumption
                      exact ⟨(KeepsOthers.setCell _ _ _).from _, fun b hb => Below.heap_setCell _ _ _ _ (by show b ≠ T'; omega), HE2.out.set (by omega) _, (po_set (E := T' + 3) HPO2.out (by omega) _ (by omega)), HbC2.out.other (by omega) _, HbT2.out.other (by omega) _, Hbn2.out.set _, fun _ => by omega⟩
                  case all =>
                    rintro X ⟨e1, e2, e3, e4, e5, e6⟩
                    exact ⟨N, Nat.le_refl _, .inl rfl, fun h => by have := e6 (by omega); omega, e1, e2, e3, e4, e5⟩
                  case fin =>
                    rintro D1 X hD1 ⟨i0, hiN, him, hil, E2, po2, bC2, bT2, bn2⟩ hK1
                    have cn := bn2.cell
                    have cT := bT2.cell
                    have fT := bT2.frozen
                    have cm := E2.m.cell
                    obtain ⟨y0, y1⟩ := two_cells E2.t
                    have HE2 := Lib.hid E2
                    have HbC2 := Lib.hid bC2
                    have HbT2 := Lib.hid bT2
                    have HPO2 := Lib.hid po2
                    have HK1D := Lib.hid hK1
                    have Hbn2 := Lib.hid bn2
                    obtain ⟨mx, hmx, hmi⟩ : ∃ mx : Int, (∀ W, (Builtin.max_ #[3, 3] 3 #[.int .i64 1, .int .i64 m]).run Tryz.prog W = .ok (.int .i64 mx) W) ∧ (∀ W, (Builtin.min_ #[3, 3] 3 #[.int .i64 (N : Int), .int .i64 mx]).run Tryz.prog W = .ok (.int .i64 (i0 : Int)) W) := by
                      refine ⟨if m > 1 then m else 1, fun W => gt_max _ _ _ _ W, fun W => ?_⟩
                      rw [gt_min]
                      congr 2
                      split <;> split <;> omega
                    clear E2 bT2 bn2 bC2 po2 him hK1 hil
                    gi_wp2_with fail
                    rw [roundsIn_succ]
                    obtain ⟨T2, hT2⟩ : ∃ T2, X.heap.size = T2 := ⟨_, rfl⟩
                    obtain ⟨X2, hX2⟩ : ∃ X2, X.alloc (.cells #[.int .i64 1] 3) = X2 := ⟨_, rfl⟩
                    obtain ⟨X3, hX3⟩ : ∃ X3, X2.alloc (.cells #[.int .i64 0] 3) = X3 := ⟨_, rfl⟩
                    have hCX : T' < X.heap.size := by have := Hbn2.out.lt; omega
                    have E3 : LB w X3 (.slice p1 n1 c1) (.slice p2 N c2) (.slice q1 r1 d1) (.slice q2 r2 d2) m B := by rw [← hX3, ← hX2]; exact (HE2.out.alloc _).alloc _
                    have po3 : PB oo X3 := by rw [← hX3, ← hX2]; exact (HPO2.out.below ((Below.refl _ _).alloc (Nat.le_refl _) _)).below ((Below.refl _ _).alloc (Nat.le_refl _) _)
                    have bC3 : Boxed X3 C 24 r := by rw [← hX3, ← hX2]; exact (HbC2.out.alloc _).alloc _
                    have bT3 : Boxed X3 T2 3 (.int .i64 1) := by rw [← hX3, ← hX2, ← hT2]; exact (Boxed.new _ _ _).alloc _
                    obtain ⟨C2, hC2⟩ : ∃ C2, X2.heap.size = C2 := ⟨_, rfl⟩
                    have hTC2 : C2 = T2 + 1 := by rw [← hC2, ← hX2, ← hT2]; simp
                    have bn3 : Boxed X3 C2 3 (.int .i64 0) := by rw [← hX3, ← hC2]; exact Boxed.new _ _ _
                    have hs3 : X3.heap.size = C2 + 1 := by rw [← hX3, ← hC2]; simp
                    have hD1s : D1 < T2 := by rw [← hT2]; exact (Array.getElem?_eq_some_iff.1 HK1D.out).1
                    have K3 : X3.heap[D1]? = some (.deferred (some [])) := by
                      rw [← hX3, ← hX2]
                      exact (Below.heap_alloc _ _ _ (by simp; omega)).trans ((Below.heap_alloc _ _ _ (by omega)).trans HK1D.out)
                    have cT2 : X2.cell? ⟨T2, 0, none⟩ = some (.int .i64 1) := by rw [← hX2, ← hT2]; exact (Boxed.new _ _ _).cell
                    have cT2b : (X2.alloc (.cells #[.int .i64 0] 3)).cell? ⟨T2, 0, none⟩ = some (.int .i64 1) := by rw [hX3]; exact bT3.cell
                    rw [hT2, hX2]
                    have HX3 := Lib.hid hX3
                    have HC2 := Lib.hid hC2
                    have HTC2 := Lib.hid hTC2
                    have hTT2 : T' < T2 := by omega
                    clear hX3 hC2 hT2 hX2 hTC2 cn cT fT cm y0 y1
                    gi_wp2_with fail
                    rw [HX3.out, HC2.out]
                    have hTC2 : T2 < C2 := by have := HTC2.out; omega
                    have hatE2 := hat (C2 + 3)
                    rw [HTV.out] at hatE2
                    clear cT2 cT2b
                    refine rf_break (id := 4) (N := N) (own := fun _ => False) (Kp := Keep (fun b => b = PB.at oo (C2 + 3) ∨ b = C2 + 3)) (encs := fun i => #[tx (Q.getD i ([], [])).1, tx (Q.getD i ([], [])).2]) rfl (by omega) (gf := 57) (lb := #[.pointer (some ⟨C, 0, none⟩)]) rfl trivial (enters_of Tryz.func57 (by kernel_rfl) rfl)
                      (fun _ => rfl) (fun b hb => hb.elim)
                      (fun Y hY hs => by
                        have := pair_iter (E := C2 + 3) (o := oo) (by omega) ((hY.block _ bC3.lt).trans bC3) (po3.below hY) hpo (by rw [HNN.out]; omega) (9 - 1)
                        rwa [HNN.out] at this)
                      Keep.trans (fun Y ob o' h2 h3 => Keep.putObj _ _ _ (by omega))
                      (fun i Y => LB w Y (.slice p1 n1 c1) (.slice p2 N c2) (.slice q1 r1 d1) (.slice q2 r2 d2) m B ∧ Boxed Y T2 3 (.int .i64 1) ∧ Boxed Y C2 3 (.int .i64 (i : Int)) ∧ Y.heap[D1]? = some (.deferred (some [])))
                      (fun Y => LB w Y (.slice p1 n1 c1) (.slice p2 N c2) (.slice q1 r1 d1) (.slice q2 r2 d2) m B ∧ Boxed Y T2 3 (.int .i64 1) ∧ Boxed Y C2 3 (.int .i64 (N : Int)) ∧ Y.heap[D1]? = some (.deferred (some [])))
                      (fun i Y Z hs ht => ⟨hs.1.turn ht (by omega), ht.boxed hs.2.1 (fun h => h), ht.boxed hs.2.2.1 (fun h => h), ht.low hs.2.2.2 (by omega) (fun h => h)⟩)
                      (fun Y Z hs ht => ⟨hs.1.turn ht (by omega), ht.boxed hs.2.1 (fun h => h), ht.boxed hs.2.2.1 (fun h => h), ht.low hs.2.2.2 (by omega) (fun h => h)⟩)
                      ⟨E3, bT3, bn3, K3⟩
                      (fun i b _ => b = { tmps := #[Value.agg #[Value.slice p1 n1 c1, Value.slice p2 N c2], Value.agg #[Value.slice q1 r1 d1, Value.slice q2 r2 d2], Value.string kb, Value.int IntKind.i64 m, Value.pointer (some { block := B, off := 0 }), Value.pointer (some { block := B + 1, off := 0 }), undef, Value.pointer (some { block := B + 2, off := 0 }), Value.pointer (some { block := B + 3, off := 0 }), Value.string xb, Value.int IntKind.i64 0, Value.string { data := #[] }, Value.bool false, Value.int IntKind.i64 ↑N, Value.func (Fn.func 57) #[] #[Value.pointer (some { block := C, off := 0 })], .pointer (some ⟨T2, 0, none⟩), .pointer (some ⟨C2, 0, none⟩), tx (Q.getD i ([], [])).1, tx (Q.getD i ([], [])).2, Value.agg #[Value.slice p1 n1 c1, Value.slice p2 N c2], Value.bool true, Value.bool false, Value.bool false, Value.agg #[Value.slice q1 r1 d1, Value.slice q2 r2 d2], Value.bool true, Value.bool false, Value.bool false, Value.bool false, Value.string kb, Value.int IntKind.i64 ↑kb.size, Value.bool false, Value.bool false, undef, Value.tuple #[Value.string xb, Value.int IntKind.i64 0], Value.agg #[Value.slice p1 n1 c1, Value.slice p2 N c2], Value.tuple #[Value.string xb, Value.int IntKind.i64 0], Value.string xb, Value.int IntKind.i64 0, Value.agg #[Value.slice p1 n1 c1, Value.slice p2 N c2], Value.bool true, Value.bool false, Value.bool false, undef, undef, undef, undef, undef, undef, undef, Value.bool false, Value.bool false, Value.agg #[Value.slice p1 n1 c1, Value.slice p2 N c2], Value.bool true, Value.bool true, Value.string xb, Value.agg #[Value.slice p1 n1 c1, Value.slice p2 N c2], Value.string xb, Value.bool false, Value.bool false, Value.int IntKind.i64 0, Value.int IntKind.i64 0, Value.bool false, Value.bool false, Value.bool false, Value.bool false, Value.bool false, Value.agg #[Value.slice p1 n1 c1, Value.slice p2 N c2], Value.string jb, Value.agg #[Value.slice p1 n1 c1, Value.slice p2 N c2], Value.string jb, Value.bool false, Value.bool false, Value.bool false, Value.agg #[Value.slice p1 n1 c1, Value.slice p2 N c2], Value.agg #[Value.slice q1 r1 d1, Value.slice q2 r2 d2], Value.bool sm, Value.agg #[Value.slice p1 n1 c1, Value.slice p2 N c2], Value.agg #[Value.slice q1 r1 d1, Value.slice q2 r2 d2], Value.bool sm, Value.bool false, Value.bool false, Value.bool false, Value.agg #[Value.slice p1 n1 c1, Value.slice p2 N c2], Value.agg #[Value.slice p1 n1 c1, Value.slice p2 N c2], Value.bool true, Value.bool false, Value.bool false, Value.tuple #[Value.string { data := #[] }, Value.bool false], Value.agg #[Value.slice p1 n1 c1, Value.slice p2 N c2], Value.string kb, Value.tuple #[Value.string { data := #[] }, Value.bool false], Value.string { data := #[] }, Value.bool false, Value.int IntKind.i64 ↑N, Value.pointer (some { block := B, off := 1 }), Value.slice p2 N c2, Value.int IntKind.i64 ↑N, Value.bool false, Value.bool false, undef, undef, undef, undef, undef, undef, undef, undef, Value.bool false, u108, u109, Value.bool false, Value.int IntKind.i64 ↑N, Value.pointer (some { block := B, off := 1 }), Value.slice p2 N c2, Value.int IntKind.i64 ↑N, Value.bool false, Value.bool false, Value.bool false, Value.bool false, Value.bool false, undef, undef, undef, undef, undef, undef, undef, undef, Value.bool false, Value.bool false, Value.bool false, Value.bool false, Value.bool true, Value.bool true, Value.string { data := #[] }, Value.bool false, Value.bool false, Value.bool false, Value.agg #[Value.slice p1 n1 c1, Value.slice p2 N c2], Value.func (Fn.func 57) #[] #[Value.pointer (some { block := C, off := 0 })], Value.func (Fn.func 57) #[] #[Value.pointer (some { block := C, off := 0 })], Value.bool false, .int .i64 1, .bool true, .int .i64 0, .int .i64 1, Value.func (Fn.func 57) #[] #[Value.pointer (some { block := C, off := 0 })], tx (Q.getD i ([], [])).1, tx (Q.getD i ([], [])).2, undef, undef, undef, undef, undef, undef, undef, undef, undef, undef, undef, undef, undef, undef, undef, undef, undef, undef, undef, undef, undef, undef, undef, undef, undef, .int .i64 0, .bool true, .bool true, .int .i64 (i0 : Int), .pointer (some ⟨B, 1, none⟩), .slice p2 N c2, .int .i64 (N : Int), .int .i64 m, .int .i64 mx, .int .i64 (i0 : Int), .bool false, .bool false, .bool false, .int .i64 0, .bool false, .bool false, undef, undef, undef, undef, undef, .bool false, .bool false, .int .i64 0, undef], defers := [] })
                      (fun _ _ _ _ hs _ => hs) ?assign2 ?body2 ?all2 ?fin2
                    case assign2 =>
                      intro l' i Y K hi hI hK
                      gi_wp2
                      exact hK _ _ (KeepsFrom.refl _ _) (fun _ _ => rfl) hI rfl
                    case body2 =>
                      rintro l' i b Y hl' ⟨rc, hr⟩ hi ⟨E4, bT4, bn4, K4⟩ rfl
                      have cn := bn4.cell
                      have fn := bn4.frozen
                      have cT := bT4.cell
                      have cm := E4.m.cell
                      obtain ⟨y0, y1⟩ := two_cells E4.t
                      obtain ⟨g9, o9, he9, hcs9⟩ := (H2.out.below E4.hb).cells (k := i) (by rw [HNN.out]; exact hi)
                      cases he9
                      obtain ⟨hx, hy⟩ := hcs9 i (by rw [HNN.out]; exact hi)
                      obtain ⟨xa, hxa⟩ : ∃ z : ByteArray, tx (Q.getD i ([], [])).1 = .string z := ⟨_, rfl⟩
                      obtain ⟨xc, hxc⟩ : ∃ z : ByteArray, tx (Q.getD i ([], [])).2 = .string z := ⟨_, rfl⟩
                      rw [hxa] at hx ⊢
                      rw [hxc] at hy ⊢
                      have HE4 := Lib.hid E4
                      have HbT4 := Lib.hid bT4
                      have Hbn4 := Lib.hid bn4
                      have HK4 := Lib.hid K4
                      have hba : (xa.toList == xa.toList) = true := beq_self_eq_true _
                      have hbc : (xc.toList == xc.toList) = true := beq_self_eq_true _
                      clear E4 bT4 bn4 K4 hmx hmi hxa hxc hcs9
                      gi_wp2
                      exact ⟨(KeepsOthers.setCell _ _ _).from _, fun b hb => Below.heap_setCell _ _ _ _ (by show b ≠ C2; omega), HE4.out.set (by omega) _, HbT4.out.other (by omega) _, Hbn4.out.set _, (Below.heap_setCell _ _ _ _ (by show D1 ≠ C2; omega)).trans HK4.out⟩
                    case all2 =>
                      rintro Y ⟨e1, e2, e3, e4⟩
                      exact ⟨e1, e2, e3, e4⟩
                    case fin2 =>
                      rintro D2 Y hD2 ⟨E5, bT5, bn5, K5⟩ hK2
                      have cn := bn5.cell
                      have cT := bT5.cell
                      have cm := E5.m.cell
                      obtain ⟨y0, y1⟩ := two_cells E5.t
                      have HE5 := Lib.hid E5
                      have HK5 := Lib.hid K5
                      have HK2D := Lib.hid hK2
                      clear E5 bT5 bn5 K5 hK2 hmx hmi
                      gi_wp2_with fail
                      rw [roundsIn_succ]
                      obtain ⟨Z, hZ⟩ : ∃ Z, Y.alloc (.cells #[.int .i64 2] 3) = Z := ⟨_, rfl⟩
                      obtain ⟨T3, hT3⟩ : ∃ T3, Y.heap.size = T3 := ⟨_, rfl⟩
                      have cZ : Z.cell? ⟨T3, 0, none⟩ = some (.int .i64 2) := by rw [← hZ, ← hT3]; exact (Boxed.new _ _ _).cell
                      have E6 : LB w Z (.slice p1 n1 c1) (.slice p2 N c2) (.slice q1 r1 d1) (.slice q2 r2 d2) m B := by rw [← hZ]; exact HE5.out.alloc _
                      have K6 : Z.heap[D1]? = some (.deferred (some [])) := by rw [← hZ]; exact (Below.heap_alloc _ _ _ (Array.getElem?_eq_some_iff.1 HK5.out).1).trans HK5.out
                      have K7 : Z.heap[D2]? = some (.deferred (some [])) := by rw [← hZ]; exact (Below.heap_alloc _ _ _ (Array.getElem?_eq_some_iff.1 HK2D.out).1).trans HK2D.out
                      rw [hT3, hZ]
                      have HE6 := Lib.hid E6
                      have HK6 := Lib.hid K6
                      have HK7 := Lib.hid K7
                      have WKZ := Lib.hid (WK.out Z (HK.out.below E6.hb))
                      clear hT3 hZ E6 K6 K7 cn cT cm y0 y1
                      gi_wp2_with fail
                      first
                        | refine WKZ.out.mono ?_
                        | refine ⟨trivial, (callsIn_wide.2 WKZ.out).mono ?_⟩
                        | (go_wp2_with fail; refine WKZ.out.mono ?_)
                      rintro e V' ⟨rfl, hbV⟩
                      have bR : Boxed V' (B + 3) 4 (.bool false) := (hbV.block _ HE6.out.r.lt).trans HE6.out.r
                      have K8 : V'.heap[D1]? = some (.deferred (some [])) := (hbV.block _ (Array.getElem?_eq_some_iff.1 HK6.out).1).trans HK6.out
                      have K9 : V'.heap[D2]? = some (.deferred (some [])) := (hbV.block _ (Array.getElem?_eq_some_iff.1 HK7.out).1).trans HK7.out
                      have bV := HE6.out.hb.trans (hbV.mono HE6.out.hb.size)
                      have cR := bR.cell
                      have fR := bR.frozen
                      have HK8 := Lib.hid K8
                      have HK9 := Lib.hid K9
                      have HbR := Lib.hid bR
                      have HbV := Lib.hid bV
                      clear bR K8 K9 bV hbV
                      first | go_wp2_with fail | skip
                      have hBw := HE6.out.hB
                      have d2 : B + 3 < D2 := by omega
                      have d1 : B + 3 < D1 := by omega
                      have d12 : D1 ≠ D2 := by omega
                      have L9 : (V'.setCell ⟨B + 3, 0, none⟩ (.bool true)).heap[D2]? = some (.deferred (some [])) := (Below.heap_setCell _ _ _ _ (by show D2 ≠ B + 3; omega)).trans HK9.out
                      have L8 : ((V'.setCell ⟨B + 3, 0, none⟩ (.bool true)).putObj D2 (.deferred none)).heap[D1]? = some (.deferred (some [])) := (World.putObj_heap_other d12).trans ((Below.heap_setCell _ _ _ _ (by show D1 ≠ B + 3; omega)).trans HK8.out)
                      have L0 : Boxed (((V'.setCell ⟨B + 3, 0, none⟩ (.bool true)).putObj D2 (.deferred none)).putObj D1 (.deferred none)) (B + 3) 4 (.bool true) := (World.putObj_heap_other (by omega)).trans ((World.putObj_heap_other (by omega)).trans (HbR.out.set _))
                      have c0 := L0.cell
                      refine ⟨by simp, .inl ⟨_, _, rfl, run_takeDeferred L9, ?_⟩⟩
                      refine ⟨by simp, .inl ⟨_, _, rfl, run_takeDeferred L8, ?_⟩⟩
                      refine ⟨.bool true, ?_, rfl, ?_⟩
                      · simp [results, Tryz.results5, go_sem, c0]
                      · refine (HbV.out.setCell (p := ⟨B + 3, 0, none⟩) (by show w.heap.size ≤ B + 3; omega) _).trans ((belowK_b (w := w) (Nat.le_refl _) _ D2 _ _ (by omega) L9 rfl rfl).trans (belowK_b (w := w) (Nat.le_refl _) _ D1 _ _ (by omega) L8 rfl rfl))


        | false =>
          obtain ⟨xb, hxb⟩ : ∃ z : ByteArray, (⟨(Gt.text P Q).toArray⟩ : ByteArray) = z := ⟨_, rfl⟩
          unfold txtOut at TXW
          rw [if_neg (by rw [hr]; decide)] at TXW
          rw [hr] at RT
          clear hr hxb
          go_wp2_with fail
          refine TXW.out.mono ?_
          rintro e w4 ⟨rfl, hb4⟩
          have HL4 := Lib.hid (HL3.out.next hb4)
          have HT4 := Lib.hid (H1.out.below HL4.out.hb)
          have HQ4 := Lib.hid (H2.out.below HL4.out.hb)
          have HO4 := Lib.hid (H3.out.below HL4.out.hb)
          have HP4 := Lib.hid (H4.out.below HL4.out.hb)
          clear hb4 t0 t1 o0 o1 lr fr hnil
          go_wp2_with fail
          refine region_slotsH (fun i => 38 + min i 48) (gtN p1 p2 q1 q2 c1 c2 d1 d2 n1 N r1 r2 xb jb sm) (fun i => ([true, true, true, true, true, true, true, true, true, true, true, true, true, true, true, true, false, false, false, false, false, false, false, false, false, true, true, true, true, true, true, true, true, true, true, true, true, true, true, true, true, true, true, true, true, true, true, true, true] : List Bool).getD i true) (by kernel_rfl) (by kernel_rfl) (fun i => by show 38 + min i 48 < _; simp; omega) (fun i j hi hj h => by have hi : i < 49 := hi; have hj : j < 49 := hj; omega) ?mono ?dst ?gu ?ng ?skip ?step ?done
          case mono =>
            intro i W W' v h hbw
            match i, h with
            | 0, h | 1, h | 2, h | 3, h | 4, h | 5, h | 6, h | 7, h | 8, h | 9, h | 10, h | 11, h | 12, h | 13, h | 14, h | 15, h | 16, h | 17, h | 18, h | 19, h | 20, h | 21, h | 22, h | 23, h | 24, h | 25, h | 26, h | 27, h | 28, h | 29, h | 30, h | 31, h | 32, h | 33, h | 34, h | 35, h | 36, h | 37, h | 38, h | 39, h | 40, h | 41, h | 42, h | 43, h | 44, h | 45, h | 46, h | 47, h | 48, h => exact h
            | n + 49, h => exact h.elim
          case dst =>
            intro i o ho
            match i, ho with
            | 0, ho | 1, ho | 2, ho | 3, ho | 4, ho | 5, ho | 6, ho | 7, ho | 8, ho | 9, ho | 10, ho | 11, ho | 12, ho | 13, ho | 14, ho | 15, ho | 16, ho | 17, ho | 18, ho | 19, ho | 20, ho | 21, ho | 22, ho | 23, ho | 24, ho | 25, ho | 26, ho | 27, ho | 28, ho | 29, ho | 30, ho | 31, ho | 32, ho | 33, ho | 34, ho | 35, ho | 36, ho | 37, ho | 38, ho | 39, ho | 40, ho | 41, ho | 42, ho | 43, ho | 44, ho | 45, ho | 46, ho | 47, ho | 48, ho => cases ho; rfl
            | n + 49, ho => exact absurd ho (by simp)
          case gu =>
            intro i o g b ho hgd W v hv
            match i, ho with
            | 0, ho => cases ho; cases hgd
            | 1, ho => cases ho; cases hgd
            | 2, ho => cases ho; cases hgd
            | 3, ho => cases ho; cases hgd
            | 4, ho => cases ho; cases hgd; first | exact .inl hv | exact .inr ⟨rfl, hv⟩
            | 5, ho => cases ho; cases hgd; first | exact .inl hv | exact .inr ⟨rfl, hv⟩
            | 6, ho => cases ho; cases hgd; first | exact .inl hv | exact .inr ⟨rfl, hv⟩
            | 7, ho => cases ho; cases hgd; first | exact .inl hv | exact .inr ⟨rfl, hv⟩
            | 8, ho => cases ho; cases hgd; first | exact .inl hv | exact .inr ⟨rfl, hv⟩
            | 9, ho => cases ho; cases hgd; first | exact .inl hv | exact .inr ⟨rfl, hv⟩
            | 10, ho => cases ho; cases hgd; first | exact .inl hv | exact .inr ⟨rfl, hv⟩
            | 11, ho => cases ho; cases hgd
            | 12, ho => cases ho; cases hgd
            | 13, ho => cases ho; cases hgd; first | exact .inl hv | exact .inr ⟨rfl, hv⟩
            | 14, ho => cases ho; cases hgd; first | exact .inl hv | exact .inr ⟨rfl, hv⟩
            | 15, ho => cases ho; cases hgd; first | exact .inl hv | exact .inr ⟨rfl, hv⟩
            | 16, ho => cases ho; cases hgd; first | exact .inl hv | exact .inr ⟨rfl, hv⟩
            | 17, ho => cases ho; cases hgd; first | exact .inl hv | exact .inr ⟨rfl, hv⟩
            | 18, ho => cases ho; cases hgd; first | exact .inl hv | exact .inr ⟨rfl, hv⟩
            | 19, ho => cases ho; cases hgd; first | exact .inl hv | exact .inr ⟨rfl, hv⟩
            | 20, ho => cases ho; cases hgd; first | exact .inl hv | exact .inr ⟨rfl, hv⟩
            | 21, ho => cases ho; cases hgd; first | exact .inl hv | exact .inr ⟨rfl, hv⟩
            | 22, ho => cases ho; cases hgd; first | exact .inl hv | exact .inr ⟨rfl, hv⟩
            | 23, ho => cases ho; cases hgd; first | exact .inl hv | exact .inr ⟨rfl, hv⟩
            | 24, ho => cases ho; cases hgd; first | exact .inl hv | exact .inr ⟨rfl, hv⟩
            | 25, ho => cases ho; cases hgd; first | exact .inl hv | exact .inr ⟨rfl, hv⟩
            | 26, ho => cases ho; cases hgd
            | 27, ho => cases ho; cases hgd
            | 28, ho => cases ho; cases hgd; first | exact .inl hv | exact .inr ⟨rfl, hv⟩
            | 29, ho => cases ho; cases hgd; first | exact .inl hv | exact .inr ⟨rfl, hv⟩
            | 30, ho => cases ho; cases hgd; first | exact .inl hv | exact .inr ⟨rfl, hv⟩
            | 31, ho => cases ho; cases hgd; first | exact .inl hv | exact .inr ⟨rfl, hv⟩
            | 32, ho => cases ho; cases hgd; first | exact .inl hv | exact .inr ⟨rfl, hv⟩
            | 33, ho => cases ho; cases hgd
            | 34, ho => cases ho; cases hgd
            | 35, ho => cases ho; cases hgd; first | exact .inl hv | exact .inr ⟨rfl, hv⟩
            | 36, ho => cases ho; cases hgd; first | exact .inl hv | exact .inr ⟨rfl, hv⟩
            | 37, ho => cases ho; cases hgd; first | exact .inl hv | exact .inr ⟨rfl, hv⟩
            | 38, ho => cases ho; cases hgd; first | exact .inl hv | exact .inr ⟨rfl, hv⟩
            | 39, ho => cases ho; cases hgd; first | exact .inl hv | exact .inr ⟨rfl, hv⟩
            | 40, ho => cases ho; cases hgd; first | exact .inl hv | exact .inr ⟨rfl, hv⟩
            | 41, ho => cases ho; cases hgd; first | exact .inl hv | exact .inr ⟨rfl, hv⟩
            | 42, ho => cases ho; cases hgd
            | 43, ho => cases ho; cases hgd
            | 44, ho => cases ho; cases hgd; first | exact .inl hv | exact .inr ⟨rfl, hv⟩
            | 45, ho => cases ho; cases hgd; first | exact .inl hv | exact .inr ⟨rfl, hv⟩
            | 46, ho => cases ho; cases hgd; first | exact .inl hv | exact .inr ⟨rfl, hv⟩
            | 47, ho => cases ho; cases hgd; first | exact .inl hv | exact .inr ⟨rfl, hv⟩
            | 48, ho => cases ho; cases hgd
            | n + 49, ho => exact absurd ho (by simp)
          case ng =>
            intro i o ho hgd
            match i, ho with
            | 0, ho => cases ho; first | rfl | cases hgd
            | 1, ho => cases ho; first | rfl | cases hgd
            | 2, ho => cases ho; first | rfl | cases hgd
            | 3, ho => cases ho; first | rfl | cases hgd
            | 4, ho => cases ho; first | rfl | cases hgd
            | 5, ho => cases ho; first | rfl | cases hgd
            | 6, ho => cases ho; first | rfl | cases hgd
            | 7, ho => cases ho; first | rfl | cases hgd
            | 8, ho => cases ho; first | rfl | cases hgd
            | 9, ho => cases ho; first | rfl | cases hgd
            | 10, ho => cases ho; first | rfl | cases hgd
            | 11, ho => cases ho; first | rfl | cases hgd
            | 12, ho => cases ho; first | rfl | cases hgd
            | 13, ho => cases ho; first | rfl | cases hgd
            | 14, ho => cases ho; first | rfl | cases hgd
            | 15, ho => cases ho; first | rfl | cases hgd
            | 16, ho => cases ho; first | rfl | cases hgd
            | 17, ho => cases ho; first | rfl | cases hgd
            | 18, ho => cases ho; first | rfl | cases hgd
            | 19, ho => cases ho; first | rfl | cases hgd
            | 20, ho => cases ho; first | rfl | cases hgd
            | 21, ho => cases ho; first | rfl | cases hgd
            | 22, ho => cases ho; first | rfl | cases hgd
            | 23, ho => cases ho; first | rfl | cases hgd
            | 24, ho => cases ho; first | rfl | cases hgd
            | 25, ho => cases ho; first | rfl | cases hgd
            | 26, ho => cases ho; first | rfl | cases hgd
            | 27, ho => cases ho; first | rfl | cases hgd
            | 28, ho => cases ho; first | rfl | cases hgd
            | 29, ho => cases ho; first | rfl | cases hgd
            | 30, ho => cases ho; first | rfl | cases hgd
            | 31, ho => cases ho; first | rfl | cases hgd
            | 32, ho => cases ho; first | rfl | cases hgd
            | 33, ho => cases ho; first | rfl | cases hgd
            | 34, ho => cases ho; first | rfl | cases hgd
            | 35, ho => cases ho; first | rfl | cases hgd
            | 36, ho => cases ho; first | rfl | cases hgd
            | 37, ho => cases ho; first | rfl | cases hgd
            | 38, ho => cases ho; first | rfl | cases hgd
            | 39, ho => cases ho; first | rfl | cases hgd
            | 40, ho => cases ho; first | rfl | cases hgd
            | 41, ho => cases ho; first | rfl | cases hgd
            | 42, ho => cases ho; first | rfl | cases hgd
            | 43, ho => cases ho; first | rfl | cases hgd
            | 44, ho => cases ho; first | rfl | cases hgd
            | 45, ho => cases ho; first | rfl | cases hgd
            | 46, ho => cases ho; first | rfl | cases hgd
            | 47, ho => cases ho; first | rfl | cases hgd
            | 48, ho => cases ho; first | rfl | cases hgd
            | n + 49, ho => exact absurd ho (by simp)
          case skip =>
            intro i W hi hsel
            match i, hi, hsel with
            | 0, _, hsel => first | exact absurd hsel (by decide) | rfl
            | 1, _, hsel => first | exact absurd hsel (by decide) | rfl
            | 2, _, hsel => first | exact absurd hsel (by decide) | rfl
            | 3, _, hsel => first | exact absurd hsel (by decide) | rfl
            | 4, _, hsel => first | exact absurd hsel (by decide) | rfl
            | 5, _, hsel => first | exact absurd hsel (by decide) | rfl
            | 6, _, hsel => first | exact absurd hsel (by decide) | rfl
            | 7, _, hsel => first | exact absurd hsel (by decide) | rfl
            | 8, _, hsel => first | exact absurd hsel (by decide) | rfl
            | 9, _, hsel => first | exact absurd hsel (by decide) | rfl
            | 10, _, hsel => first | exact absurd hsel (by decide) | rfl
            | 11, _, hsel => first | exact absurd hsel (by decide) | rfl
            | 12, _, hsel => first | exact absurd hsel (by decide) | rfl
            | 13, _, hsel => first | exact absurd hsel (by decide) | rfl
            | 14, _, hsel => first | exact absurd hsel (by decide) | rfl
            | 15, _, hsel => first | exact absurd hsel (by decide) | rfl
            | 16, _, hsel => first | exact absurd hsel (by decide) | rfl
            | 17, _, hsel => first | exact absurd hsel (by decide) | rfl
            | 18, _, hsel => first | exact absurd hsel (by decide) | rfl
            | 19, _, hsel => first | exact absurd hsel (by decide) | rfl
            | 20, _, hsel => first | exact absurd hsel (by decide) | rfl
            | 21, _, hsel => first | exact absurd hsel (by decide) | rfl
            | 22, _, hsel => first | exact absurd hsel (by decide) | rfl
            | 23, _, hsel => first | exact absurd hsel (by decide) | rfl
            | 24, _, hsel => first | exact absurd hsel (by decide) | rfl
            | 25, _, hsel => first | exact absurd hsel (by decide) | rfl
            | 26, _, hsel => first | exact absurd hsel (by decide) | rfl
            | 27, _, hsel => first | exact absurd hsel (by decide) | rfl
            | 28, _, hsel => first | exact absurd hsel (by decide) | rfl
            | 29, _, hsel => first | exact absurd hsel (by decide) | rfl
            | 30, _, hsel => first | exact absurd hsel (by decide) | rfl
            | 31, _, hsel => first | exact absurd hsel (by decide) | rfl
            | 32, _, hsel => first | exact absurd hsel (by decide) | rfl
            | 33, _, hsel => first | exact absurd hsel (by decide) | rfl
            | 34, _, hsel => first | exact absurd hsel (by decide) | rfl
            | 35, _, hsel => first | exact absurd hsel (by decide) | rfl
            | 36, _, hsel => first | exact absurd hsel (by decide) | rfl
            | 37, _, hsel => first | exact absurd hsel (by decide) | rfl
            | 38, _, hsel => first | exact absurd hsel (by decide) | rfl
            | 39, _, hsel => first | exact absurd hsel (by decide) | rfl
            | 40, _, hsel => first | exact absurd hsel (by decide) | rfl
            | 41, _, hsel => first | exact absurd hsel (by decide) | rfl
            | 42, _, hsel => first | exact absurd hsel (by decide) | rfl
            | 43, _, hsel => first | exact absurd hsel (by decide) | rfl
            | 44, _, hsel => first | exact absurd hsel (by decide) | rfl
            | 45, _, hsel => first | exact absurd hsel (by decide) | rfl
            | 46, _, hsel => first | exact absurd hsel (by decide) | rfl
            | 47, _, hsel => first | exact absurd hsel (by decide) | rfl
            | 48, _, hsel => first | exact absurd hsel (by decide) | rfl
            | n + 49, hi, _ => exact absurd hi (by simp)
          case step =>
            intro f a' W i o ho hsel hpre hbel hrest
            match i, ho, hsel with
            | 0, ho, _ =>
              cases ho
              have q4 : a'.tmps.getD 4 undef = .pointer (some ⟨B, 0, none⟩) := (hrest 4 (by intro i hi; have hi : i < 49 := hi; show 38 + min i 48 ≠ _; omega))
              have hgt := two_cells ((hbel.block B (by have := HL4.out.lt; omega)).trans HL4.out.t)
              have ct0 := hgt.1
              have ct1 := hgt.2
              have e4 := rg_ev q4
              exact rg_same (.agg #[.slice p1 n1 c1, .slice p2 N c2]) (by unfold Oper.wp execOp; go_simp; all_goals ((try simp only [e4]); (try go_simp); (try rw [if_pos (by omega)]); (try rw [if_neg (by omega)]); first | done | rfl | exact ⟨rfl, rfl⟩ | trivial)) rfl
            | 1, ho, _ =>
              cases ho
              have q38 : a'.tmps.getD 38 undef = .agg #[.slice p1 n1 c1, .slice p2 N c2] := (hpre { on := 0, ground := .data } (by simp) rfl)
              exact rg_call 38 16 _ _ _ rfl q38 (enters_of Tryz.func16 (by kernel_rfl) rfl) (RT.out W (HT4.out.below hbel)) (fun e w' h => ⟨_, h.1, _, rfl, rfl, h.2⟩)
            | 2, ho, _ =>
              cases ho
              have q39 : a'.tmps.getD 39 undef = .bool false := (hpre { on := 1, ground := .data } (by simp) rfl)
              have e39 := rg_ev q39
              exact rg_same (.bool true) (by unfold Oper.wp execOp; go_simp; all_goals ((try simp only [e39]); (try go_simp); (try rw [if_pos (by omega)]); (try rw [if_neg (by omega)]); first | done | rfl | exact ⟨rfl, rfl⟩ | trivial)) rfl
            | 3, ho, _ =>
              cases ho
              have q40 : a'.tmps.getD 40 undef = .bool true := (hpre { on := 2, ground := .data } (by simp) rfl)
              have e40 := rg_ev q40
              exact rg_same (.bool true) (by unfold Oper.wp execOp; go_simp; all_goals ((try simp only [e40]); (try go_simp); (try rw [if_pos (by omega)]); (try rw [if_neg (by omega)]); first | done | rfl | exact ⟨rfl, rfl⟩ | trivial)) rfl
            | 4, ho, _ =>
              cases ho
              have q9 : a'.tmps.getD 9 undef = .string (⟨#[]⟩ : ByteArray) := (hrest 9 (by intro i hi; have hi : i < 49 := hi; show 38 + min i 48 ≠ _; omega))
              have e9 := rg_ev q9
              exact rg_same (.string (⟨#[]⟩ : ByteArray)) (by unfold Oper.wp execOp; go_simp; all_goals ((try simp only [e9]); (try go_simp); (try rw [if_pos (by omega)]); (try rw [if_neg (by omega)]); first | done | rfl | exact ⟨rfl, rfl⟩ | trivial)) rfl
            | 5, ho, _ =>
              cases ho
              have q42 : a'.tmps.getD 42 undef = .string (⟨#[]⟩ : ByteArray) := (hpre { on := 4, ground := .data } (by simp) rfl)
              have e42 := rg_ev q42
              exact rg_same (.bool false) (by unfold Oper.wp execOp; go_simp; all_goals ((try simp only [e42]); (try go_simp); (try rw [if_pos (by omega)]); (try rw [if_neg (by omega)]); first | done | rfl | exact ⟨rfl, rfl⟩ | trivial)) rfl
            | 6, ho, _ =>
              cases ho
              have q43 : a'.tmps.getD 43 undef = .bool false := (hpre { on := 5, ground := .data } (by simp) rfl)
              have e43 := rg_ev q43
              exact rg_same (.bool false) (by unfold Oper.wp execOp; go_simp; all_goals ((try simp only [e43]); (try go_simp); (try rw [if_pos (by omega)]); (try rw [if_neg (by omega)]); first | done | rfl | exact ⟨rfl, rfl⟩ | trivial)) rfl
            | 7, ho, _ =>
              cases ho
              have q10 : a'.tmps.getD 10 undef = .int .i64 2 := (hrest 10 (by intro i hi; have hi : i < 49 := hi; show 38 + min i 48 ≠ _; omega))
              have e10 := rg_ev q10
              exact rg_same (.int .i64 2) (by unfold Oper.wp execOp; go_simp; all_goals ((try simp only [e10]); (try go_simp); (try rw [if_pos (by omega)]); (try rw [if_neg (by omega)]); first | done | rfl | exact ⟨rfl, rfl⟩ | trivial)) rfl
            | 8, ho, _ =>
              cases ho
              have q45 : a'.tmps.getD 45 undef = .int .i64 2 := (hpre { on := 7, ground := .data } (by simp) rfl)
              exact rg_call 45 10 _ _ _ rfl q45 (enters_of Tryz.func10 (by kernel_rfl) rfl) (HN.out 2 W (by omega)) (fun e w' h => ⟨_, h.1, _, rfl, rfl, by rw [h.2]; exact Below.refl _ _⟩)
            | 9, ho, _ =>
              cases ho
              have q46 : a'.tmps.getD 46 undef = .int .i64 2 := (hpre { on := 8, ground := .data } (by simp) rfl)
              have e46 := rg_ev q46
              exact rg_same (.bool false) (by unfold Oper.wp execOp; go_simp; all_goals ((try simp only [e46]); (try go_simp); (try rw [if_pos (by omega)]); (try rw [if_neg (by omega)]); first | done | rfl | exact ⟨rfl, rfl⟩ | trivial)) rfl
            | 10, ho, _ =>
              cases ho
              have q44 : a'.tmps.getD 44 undef = .bool false := (hpre { on := 6, ground := .data } (by simp) rfl)
              have q47 : a'.tmps.getD 47 undef = .bool false := (hpre { on := 9, ground := .data } (by simp) rfl)
              have e44 := rg_ev q44
              have e47 := rg_ev q47
              exact rg_same (.bool false) (by unfold Oper.wp execOp; go_simp; all_goals ((try simp only [e44, e47]); (try go_simp); (try rw [if_pos (by omega)]); (try rw [if_neg (by omega)]); first | done | rfl | exact ⟨rfl, rfl⟩ | trivial)) rfl
            | 11, ho, _ =>
              cases ho
              have q41 : a'.tmps.getD 41 undef = .bool true := (hpre { on := 3, ground := .data } (by simp) rfl)
              have q48 : a'.tmps.getD 48 undef = .bool false := (hpre { on := 10, ground := .data } (by simp) rfl)
              have e41 := rg_ev q41
              have e48 := rg_ev q48
              exact rg_same (.bool false) (by unfold Oper.wp execOp; go_simp; all_goals ((try simp only [e41, e48]); (try go_simp); (try rw [if_pos (by omega)]); (try rw [if_neg (by omega)]); first | done | rfl | exact ⟨rfl, rfl⟩ | trivial)) rfl
            | 12, ho, _ =>
              cases ho
              have q49 : a'.tmps.getD 49 undef = .bool false := (hpre { on := 11, ground := .data } (by simp) rfl)
              have e49 := rg_ev q49
              exact rg_same (.bool false) (by unfold Oper.wp execOp; go_simp; all_goals ((try simp only [e49]); (try go_simp); (try rw [if_pos (by omega)]); (try rw [if_neg (by omega)]); first | done | rfl | exact ⟨rfl, rfl⟩ | trivial)) rfl
            | 13, ho, _ =>
              cases ho
              have q4 : a'.tmps.getD 4 undef = .pointer (some ⟨B, 0, none⟩) := (hrest 4 (by intro i hi; have hi : i < 49 := hi; show 38 + min i 48 ≠ _; omega))
              have hgt := two_cells ((hbel.block B (by have := HL4.out.lt; omega)).trans HL4.out.t)
              have ct0 := hgt.1
              have ct1 := hgt.2
              have e4 := rg_ev q4
              exact rg_same (.agg #[.slice p1 n1 c1, .slice p2 N c2]) (by unfold Oper.wp execOp; go_simp; all_goals ((try simp only [e4]); (try go_simp); (try rw [if_pos (by omega)]); (try rw [if_neg (by omega)]); first | done | rfl | exact ⟨rfl, rfl⟩ | trivial)) rfl
            | 14, ho, _ =>
              cases ho
              have q51 : a'.tmps.getD 51 undef = .agg #[.slice p1 n1 c1, .slice p2 N c2] := (hpre { on := 13, ground := .data } (by simp) rfl)
              exact rg_call 51 16 _ _ _ rfl q51 (enters_of Tryz.func16 (by kernel_rfl) rfl) (RT.out W (HT4.out.below hbel)) (fun e w' h => ⟨_, h.1, _, rfl, rfl, h.2⟩)
            | 15, ho, _ =>
              cases ho
              have q52 : a'.tmps.getD 52 undef = .bool false := (hpre { on := 14, ground := .data } (by simp) rfl)
              have e52 := rg_ev q52
              exact rg_same (.bool false) (by unfold Oper.wp execOp; go_simp; all_goals ((try simp only [e52]); (try go_simp); (try rw [if_pos (by omega)]); (try rw [if_neg (by omega)]); first | done | rfl | exact ⟨rfl, rfl⟩ | trivial)) rfl
            | 16, ho, hsel => exact absurd hsel (by decide)
            | 17, ho, hsel => exact absurd hsel (by decide)
            | 18, ho, hsel => exact absurd hsel (by decide)
            | 19, ho, hsel => exact absurd hsel (by decide)
            | 20, ho, hsel => exact absurd hsel (by decide)
            | 21, ho, hsel => exact absurd hsel (by decide)
            | 22, ho, hsel => exact absurd hsel (by decide)
            | 23, ho, hsel => exact absurd hsel (by decide)
            | 24, ho, hsel => exact absurd hsel (by decide)
            | 25, ho, _ =>
              cases ho
              have q53 : a'.tmps.getD 53 undef = .bool false := (hpre { on := 15, ground := .data } (by simp) rfl)
              have q62 : a'.tmps.getD 62 undef = undef := (hpre { on := 24, ground := .data } (by simp) rfl)
              have e53 := rg_ev q53
              have e62 := rg_ev q62
              exact rg_same (.bool false) (by unfold Oper.wp execOp; go_simp; all_goals ((try simp only [e53, e62]); (try go_simp); (try rw [if_pos (by omega)]); (try rw [if_neg (by omega)]); first | done | rfl | exact ⟨rfl, rfl⟩ | trivial)) rfl
            | 26, ho, _ =>
              cases ho
              have q50 : a'.tmps.getD 50 undef = .bool false := (hpre { on := 12, ground := .data } (by simp) rfl)
              have q63 : a'.tmps.getD 63 undef = .bool false := (hpre { on := 25, ground := .data } (by simp) rfl)
              have e50 := rg_ev q50
              have e63 := rg_ev q63
              exact rg_same (.bool false) (by unfold Oper.wp execOp; go_simp; all_goals ((try simp only [e50, e63]); (try go_simp); (try rw [if_pos (by omega)]); (try rw [if_neg (by omega)]); first | done | rfl | exact ⟨rfl, rfl⟩ | trivial)) rfl
            | 27, ho, _ =>
              cases ho
              have q64 : a'.tmps.getD 64 undef = .bool false := (hpre { on := 26, ground := .data } (by simp) rfl)
              have e64 := rg_ev q64
              exact rg_same (.bool false) (by unfold Oper.wp execOp; go_simp; all_goals ((try simp only [e64]); (try go_simp); (try rw [if_pos (by omega)]); (try rw [if_neg (by omega)]); first | done | rfl | exact ⟨rfl, rfl⟩ | trivial)) rfl
            | 28, ho, _ =>
              cases ho
              have q4 : a'.tmps.getD 4 undef = .pointer (some ⟨B, 0, none⟩) := (hrest 4 (by intro i hi; have hi : i < 49 := hi; show 38 + min i 48 ≠ _; omega))
              have hgt := two_cells ((hbel.block B (by have := HL4.out.lt; omega)).trans HL4.out.t)
              have ct0 := hgt.1
              have ct1 := hgt.2
              have e4 := rg_ev q4
              exact rg_same (.agg #[.slice p1 n1 c1, .slice p2 N c2]) (by unfold Oper.wp execOp; go_simp; all_goals ((try simp only [e4]); (try go_simp); (try rw [if_pos (by omega)]); (try rw [if_neg (by omega)]); first | done | rfl | exact ⟨rfl, rfl⟩ | trivial)) rfl
            | 29, ho, _ =>
              cases ho
              have q66 : a'.tmps.getD 66 undef = .agg #[.slice p1 n1 c1, .slice p2 N c2] := (hpre { on := 28, ground := .data } (by simp) rfl)
              exact rg_call 66 20 _ _ _ rfl q66 (enters_of Tryz.func20 (by kernel_rfl) rfl) (PA.out W (HT4.out.below hbel)) (fun e w' h => ⟨_, h.1, _, rfl, rfl, h.2⟩)
            | 30, ho, _ =>
              cases ho
              have q4 : a'.tmps.getD 4 undef = .pointer (some ⟨B, 0, none⟩) := (hrest 4 (by intro i hi; have hi : i < 49 := hi; show 38 + min i 48 ≠ _; omega))
              have hgt := two_cells ((hbel.block B (by have := HL4.out.lt; omega)).trans HL4.out.t)
              have ct0 := hgt.1
              have ct1 := hgt.2
              have e4 := rg_ev q4
              exact rg_same (.agg #[.slice p1 n1 c1, .slice p2 N c2]) (by unfold Oper.wp execOp; go_simp; all_goals ((try simp only [e4]); (try go_simp); (try rw [if_pos (by omega)]); (try rw [if_neg (by omega)]); first | done | rfl | exact ⟨rfl, rfl⟩ | trivial)) rfl
            | 31, ho, _ =>
              cases ho
              have q68 : a'.tmps.getD 68 undef = .agg #[.slice p1 n1 c1, .slice p2 N c2] := (hpre { on := 30, ground := .data } (by simp) rfl)
              exact rg_call 68 21 _ _ _ rfl q68 (enters_of Tryz.func21 (by kernel_rfl) rfl) (RP.out W (HT4.out.below hbel)) (fun e w' h => ⟨_, h.1, _, rfl, rfl, h.2⟩)
            | 32, ho, _ =>
              cases ho
              have q67 : a'.tmps.getD 67 undef = .string jb := (hpre { on := 29, ground := .data } (by simp) rfl)
              have q69 : a'.tmps.getD 69 undef = .string jb := (hpre { on := 31, ground := .data } (by simp) rfl)
              have hnn : (jb.toList == jb.toList) = true := beq_self_eq_true _
              have e67 := rg_ev q67
              have e69 := rg_ev q69
              exact rg_same (.bool false) (by unfold Oper.wp execOp; go_simp; all_goals ((try simp only [e67, e69]); (try go_simp); (try rw [if_pos (by omega)]); (try rw [if_neg (by omega)]); first | done | rfl | exact ⟨rfl, rfl⟩ | trivial)) rfl
            | 33, ho, _ =>
              cases ho
              have q65 : a'.tmps.getD 65 undef = .bool false := (hpre { on := 27, ground := .data } (by simp) rfl)
              have q70 : a'.tmps.getD 70 undef = .bool false := (hpre { on := 32, ground := .data } (by simp) rfl)
              have e65 := rg_ev q65
              have e70 := rg_ev q70
              exact rg_same (.bool false) (by unfold Oper.wp execOp; go_simp; all_goals ((try simp only [e65, e70]); (try go_simp); (try rw [if_pos (by omega)]); (try rw [if_neg (by omega)]); first | done | rfl | exact ⟨rfl, rfl⟩ | trivial)) rfl
            | 34, ho, _ =>
              cases ho
              have q71 : a'.tmps.getD 71 undef = .bool false := (hpre { on := 33, ground := .data } (by simp) rfl)
              have e71 := rg_ev q71
              exact rg_same (.bool false) (by unfold Oper.wp execOp; go_simp; all_goals ((try simp only [e71]); (try go_simp); (try rw [if_pos (by omega)]); (try rw [if_neg (by omega)]); first | done | rfl | exact ⟨rfl, rfl⟩ | trivial)) rfl
            | 35, ho, _ =>
              cases ho
              have q4 : a'.tmps.getD 4 undef = .pointer (some ⟨B, 0, none⟩) := (hrest 4 (by intro i hi; have hi : i < 49 := hi; show 38 + min i 48 ≠ _; omega))
              have hgt := two_cells ((hbel.block B (by have := HL4.out.lt; omega)).trans HL4.out.t)
              have ct0 := hgt.1
              have ct1 := hgt.2
              have e4 := rg_ev q4
              exact rg_same (.agg #[.slice p1 n1 c1, .slice p2 N c2]) (by unfold Oper.wp execOp; go_simp; all_goals ((try simp only [e4]); (try go_simp); (try rw [if_pos (by omega)]); (try rw [if_neg (by omega)]); first | done | rfl | exact ⟨rfl, rfl⟩ | trivial)) rfl
            | 36, ho, _ =>
              cases ho
              have q5 : a'.tmps.getD 5 undef = .pointer (some ⟨B + 1, 0, none⟩) := (hrest 5 (by intro i hi; have hi : i < 49 := hi; show 38 + min i 48 ≠ _; omega))
              have hgo := two_cells ((hbel.block (B + 1) (by have := HL4.out.lt; omega)).trans HL4.out.o)
              have co0 := hgo.1
              have co1 := hgo.2
              have e5 := rg_ev q5
              exact rg_same (.agg #[.slice q1 r1 d1, .slice q2 r2 d2]) (by unfold Oper.wp execOp; go_simp; all_goals ((try simp only [e5]); (try go_simp); (try rw [if_pos (by omega)]); (try rw [if_neg (by omega)]); first | done | rfl | exact ⟨rfl, rfl⟩ | trivial)) rfl
            | 37, ho, _ =>
              cases ho
              have q73 : a'.tmps.getD 73 undef = .agg #[.slice p1 n1 c1, .slice p2 N c2] := (hpre { on := 35, ground := .data } (by simp) rfl)
              have q74 : a'.tmps.getD 74 undef = .agg #[.slice q1 r1 d1, .slice q2 r2 d2] := (hpre { on := 36, ground := .data } (by simp) rfl)
              exact rg_call2 73 74 18 _ _ _ _ rfl q73 q74 (enters_of Tryz.func18 (by kernel_rfl) rfl) (SM.out W (HT4.out.below hbel) (HQ4.out.below hbel) (HO4.out.below hbel) (HP4.out.below hbel)) (fun e w' h => ⟨_, h.1, _, rfl, rfl, h.2⟩)
            | 38, ho, _ =>
              cases ho
              have q4 : a'.tmps.getD 4 undef = .pointer (some ⟨B, 0, none⟩) := (hrest 4 (by intro i hi; have hi : i < 49 := hi; show 38 + min i 48 ≠ _; omega))
              have hgt := two_cells ((hbel.block B (by have := HL4.out.lt; omega)).trans HL4.out.t)
              have ct0 := hgt.1
              have ct1 := hgt.2
              have e4 := rg_ev q4
              exact rg_same (.agg #[.slice p1 n1 c1, .slice p2 N c2]) (by unfold Oper.wp execOp; go_simp; all_goals ((try simp only [e4]); (try go_simp); (try rw [if_pos (by omega)]); (try rw [if_neg (by omega)]); first | done | rfl | exact ⟨rfl, rfl⟩ | trivial)) rfl
            | 39, ho, _ =>
              cases ho
              have q5 : a'.tmps.getD 5 undef = .pointer (some ⟨B + 1, 0, none⟩) := (hrest 5 (by intro i hi; have hi : i < 49 := hi; show 38 + min i 48 ≠ _; omega))
              have hgo := two_cells ((hbel.block (B + 1) (by have := HL4.out.lt; omega)).trans HL4.out.o)
              have co0 := hgo.1
              have co1 := hgo.2
              have e5 := rg_ev q5
              exact rg_same (.agg #[.slice q1 r1 d1, .slice q2 r2 d2]) (by unfold Oper.wp execOp; go_simp; all_goals ((try simp only [e5]); (try go_simp); (try rw [if_pos (by omega)]); (try rw [if_neg (by omega)]); first | done | rfl | exact ⟨rfl, rfl⟩ | trivial)) rfl
            | 40, ho, _ =>
              cases ho
              have q76 : a'.tmps.getD 76 undef = .agg #[.slice p1 n1 c1, .slice p2 N c2] := (hpre { on := 38, ground := .data } (by simp) rfl)
              have q77 : a'.tmps.getD 77 undef = .agg #[.slice q1 r1 d1, .slice q2 r2 d2] := (hpre { on := 39, ground := .data } (by simp) rfl)
              exact rg_call2 76 77 9 _ _ _ _ rfl q76 q77 (enters_of Tryz.func9 (by kernel_rfl) rfl) (RS.out W (HT4.out.below hbel) (HQ4.out.below hbel) (HO4.out.below hbel) (HP4.out.below hbel)) (fun e w' h => ⟨_, h.1, _, rfl, rfl, h.2⟩)
            | 41, ho, _ =>
              cases ho
              have q75 : a'.tmps.getD 75 undef = .bool sm := (hpre { on := 37, ground := .data } (by simp) rfl)
              have q78 : a'.tmps.getD 78 undef = .bool sm := (hpre { on := 40, ground := .data } (by simp) rfl)
              have hnn : (sm == sm) = true := beq_self_eq_true _
              have e75 := rg_ev q75
              have e78 := rg_ev q78
              exact rg_same (.bool false) (by unfold Oper.wp execOp; go_simp; all_goals ((try simp only [e75, e78]); (try go_simp); (try rw [if_pos (by omega)]); (try rw [if_neg (by omega)]); first | done | rfl | exact ⟨rfl, rfl⟩ | trivial)) rfl
            | 42, ho, _ =>
              cases ho
              have q72 : a'.tmps.getD 72 undef = .bool false := (hpre { on := 34, ground := .data } (by simp) rfl)
              have q79 : a'.tmps.getD 79 undef = .bool false := (hpre { on := 41, ground := .data } (by simp) rfl)
              have e72 := rg_ev q72
              have e79 := rg_ev q79
              exact rg_same (.bool false) (by unfold Oper.wp execOp; go_simp; all_goals ((try simp only [e72, e79]); (try go_simp); (try rw [if_pos (by omega)]); (try rw [if_neg (by omega)]); first | done | rfl | exact ⟨rfl, rfl⟩ | trivial)) rfl
            | 43, ho, _ =>
              cases ho
              have q80 : a'.tmps.getD 80 undef = .bool false := (hpre { on := 42, ground := .data } (by simp) rfl)
              have e80 := rg_ev q80
              exact rg_same (.bool false) (by unfold Oper.wp execOp; go_simp; all_goals ((try simp only [e80]); (try go_simp); (try rw [if_pos (by omega)]); (try rw [if_neg (by omega)]); first | done | rfl | exact ⟨rfl, rfl⟩ | trivial)) rfl
            | 44, ho, _ =>
              cases ho
              have q4 : a'.tmps.getD 4 undef = .pointer (some ⟨B, 0, none⟩) := (hrest 4 (by intro i hi; have hi : i < 49 := hi; show 38 + min i 48 ≠ _; omega))
              have hgt := two_cells ((hbel.block B (by have := HL4.out.lt; omega)).trans HL4.out.t)
              have ct0 := hgt.1
              have ct1 := hgt.2
              have e4 := rg_ev q4
              exact rg_same (.agg #[.slice p1 n1 c1, .slice p2 N c2]) (by unfold Oper.wp execOp; go_simp; all_goals ((try simp only [e4]); (try go_simp); (try rw [if_pos (by omega)]); (try rw [if_neg (by omega)]); first | done | rfl | exact ⟨rfl, rfl⟩ | trivial)) rfl
            | 45, ho, _ =>
              cases ho
              have q4 : a'.tmps.getD 4 undef = .pointer (some ⟨B, 0, none⟩) := (hrest 4 (by intro i hi; have hi : i < 49 := hi; show 38 + min i 48 ≠ _; omega))
              have hgt := two_cells ((hbel.block B (by have := HL4.out.lt; omega)).trans HL4.out.t)
              have ct0 := hgt.1
              have ct1 := hgt.2
              have e4 := rg_ev q4
              exact rg_same (.agg #[.slice p1 n1 c1, .slice p2 N c2]) (by unfold Oper.wp execOp; go_simp; all_goals ((try simp only [e4]); (try go_simp); (try rw [if_pos (by omega)]); (try rw [if_neg (by omega)]); first | done | rfl | exact ⟨rfl, rfl⟩ | trivial)) rfl
            | 46, ho, _ =>
              cases ho
              have q82 : a'.tmps.getD 82 undef = .agg #[.slice p1 n1 c1, .slice p2 N c2] := (hpre { on := 44, ground := .data } (by simp) rfl)
              have q83 : a'.tmps.getD 83 undef = .agg #[.slice p1 n1 c1, .slice p2 N c2] := (hpre { on := 45, ground := .data } (by simp) rfl)
              exact rg_call2 82 83 18 _ _ _ _ rfl q82 q83 (enters_of Tryz.func18 (by kernel_rfl) rfl) (ST.out W (HT4.out.below hbel) (HQ4.out.below hbel)) (fun e w' h => ⟨_, h.1, _, rfl, rfl, h.2⟩)
            | 47, ho, _ =>
              cases ho
              have q84 : a'.tmps.getD 84 undef = .bool true := (hpre { on := 46, ground := .data } (by simp) rfl)
              have e84 := rg_ev q84
              exact rg_same (.bool false) (by unfold Oper.wp execOp; go_simp; all_goals ((try simp only [e84]); (try go_simp); (try rw [if_pos (by omega)]); (try rw [if_neg (by omega)]); first | done | rfl | exact ⟨rfl, rfl⟩ | trivial)) rfl
            | 48, ho, _ =>
              cases ho
              have q81 : a'.tmps.getD 81 undef = .bool false := (hpre { on := 43, ground := .data } (by simp) rfl)
              have q85 : a'.tmps.getD 85 undef = .bool false := (hpre { on := 47, ground := .data } (by simp) rfl)
              have e81 := rg_ev q81
              have e85 := rg_ev q85
              exact rg_same (.bool false) (by unfold Oper.wp execOp; go_simp; all_goals ((try simp only [e81, e85]); (try go_simp); (try rw [if_pos (by omega)]); (try rw [if_neg (by omega)]); first | done | rfl | exact ⟨rfl, rfl⟩ | trivial)) rfl
            | n + 49, ho, _ => exact absurd ho (by simp)
          case done =>
            intro vs W hbel hvs
            have v0 : vs 0 = .agg #[.slice p1 n1 c1, .slice p2 N c2] := hvs 0 (by decide)
            have v1 : vs 1 = .bool false := hvs 1 (by decide)
            have v2 : vs 2 = .bool true := hvs 2 (by decide)
            have v3 : vs 3 = .bool true := hvs 3 (by decide)
            have v4 : vs 4 = .string (⟨#[]⟩ : ByteArray) := hvs 4 (by decide)
            have v5 : vs 5 = .bool false := hvs 5 (by decide)
            have v6 : vs 6 = .bool false := hvs 6 (by decide)
            have v7 : vs 7 = .int .i64 2 := hvs 7 (by decide)
            have v8 : vs 8 = .int .i64 2 := hvs 8 (by decide)
            have v9 : vs 9 = .bool false := hvs 9 (by decide)
            have v10 : vs 10 = .bool false := hvs 10 (by decide)
            have v11 : vs 11 = .bool false := hvs 11 (by decide)
            have v12 : vs 12 = .bool false := hvs 12 (by decide)
            have v13 : vs 13 = .agg #[.slice p1 n1 c1, .slice p2 N c2] := hvs 13 (by decide)
            have v14 : vs 14 = .bool false := hvs 14 (by decide)
            have v15 : vs 15 = .bool false := hvs 15 (by decide)
            have v16 : vs 16 = undef := hvs 16 (by decide)
            have v17 : vs 17 = undef := hvs 17 (by decide)
            have v18 : vs 18 = undef := hvs 18 (by decide)
            have v19 : vs 19 = undef := hvs 19 (by decide)
            have v20 : vs 20 = undef := hvs 20 (by decide)
            have v21 : vs 21 = undef := hvs 21 (by decide)
            have v22 : vs 22 = undef := hvs 22 (by decide)
            have v23 : vs 23 = undef := hvs 23 (by decide)
            have v24 : vs 24 = undef := hvs 24 (by decide)
            have v25 : vs 25 = .bool false := hvs 25 (by decide)
            have v26 : vs 26 = .bool false := hvs 26 (by decide)
            have v27 : vs 27 = .bool false := hvs 27 (by decide)
            have v28 : vs 28 = .agg #[.slice p1 n1 c1, .slice p2 N c2] := hvs 28 (by decide)
            have v29 : vs 29 = .string jb := hvs 29 (by decide)
            have v30 : vs 30 = .agg #[.slice p1 n1 c1, .slice p2 N c2] := hvs 30 (by decide)
            have v31 : vs 31 = .string jb := hvs 31 (by decide)
            have v32 : vs 32 = .bool false := hvs 32 (by decide)
            have v33 : vs 33 = .bool false := hvs 33 (by decide)
            have v34 : vs 34 = .bool false := hvs 34 (by decide)
            have v35 : vs 35 = .agg #[.slice p1 n1 c1, .slice p2 N c2] := hvs 35 (by decide)
            have v36 : vs 36 = .agg #[.slice q1 r1 d1, .slice q2 r2 d2] := hvs 36 (by decide)
            have v37 : vs 37 = .bool sm := hvs 37 (by decide)
            have v38 : vs 38 = .agg #[.slice p1 n1 c1, .slice p2 N c2] := hvs 38 (by decide)
            have v39 : vs 39 = .agg #[.slice q1 r1 d1, .slice q2 r2 d2] := hvs 39 (by decide)
            have v40 : vs 40 = .bool sm := hvs 40 (by decide)
            have v41 : vs 41 = .bool false := hvs 41 (by decide)
            have v42 : vs 42 = .bool false := hvs 42 (by decide)
            have v43 : vs 43 = .bool false := hvs 43 (by decide)
            have v44 : vs 44 = .agg #[.slice p1 n1 c1, .slice p2 N c2] := hvs 44 (by decide)
            have v45 : vs 45 = .agg #[.slice p1 n1 c1, .slice p2 N c2] := hvs 45 (by decide)
            have v46 : vs 46 = .bool true := hvs 46 (by decide)
            have v47 : vs 47 = .bool false := hvs 47 (by decide)
            have v48 : vs 48 = .bool false := hvs 48 (by decide)
            have HBR := Lib.hid hbel
            simp only [fillN, List.size_toArray, List.length_cons, List.length_nil, Nat.reduceAdd, show List.range 49 = [0, 1, 2, 3, 4, 5, 6, 7, 8, 9, 10, 11, 12, 13, 14, 15, 16, 17, 18, 19, 20, 21, 22, 23, 24, 25, 26, 27, 28, 29, 30, 31, 32, 33, 34, 35, 36, 37, 38, 39, 40, 41, 42, 43, 44, 45, 46, 47, 48] from rfl, List.foldl_cons, List.foldl_nil, show 38 + min 0 48 = 38 from rfl, show 38 + min 1 48 = 39 from rfl, show 38 + min 2 48 = 40 from rfl, show 38 + min 3 48 = 41 from rfl, show 38 + min 4 48 = 42 from rfl, show 38 + min 5 48 = 43 from rfl, show 38 + min 6 48 = 44 from rfl, show 38 + min 7 48 = 45 from rfl, show 38 + min 8 48 = 46 from rfl, show 38 + min 9 48 = 47 from rfl, show 38 + min 10 48 = 48 from rfl, show 38 + min 11 48 = 49 from rfl, show 38 + min 12 48 = 50 from rfl, show 38 + min 13 48 = 51 from rfl, show 38 + min 14 48 = 52 from rfl, show 38 + min 15 48 = 53 from rfl, show 38 + min 16 48 = 54 from rfl, show 38 + min 17 48 = 55 from rfl, show 38 + min 18 48 = 56 from rfl, show 38 + min 19 48 = 57 from rfl, show 38 + min 20 48 = 58 from rfl, show 38 + min 21 48 = 59 from rfl, show 38 + min 22 48 = 60 from rfl, show 38 + min 23 48 = 61 from rfl, show 38 + min 24 48 = 62 from rfl, show 38 + min 25 48 = 63 from rfl, show 38 + min 26 48 = 64 from rfl, show 38 + min 27 48 = 65 from rfl, show 38 + min 28 48 = 66 from rfl, show 38 + min 29 48 = 67 from rfl, show 38 + min 30 48 = 68 from rfl, show 38 + min 31 48 = 69 from rfl, show 38 + min 32 48 = 70 from rfl, show 38 + min 33 48 = 71 from rfl, show 38 + min 34 48 = 72 from rfl, show 38 + min 35 48 = 73 from rfl, show 38 + min 36 48 = 74 from rfl, show 38 + min 37 48 = 75 from rfl, show 38 + min 38 48 = 76 from rfl, show 38 + min 39 48 = 77 from rfl, show 38 + min 40 48 = 78 from rfl, show 38 + min 41 48 = 79 from rfl, show 38 + min 42 48 = 80 from rfl, show 38 + min 43 48 = 81 from rfl, show 38 + min 44 48 = 82 from rfl, show 38 + min 45 48 = 83 from rfl, show 38 + min 46 48 = 84 from rfl, show 38 + min 47 48 = 85 from rfl, show 38 + min 48 48 = 86 from rfl, v0, v1, v2, v3, v4, v5, v6, v7, v8, v9, v10, v11, v12, v13, v14, v15, v16, v17, v18, v19, v20, v21, v22, v23, v24, v25, v26, v27, v28, v29, v30, v31, v32, v33, v34, v35, v36, v37, v38, v39, v40, v41, v42, v43, v44, v45, v46, v47, v48]
            clear v0 v1 v2 v3 v4 v5 v6 v7 v8 v9 v10 v11 v12 v13 v14 v15 v16 v17 v18 v19 v20 v21 v22 v23 v24 v25 v26 v27 v28 v29 v30 v31 v32 v33 v34 v35 v36 v37 v38 v39 v40 v41 v42 v43 v44 v45 v46 v47 v48 hvs hbel
            go_simp
            have HL5 := Lib.hid (HL4.out.next HBR.out)
            have hnil := gt_nil
            obtain ⟨t0, t1⟩ := two_cells HL5.out.t
            have HGE := Lib.hid (GE.out W (H1.out.below HL5.out.hb) (H2.out.below HL5.out.hb))
            unfold getOut at HGE
            by_cases hkN : k < N
            · rw [if_pos (by rw [HNN.out]; exact hkN)] at HGE
              obtain ⟨vb, hvb⟩ : ∃ z : ByteArray, tx (Q.getD k ([], [])).2 = .string z := ⟨_, rfl⟩
              rw [hvb] at HGE
              have HVB := Lib.hid hvb
              clear hvb
              go_wp2_with fail
              refine HGE.out.mono ?_
              rintro e w6 ⟨rfl, hb6⟩
              have HL6 := Lib.hid (HL5.out.next hb6)
              clear hb6 t0 t1
              obtain ⟨t0, t1⟩ := two_cells HL6.out.t
              obtain ⟨g1, o1, rfl, hcs⟩ := (H2.out.below HL6.out.hb).cells (k := k) (by rw [HNN.out]; exact hkN)
              have HCS := Lib.hid hcs
              clear hcs
              go_wp2_with fail
              go_loopw [13] (fun i wr => ∃ j : Nat, j ≤ k ∧ i = .int .i64 j ∧ wr = w6) (fun i _ => k - (intOf i).toNat)
              case atStart => exact ⟨0, Nat.zero_le _, rfl, by first | rfl | trivial⟩
              case round =>
                obtain ⟨j, hj, rfl, hwr⟩ := hrel
                have hwr2 := hwr.symm
                clear hwr
                subst hwr2
                obtain ⟨hx, hy⟩ := HCS.out j (by rw [HNN.out]; omega)
                obtain ⟨ab, hab⟩ : ∃ z : ByteArray, tx (Q.getD j ([], [])).1 = .string z := ⟨_, rfl⟩
                obtain ⟨zb, hzb⟩ : ∃ z : ByteArray, tx (Q.getD j ([], [])).2 = .string z := ⟨_, rfl⟩
                rw [hab] at hx
                rw [hzb] at hy
                by_cases hjk : j < k
                · have hne : ab ≠ kb := fun e => HK2.out j hjk (by rw [hab, e])
                  have hbq : (ab.toList == kb.toList) = false := beq_eq_false_iff_ne.2 (fun e => hne (ba_inj e))
                  have hjN : j < N := by omega
                  clear hab hzb hne
                  go_wp2_with fail
                  go_roundw
                  case rel => exact ⟨j + 1, hjk, by go_num, by first | rfl | trivial⟩
                  case measure => simp [intOf]; omega
                · have hjk2 : j = k := by omega
                  subst hjk2
                  have he : ab = kb := by
                    have h := HK3.out (by rw [HNN.out]; exact hkN)
                    rw [hab] at h
                    cases h; rfl
                  subst he
                  have hz : zb = vb := by
                    have h := HVB.out
                    rw [hzb] at h
                    cases h; rfl
                  subst hz
                  have lr := HL6.out.r.cell
                  have fr := HL6.out.r.frozen
                  have KP := Lib.hid (PP.out w6 (H2.out.below HL6.out.hb))
                  clear hab hzb hjk
                  go_wp2_with fail
                  refine KP.out.mono ?_
                  rintro e V ⟨C, r, rfl, hbC, hrow, hCB, hbV⟩
                  obtain ⟨oo, po, hpo, hat⟩ := PB.of hrow
                  have EV := HL6.out.next hbV
                  obtain ⟨TV, hTV⟩ : ∃ TV, V.heap.size = TV := ⟨_, rfl⟩
                  obtain ⟨V0, hV0⟩ : ∃ V0, V.alloc (.cells #[.int .i64 0] 3) = V0 := ⟨_, rfl⟩
                  have hB4 : B + 3 < TV := by rw [← hTV]; exact EV.lt
                  have HTV := Lib.hid hTV
                  have HV0 := Lib.hid hV0
                  clear t0 t1 lr fr hTV hV0
                  go_wp2_with fail
                  rw [HV0.out, HTV.out]
                  refine (wpIn_wide (n := 9)).1 ?_
                  refine wpIn_loop_rounds 3 ?_
                  rw [roundsIn_succ]
                  have E0 : LB w V0 (.slice p1 n1 c1) (.slice (some ⟨g1, o1, none⟩) N c2) (.slice q1 r1 d1) (.slice q2 r2 d2) m B := by rw [← HV0.out]; exact EV.alloc _
                  have bT : Boxed V0 TV 3 (.int .i64 0) := by rw [← HV0.out, ← HTV.out]; exact Boxed.new _ _ _
                  have po0 : PB oo V0 := by rw [← HV0.out]; exact po.below ((Below.refl _ _).alloc (Nat.le_refl _) _)
                  have bC0 : Boxed V0 C 24 r := by rw [← HV0.out]; exact hbC.alloc _
                  have hat0 := hat
                  have cT := bT.cell
                  obtain ⟨T', hT'⟩ : ∃ T', V0.heap.size = T' := ⟨_, rfl⟩
                  obtain ⟨X1, hX1⟩ : ∃ X1, V0.alloc (.cells #[.int .i64 0] 3) = X1 := ⟨_, rfl⟩
                  have E1 : LB w X1 (.slice p1 n1 c1) (.slice (some ⟨g1, o1, none⟩) N c2) (.slice q1 r1 d1) (.slice q2 r2 d2) m B := by rw [← hX1]; exact E0.alloc _
                  have bT1 : Boxed X1 TV 3 (.int .i64 0) := by rw [← hX1]; exact bT.alloc _
                  have bn1 : Boxed X1 T' 3 (.int .i64 0) := by rw [← hX1, ← hT']; exact Boxed.new _ _ _
                  have po1 : PB oo X1 := by rw [← hX1]; exact po0.below ((Below.refl _ _).alloc (Nat.le_refl _) _)
                  have bC1 : Boxed X1 C 24 r := by rw [← hX1]; exact bC0.alloc _
                  have hs1 : X1.heap.size = T' + 1 := by rw [← hX1, ← hT']; simp
                  have hTT : TV < T' := by rw [← hT']; exact bT.lt
                  have HX1 := Lib.hid hX1
                  have HT1 := Lib.hid hT'
                  have hCT : C < TV := by have := hbC.lt; rw [HTV.out] at this; exact this
                  clear hX1 hT' E0 bC0 po0 hat0
                  gi_wp2_with fail
                  rw [HX1.out, HT1.out]
                  have hatE := hat (T' + 3)
                  rw [HTV.out] at hatE
                  refine rf_break (id := 4) (N := N) (own := fun _ => False) (Kp := Keep (fun b => b = PB.at oo (T' + 3) ∨ b = T' + 3)) (encs := fun i => #[tx (Q.getD i ([], [])).1, tx (Q.getD i ([], [])).2]) rfl (by omega) (gf := 57) (lb := #[.pointer (some ⟨C, 0, none⟩)]) rfl trivial (enters_of Tryz.func57 (by kernel_rfl) rfl)
                    (fun _ => rfl) (fun b hb => hb.elim)
                    (fun X hX hs => by
                      have := pair_iter (E := T' + 3) (o := oo) (by omega) ((hX.block _ bC1.lt).trans bC1) (po1.below hX) hpo (by rw [HNN.out]; omega) (9 - 1)
                      rwa [HNN.out] at this)
                    Keep.trans (fun X ob o' h2 h3 => Keep.putObj _ _ _ (by omega))
                    (fun i X => LB w X (.slice p1 n1 c1) (.slice (some ⟨g1, o1, none⟩) N c2) (.slice q1 r1 d1) (.slice q2 r2 d2) m B ∧ PB oo X ∧ Boxed X C 24 r ∧ Boxed X TV 3 (.int .i64 0) ∧ Boxed X T' 3 (.int .i64 (i : Int)) ∧ (1 ≤ i → (i : Int) < m))
                    (fun X => ∃ i : Nat, i ≤ N ∧ (i = N ∨ (1 ≤ i ∧ m ≤ (i : Int))) ∧ (2 ≤ i → (i : Int) - 1 < m) ∧ LB w X (.slice p1 n1 c1) (.slice (some ⟨g1, o1, none⟩) N c2) (.slice q1 r1 d1) (.slice q2 r2 d2) m B ∧ PB oo X ∧ Boxed X C 24 r ∧ Boxed X TV 3 (.int .i64 0) ∧ Boxed X T' 3 (.int .i64 (i : Int)))
                    (fun i X Y hs ht => ⟨hs.1.turn ht (by omega), hs.2.1.turn ht, ht.boxed hs.2.2.1 (fun h => h), ht.boxed hs.2.2.2.1 (fun h => h), ht.boxed hs.2.2.2.2.1 (fun h => h), hs.2.2.2.2.2⟩)
                    (fun X Y hs ht => by
                      obtain ⟨i, e2, e3, e4, e5, e6, e7, e8, e9⟩ := hs
                      exact ⟨i, e2, e3, e4, e5.turn ht (by omega), e6.turn ht, ht.boxed e7 (fun h => h), ht.boxed e8 (fun h => h), ht.boxed e9 (fun h => h)⟩)
                    ⟨E1, po1, bC1, bT1, bn1, by omega⟩
                    (fun i b _ => b = { tmps := #[Value.agg #[Value.slice p1 n1 c1, Value.slice (some { block := g1, off := o1 }) N c2], Value.agg #[Value.slice q1 r1 d1, Value.slice q2 r2 d2], Value.string ab, Value.int IntKind.i64 m, Value.pointer (some { block := B, off := 0 }), Value.pointer (some { block := B + 1, off := 0 }), undef, Value.pointer (some { block := B + 2, off := 0 }), Value.pointer (some { block := B + 3, off := 0 }), Value.string { data := #[] }, Value.int IntKind.i64 2, Value.string zb, Value.bool true, Value.int IntKind.i64 ↑j, Value.func (Fn.func 57) #[] #[Value.pointer (some { block := C, off := 0 })], Value.pointer (some { block := TV, off := 0 }), Value.pointer (some { block := T', off := 0 }), tx (Q.getD i ([], [])).1, tx (Q.getD i ([], [])).2, Value.agg #[Value.slice p1 n1 c1, Value.slice (some { block := g1, off := o1 }) N c2], Value.bool true, Value.bool false, Value.bool false, Value.agg #[Value.slice q1 r1 d1, Value.slice q2 r2 d2], Value.bool true, Value.bool false, Value.bool false, Value.bool false, Value.string ab, Value.int IntKind.i64 ↑ab.size, Value.bool false, Value.bool false, undef, Value.tuple #[Value.string { data := #[] }, Value.int IntKind.i64 2], Value.agg #[Value.slice p1 n1 c1, Value.slice (some { block := g1, off := o1 }) N c2], Value.tuple #[Value.string { data := #[] }, Value.int IntKind.i64 2], Value.string { data := #[] }, Value.int IntKind.i64 2, Value.agg #[Value.slice p1 n1 c1, Value.slice (some { block := g1, off := o1 }) N c2], Value.bool false, Value.bool true, Value.bool true, Value.string { data := #[] }, Value.bool false, Value.bool false, Value.int IntKind.i64 2, Value.int IntKind.i64 2, Value.bool false, Value.bool false, Value.bool false, Value.bool false, Value.agg #[Value.slice p1 n1 c1, Value.slice (some { block := g1, off := o1 }) N c2], Value.bool false, Value.bool false, undef, undef, undef, undef, undef, undef, undef, undef, undef, Value.bool false, Value.bool false, Value.bool false, Value.agg #[Value.slice p1 n1 c1, Value.slice (some { block := g1, off := o1 }) N c2], Value.string jb, Value.agg #[Value.slice p1 n1 c1, Value.slice (some { block := g1, off := o1 }) N c2], Value.string jb, Value.bool false, Value.bool false, Value.bool false, Value.agg #[Value.slice p1 n1 c1, Value.slice (some { block := g1, off := o1 }) N c2], Value.agg #[Value.slice q1 r1 d1, Value.slice q2 r2 d2], Value.bool sm, Value.agg #[Value.slice p1 n1 c1, Value.slice (some { block := g1, off := o1 }) N c2], Value.agg #[Value.slice q1 r1 d1, Value.slice q2 r2 d2], Value.bool sm, Value.bool false, Value.bool false, Value.bool false, Value.agg #[Value.slice p1 n1 c1, Value.slice (some { block := g1, off := o1 }) N c2], Value.agg #[Value.slice p1 n1 c1, Value.slice (some { block := g1, off := o1 }) N c2], Value.bool true, Value.bool false, Value.bool false, Value.tuple #[Value.string zb, Value.bool true], Value.agg #[Value.slice p1 n1 c1, Value.slice (some { block := g1, off := o1 }) N c2], Value.string ab, Value.tuple #[Value.string zb, Value.bool true], Value.string zb, Value.bool true, Value.int IntKind.i64 ↑j, Value.pointer (some { block := B, off := 1 }), Value.slice (some { block := g1, off := o1 }) N c2, Value.int IntKind.i64 ↑N, Value.bool true, Value.bool true, Value.pointer (some { block := B, off := 1 }), Value.slice (some { block := g1, off := o1 }) N c2, Value.int IntKind.i64 ↑j, Value.pointer (some { block := g1, off := o1 + j * 2 }), Value.pointer (some { block := g1, off := o1 + j * 2 }), Value.string ab, Value.string ab, Value.bool false, Value.bool false, u108, u109, Value.bool true, Value.int IntKind.i64 ↑j, Value.pointer (some { block := B, off := 1 }), Value.slice (some { block := g1, off := o1 }) N c2, Value.int IntKind.i64 ↑N, Value.bool true, Value.bool false, Value.bool false, Value.bool true, Value.bool true, Value.string zb, Value.pointer (some { block := B, off := 1 }), Value.slice (some { block := g1, off := o1 }) N c2, Value.int IntKind.i64 ↑j, Value.pointer (some { block := g1, off := o1 + j * 2 }), Value.pointer (some { block := g1, off := o1 + j * 2 + 1 }), Value.string zb, Value.bool false, Value.bool false, Value.bool false, Value.bool false, Value.bool true, Value.bool false, Value.bool false, undef, undef, Value.bool false, Value.bool false, Value.agg #[Value.slice p1 n1 c1, Value.slice (some { block := g1, off := o1 }) N c2], Value.func (Fn.func 57) #[] #[Value.pointer (some { block := C, off := 0 })], Value.func (Fn.func 57) #[] #[Value.pointer (some { block := C, off := 0 })], Value.bool false, Value.int IntKind.i64 0, Value.bool true, undef, undef, Value.func (Fn.func 57) #[] #[Value.pointer (some { block := C, off := 0 })], tx (Q.getD i ([], [])).1, tx (Q.getD i ([], [])).2, undef, undef, undef, undef, undef, undef, undef, undef, undef, undef, undef, undef, undef, undef, undef, undef, undef, undef, undef, undef, undef, undef, undef, undef, undef, undef, undef, undef, undef, undef, undef, undef, undef, undef, undef, undef, undef, undef, undef, undef, undef, undef, undef, undef, undef, undef, undef, undef, undef, undef], defers := [] })
                    (fun _ _ _ _ hs _ => hs) ?assign ?body ?all ?fin
                  case assign =>
                    intro l' i X K hi hI hK
                    gi_wp2
                    exact hK _ _ (KeepsFrom.refl _ _) (fun _ _ => rfl) hI rfl
                  case body =>
                    rintro l' i b X hl' ⟨rc, hr⟩ hi ⟨E2, po2, bC2, bT2, bn2, him⟩ rfl
                    have cn := bn2.cell
                    have fn := bn2.frozen
                    have cT2 := bT2.cell
                    have cm := E2.m.cell
                    obtain ⟨y0, y1⟩ := two_cells E2.t
                    obtain ⟨g9, o9, he9, hcs9⟩ := (H2.out.below E2.hb).cells (k := i) (by rw [HNN.out]; exact hi)
                    cases he9
                    obtain ⟨hx, hy⟩ := hcs9 i (by rw [HNN.out]; exact hi)
                    obtain ⟨xa, hxa⟩ : ∃ z : ByteArray, tx (Q.getD i ([], [])).1 = .string z := ⟨_, rfl⟩
                    obtain ⟨xc, hxc⟩ : ∃ z : ByteArray, tx (Q.getD i ([], [])).2 = .string z := ⟨_, rfl⟩
                    rw [hxa] at hx ⊢
                    rw [hxc] at hy ⊢
                    have HE2 := Lib.hid E2
                    have HbC2 := Lib.hid bC2
                    have HbT2 := Lib.hid bT2
                    have Hbn2 := Lib.hid bn2
                    have HPO2 := Lib.hid po2
                    have HIM := Lib.hid him
                    have hba : (xa.toList == xa.toList) = true := beq_self_eq_true _
                    have hbc : (xc.toList == xc.toList) = true := beq_self_eq_true _
                    clear E2 bT2 bn2 bC2 po2 him hxa hxc hcs9 cT
                    gi_wp2
                    · have h1 : m ≤ (i : Int) + 1 := by assumption
                      exact ⟨(KeepsOthers.setCell _ _ _).from _, rfl, i + 1, by omega, .inr ⟨by omega, by omega⟩, fun h => by have := HIM.out (by omega); omega, HE2.out.set (by omega) _, (po_set (E := T' + 3) HPO2.out (by omega) _ (by omega)), HbC2.out.other (by omega) _, HbT2.out.other (by omega) _, Hbn2.out.set _⟩
                    · have h1 : (i : Int) + 1 < m := by assumption
                      exact ⟨(KeepsOthers.setCell _ _ _).from _, fun b hb => Below.heap_setCell _ _ _ _ (by show b ≠ T'; omega), HE2.out.set (by omega) _, (po_set (E := T' + 3) HPO2.out (by omega) _ (by omega)), HbC2.out.other (by omega) _, HbT2.out.other (by omega) _, Hbn2.out.set _, fun _ => by omega⟩
                  case all =>
                    rintro X ⟨e1, e2, e3, e4, e5, e6⟩
                    exact ⟨N, Nat.le_refl _, .inl rfl, fun h => by have := e6 (by omega); omega, e1, e2, e3, e4, e5⟩
                  case fin =>
                    rintro D1 X hD1 ⟨i0, hiN, him, hil, E2, po2, bC2, bT2, bn2⟩ hK1
                    have cn := bn2.cell
                    have cT := bT2.cell
                    have fT := bT2.frozen
                    have cm := E2.m.cell
                    obtain ⟨y0, y1⟩ := two_cells E2.t
                    have HE2 := Lib.hid E2
                    have HbC2 := Lib.hid bC2
                    have HbT2 := Lib.hid bT2
                    have HPO2 := Lib.hid po2
                    have HK1D := Lib.hid hK1
                    have Hbn2 := Lib.hid bn2
                    obtain ⟨mx, hmx, hmi⟩ : ∃ mx : Int, (∀ W, (Builtin.max_ #[3, 3] 3 #[.int .i64 1, .int .i64 m]).run Tryz.prog W = .ok (.int .i64 mx) W) ∧ (∀ W, (Builtin.min_ #[3, 3] 3 #[.int .i64 (N : Int), .int .i64 mx]).run Tryz.prog W = .ok (.int .i64 (i0 : Int)) W) := by
                      refine ⟨if m > 1 then m else 1, fun W => gt_max _ _ _ _ W, fun W => ?_⟩
                      rw [gt_min]
                      congr 2
                      split <;> split <;> omega
                    clear E2 bT2 bn2 bC2 po2 him hK1 hil
                    gi_wp2_with fail
                    rw [roundsIn_succ]
                    obtain ⟨T2, hT2⟩ : ∃ T2, X.heap.size = T2 := ⟨_, rfl⟩
                    obtain ⟨X2, hX2⟩ : ∃ X2, X.alloc (.cells #[.int .i64 1] 3) = X2 := ⟨_, rfl⟩
                    obtain ⟨X3, hX3⟩ : ∃ X3, X2.alloc (.cells #[.int .i64 0] 3) = X3 := ⟨_, rfl⟩
                    have hCX : T' < X.heap.size := by have := Hbn2.out.lt; omega
                    have E3 : LB w X3 (.slice p1 n1 c1) (.slice (some ⟨g1, o1, none⟩) N c2) (.slice q1 r1 d1) (.slice q2 r2 d2) m B := by rw [← hX3, ← hX2]; exact (HE2.out.alloc _).alloc _
                    have po3 : PB oo X3 := by rw [← hX3, ← hX2]; exact (HPO2.out.below ((Below.refl _ _).alloc (Nat.le_refl _) _)).below ((Below.refl _ _).alloc (Nat.le_refl _) _)
                    have bC3 : Boxed X3 C 24 r := by rw [← hX3, ← hX2]; exact (HbC2.out.alloc _).alloc _
                    have bT3 : Boxed X3 T2 3 (.int .i64 1) := by rw [← hX3, ← hX2, ← hT2]; exact (Boxed.new _ _ _).alloc _
                    obtain ⟨C2, hC2⟩ : ∃ C2, X2.heap.size = C2 := ⟨_, rfl⟩
                    have hTC2 : C2 = T2 + 1 := by rw [← hC2, ← hX2, ← hT2]; simp
                    have bn3 : Boxed X3 C2 3 (.int .i64 0) := by rw [← hX3, ← hC2]; exact Boxed.new _ _ _
                    have hs3 : X3.heap.size = C2 + 1 := by rw [← hX3, ← hC2]; simp
                    have hD1s : D1 < T2 := by rw [← hT2]; exact (Array.getElem?_eq_some_iff.1 HK1D.out).1
                    have K3 : X3.heap[D1]? = some (.deferred (some [])) := by
                      rw [← hX3, ← hX2]
                      exact (Below.heap_alloc _ _ _ (by simp; omega)).trans ((Below.heap_alloc _ _ _ (by omega)).trans HK1D.out)
                    have cT2 : X2.cell? ⟨T2, 0, none⟩ = some (.int .i64 1) := by rw [← hX2, ← hT2]; exact (Boxed.new _ _ _).cell
                    have cT2b : (X2.alloc (.cells #[.int .i64 0] 3)).cell? ⟨T2, 0, none⟩ = some (.int .i64 1) := by rw [hX3]; exact bT3.cell
                    rw [hT2, hX2]
                    have HX3 := Lib.hid hX3
                    have HC2 := Lib.hid hC2
                    have HTC2 := Lib.hid hTC2
                    have hTT2 : T' < T2 := by omega
                    clear hX3 hC2 hT2 hX2 hTC2 cn cT fT cm y0 y1
                    gi_wp2_with fail
                    rw [HX3.out, HC2.out]
                    have hTC2 : T2 < C2 := by have := HTC2.out; omega
                    have hatE2 := hat (C2 + 3)
                    rw [HTV.out] at hatE2
                    clear cT2 cT2b
                    refine rf_break (id := 4) (N := N) (own := fun _ => False) (Kp := Keep (fun b => b = PB.at oo (C2 + 3) ∨ b = C2 + 3)) (encs := fun i => #[tx (Q.getD i ([], [])).1, tx (Q.getD i ([], [])).2]) rfl (by omega) (gf := 57) (lb := #[.pointer (some ⟨C, 0, none⟩)]) rfl trivial (enters_of Tryz.func57 (by kernel_rfl) rfl)
                      (fun _ => rfl) (fun b hb => hb.elim)
                      (fun Y hY hs => by
                        have := pair_iter (E := C2 + 3) (o := oo) (by omega) ((hY.block _ bC3.lt).trans bC3) (po3.below hY) hpo (by rw [HNN.out]; omega) (9 - 1)
                        rwa [HNN.out] at this)
                      Keep.trans (fun Y ob o' h2 h3 => Keep.putObj _ _ _ (by omega))
                      (fun i Y => LB w Y (.slice p1 n1 c1) (.slice (some ⟨g1, o1, none⟩) N c2) (.slice q1 r1 d1) (.slice q2 r2 d2) m B ∧ Boxed Y T2 3 (.int .i64 1) ∧ Boxed Y C2 3 (.int .i64 (i : Int)) ∧ Y.heap[D1]? = some (.deferred (some [])))
                      (fun Y => LB w Y (.slice p1 n1 c1) (.slice (some ⟨g1, o1, none⟩) N c2) (.slice q1 r1 d1) (.slice q2 r2 d2) m B ∧ Boxed Y T2 3 (.int .i64 1) ∧ Boxed Y C2 3 (.int .i64 (N : Int)) ∧ Y.heap[D1]? = some (.deferred (some [])))
                      (fun i Y Z hs ht => ⟨hs.1.turn ht (by omega), ht.boxed hs.2.1 (fun h => h), ht.boxed hs.2.2.1 (fun h => h), ht.low hs.2.2.2 (by omega) (fun h => h)⟩)
                      (fun Y Z hs ht => ⟨hs.1.turn ht (by omega), ht.boxed hs.2.1 (fun h => h), ht.boxed hs.2.2.1 (fun h => h), ht.low hs.2.2.2 (by omega) (fun h => h)⟩)
                      ⟨E3, bT3, bn3, K3⟩
                      (fun i b _ => b = { tmps := #[Value.agg #[Value.slice p1 n1 c1, Value.slice (some { block := g1, off := o1 }) N c2], Value.agg #[Value.slice q1 r1 d1, Value.slice q2 r2 d2], Value.string ab, Value.int IntKind.i64 m, Value.pointer (some { block := B, off := 0 }), Value.pointer (some { block := B + 1, off := 0 }), undef, Value.pointer (some { block := B + 2, off := 0 }), Value.pointer (some { block := B + 3, off := 0 }), Value.string { data := #[] }, Value.int IntKind.i64 2, Value.string zb, Value.bool true, Value.int IntKind.i64 ↑j, Value.func (Fn.func 57) #[] #[Value.pointer (some { block := C, off := 0 })], .pointer (some ⟨T2, 0, none⟩), .pointer (some ⟨C2, 0, none⟩), tx (Q.getD i ([], [])).1, tx (Q.getD i ([], [])).2, Value.agg #[Value.slice p1 n1 c1, Value.slice (some { block := g1, off := o1 }) N c2], Value.bool true, Value.bool false, Value.bool false, Value.agg #[Value.slice q1 r1 d1, Value.slice q2 r2 d2], Value.bool true, Value.bool false, Value.bool false, Value.bool false, Value.string ab, Value.int IntKind.i64 ↑ab.size, Value.bool false, Value.bool false, undef, Value.tuple #[Value.string { data := #[] }, Value.int IntKind.i64 2], Value.agg #[Value.slice p1 n1 c1, Value.slice (some { block := g1, off := o1 }) N c2], Value.tuple #[Value.string { data := #[] }, Value.int IntKind.i64 2], Value.string { data := #[] }, Value.int IntKind.i64 2, Value.agg #[Value.slice p1 n1 c1, Value.slice (some { block := g1, off := o1 }) N c2], Value.bool false, Value.bool true, Value.bool true, Value.string { data := #[] }, Value.bool false, Value.bool false, Value.int IntKind.i64 2, Value.int IntKind.i64 2, Value.bool false, Value.bool false, Value.bool false, Value.bool false, Value.agg #[Value.slice p1 n1 c1, Value.slice (some { block := g1, off := o1 }) N c2], Value.bool false, Value.bool false, undef, undef, undef, undef, undef, undef, undef, undef, undef, Value.bool false, Value.bool false, Value.bool false, Value.agg #[Value.slice p1 n1 c1, Value.slice (some { block := g1, off := o1 }) N c2], Value.string jb, Value.agg #[Value.slice p1 n1 c1, Value.slice (some { block := g1, off := o1 }) N c2], Value.string jb, Value.bool false, Value.bool false, Value.bool false, Value.agg #[Value.slice p1 n1 c1, Value.slice (some { block := g1, off := o1 }) N c2], Value.agg #[Value.slice q1 r1 d1, Value.slice q2 r2 d2], Value.bool sm, Value.agg #[Value.slice p1 n1 c1, Value.slice (some { block := g1, off := o1 }) N c2], Value.agg #[Value.slice q1 r1 d1, Value.slice q2 r2 d2], Value.bool sm, Value.bool false, Value.bool false, Value.bool false, Value.agg #[Value.slice p1 n1 c1, Value.slice (some { block := g1, off := o1 }) N c2], Value.agg #[Value.slice p1 n1 c1, Value.slice (some { block := g1, off := o1 }) N c2], Value.bool true, Value.bool false, Value.bool false, Value.tuple #[Value.string zb, Value.bool true], Value.agg #[Value.slice p1 n1 c1, Value.slice (some { block := g1, off := o1 }) N c2], Value.string ab, Value.tuple #[Value.string zb, Value.bool true], Value.string zb, Value.bool true, Value.int IntKind.i64 ↑j, Value.pointer (some { block := B, off := 1 }), Value.slice (some { block := g1, off := o1 }) N c2, Value.int IntKind.i64 ↑N, Value.bool true, Value.bool true, Value.pointer (some { block := B, off := 1 }), Value.slice (some { block := g1, off := o1 }) N c2, Value.int IntKind.i64 ↑j, Value.pointer (some { block := g1, off := o1 + j * 2 }), Value.pointer (some { block := g1, off := o1 + j * 2 }), Value.string ab, Value.string ab, Value.bool false, Value.bool false, u108, u109, Value.bool true, Value.int IntKind.i64 ↑j, Value.pointer (some { block := B, off := 1 }), Value.slice (some { block := g1, off := o1 }) N c2, Value.int IntKind.i64 ↑N, Value.bool true, Value.bool false, Value.bool false, Value.bool true, Value.bool true, Value.string zb, Value.pointer (some { block := B, off := 1 }), Value.slice (some { block := g1, off := o1 }) N c2, Value.int IntKind.i64 ↑j, Value.pointer (some { block := g1, off := o1 + j * 2 }), Value.pointer (some { block := g1, off := o1 + j * 2 + 1 }), Value.string zb, Value.bool false, Value.bool false, Value.bool false, Value.bool false, Value.bool true, Value.bool false, Value.bool false, undef, undef, Value.bool false, Value.bool false, Value.agg #[Value.slice p1 n1 c1, Value.slice (some { block := g1, off := o1 }) N c2], Value.func (Fn.func 57) #[] #[Value.pointer (some { block := C, off := 0 })], Value.func (Fn.func 57) #[] #[Value.pointer (some { block := C, off := 0 })], Value.bool false, .int .i64 1, .bool true, .int .i64 0, .int .i64 1, Value.func (Fn.func 57) #[] #[Value.pointer (some { block := C, off := 0 })], tx (Q.getD i ([], [])).1, tx (Q.getD i ([], [])).2, undef, undef, undef, undef, undef, undef, undef, undef, undef, undef, undef, undef, undef, undef, undef, undef, undef, undef, undef, undef, undef, undef, undef, undef, undef, .int .i64 0, .bool true, .bool true, .int .i64 (i0 : Int), .pointer (some ⟨B, 1, none⟩), .slice (some ⟨g1, o1, none⟩) N c2, .int .i64 (N : Int), .int .i64 m, .int .i64 mx, .int .i64 (i0 : Int), .bool false, .bool false, .bool false, .int .i64 0, .bool false, .bool false, undef, undef, undef, undef, undef, .bool false, .bool false, .int .i64 0, undef], defers := [] })
                      (fun _ _ _ _ hs _ => hs) ?assign2 ?body2 ?all2 ?fin2
                    case assign2 =>
                      intro l' i Y K hi hI hK
                      gi_wp2
                      exact hK _ _ (KeepsFrom.refl _ _) (fun _ _ => rfl) hI rfl
                    case body2 =>
                      rintro l' i b Y hl' ⟨rc, hr⟩ hi ⟨E4, bT4, bn4, K4⟩ rfl
                      have cn := bn4.cell
                      have fn := bn4.frozen
                      have cT := bT4.cell
                      have cm := E4.m.cell
                      obtain ⟨y0, y1⟩ := two_cells E4.t
                      obtain ⟨g9, o9, he9, hcs9⟩ := (H2.out.below E4.hb).cells (k := i) (by rw [HNN.out]; exact hi)
                      cases he9
                      obtain ⟨hx, hy⟩ := hcs9 i (by rw [HNN.out]; exact hi)
                      obtain ⟨xa, hxa⟩ : ∃ z : ByteArray, tx (Q.getD i ([], [])).1 = .string z := ⟨_, rfl⟩
                      obtain ⟨xc, hxc⟩ : ∃ z : ByteArray, tx (Q.getD i ([], [])).2 = .string z := ⟨_, rfl⟩
                      rw [hxa] at hx ⊢
                      rw [hxc] at hy ⊢
                      have HE4 := Lib.hid E4
                      have HbT4 := Lib.hid bT4
                      have Hbn4 := Lib.hid bn4
                      have HK4 := Lib.hid K4
                      have hba : (xa.toList == xa.toList) = true := beq_self_eq_true _
                      have hbc : (xc.toList == xc.toList) = true := beq_self_eq_true _
                      clear E4 bT4 bn4 K4 hmx hmi hxa hxc hcs9
                      gi_wp2
                      exact ⟨(KeepsOthers.setCell _ _ _).from _, fun b hb => Below.heap_setCell _ _ _ _ (by show b ≠ C2; omega), HE4.out.set (by omega) _, HbT4.out.other (by omega) _, Hbn4.out.set _, (Below.heap_setCell _ _ _ _ (by show D1 ≠ C2; omega)).trans HK4.out⟩
                    case all2 =>
                      rintro Y ⟨e1, e2, e3, e4⟩
                      exact ⟨e1, e2, e3, e4⟩
                    case fin2 =>
                      rintro D2 Y hD2 ⟨E5, bT5, bn5, K5⟩ hK2
                      have cn := bn5.cell
                      have cT := bT5.cell
                      have cm := E5.m.cell
                      obtain ⟨y0, y1⟩ := two_cells E5.t
                      have HE5 := Lib.hid E5
                      have HK5 := Lib.hid K5
                      have HK2D := Lib.hid hK2
                      clear E5 bT5 bn5 K5 hK2 hmx hmi
                      gi_wp2_with fail
                      rw [roundsIn_succ]
                      obtain ⟨Z, hZ⟩ : ∃ Z, Y.alloc (.cells #[.int .i64 2] 3) = Z := ⟨_, rfl⟩
                      obtain ⟨T3, hT3⟩ : ∃ T3, Y.heap.size = T3 := ⟨_, rfl⟩
                      have cZ : Z.cell? ⟨T3, 0, none⟩ = some (.int .i64 2) := by rw [← hZ, ← hT3]; exact (Boxed.new _ _ _).cell
                      have E6 : LB w Z (.slice p1 n1 c1) (.slice (some ⟨g1, o1, none⟩) N c2) (.slice q1 r1 d1) (.slice q2 r2 d2) m B := by rw [← hZ]; exact HE5.out.alloc _
                      have K6 : Z.heap[D1]? = some (.deferred (some [])) := by rw [← hZ]; exact (Below.heap_alloc _ _ _ (Array.getElem?_eq_some_iff.1 HK5.out).1).trans HK5.out
                      have K7 : Z.heap[D2]? = some (.deferred (some [])) := by rw [← hZ]; exact (Below.heap_alloc _ _ _ (Array.getElem?_eq_some_iff.1 HK2D.out).1).trans HK2D.out
                      rw [hT3, hZ]
                      have HE6 := Lib.hid E6
                      have HK6 := Lib.hid K6
                      have HK7 := Lib.hid K7
                      have WKZ := Lib.hid (WK.out Z (HK.out.below E6.hb))
                      clear hT3 hZ E6 K6 K7 cn cT cm y0 y1
                      gi_wp2_with fail
                      first
                        | refine WKZ.out.mono ?_
                        | refine ⟨trivial, (callsIn_wide.2 WKZ.out).mono ?_⟩
                        | (go_wp2_with fail; refine WKZ.out.mono ?_)
                      rintro e V' ⟨rfl, hbV⟩
                      have bR : Boxed V' (B + 3) 4 (.bool false) := (hbV.block _ HE6.out.r.lt).trans HE6.out.r
                      have K8 : V'.heap[D1]? = some (.deferred (some [])) := (hbV.block _ (Array.getElem?_eq_some_iff.1 HK6.out).1).trans HK6.out
                      have K9 : V'.heap[D2]? = some (.deferred (some [])) := (hbV.block _ (Array.getElem?_eq_some_iff.1 HK7.out).1).trans HK7.out
                      have bV := HE6.out.hb.trans (hbV.mono HE6.out.hb.size)
                      have cR := bR.cell
                      have fR := bR.frozen
                      have HK8 := Lib.hid K8
                      have HK9 := Lib.hid K9
                      have HbR := Lib.hid bR
                      have HbV := Lib.hid bV
                      clear bR K8 K9 bV hbV
                      first | go_wp2_with fail | skip
                      have hBw := HE6.out.hB
                      have d2 : B + 3 < D2 := by omega
                      have d1 : B + 3 < D1 := by omega
                      have d12 : D1 ≠ D2 := by omega
                      have L9 : (V'.setCell ⟨B + 3, 0, none⟩ (.bool true)).heap[D2]? = some (.deferred (some [])) := (Below.heap_setCell _ _ _ _ (by show D2 ≠ B + 3; omega)).trans HK9.out
                      have L8 : ((V'.setCell ⟨B + 3, 0, none⟩ (.bool true)).putObj D2 (.deferred none)).heap[D1]? = some (.deferred (some [])) := (World.putObj_heap_other d12).trans ((Below.heap_setCell _ _ _ _ (by show D1 ≠ B + 3; omega)).trans HK8.out)
                      have L0 : Boxed (((V'.setCell ⟨B + 3, 0, none⟩ (.bool true)).putObj D2 (.deferred none)).putObj D1 (.deferred none)) (B + 3) 4 (.bool true) := (World.putObj_heap_other (by omega)).trans ((World.putObj_heap_other (by omega)).trans (HbR.out.set _))
                      have c0 := L0.cell
                      refine ⟨by simp, .inl ⟨_, _, rfl, run_takeDeferred L9, ?_⟩⟩
                      refine ⟨by simp, .inl ⟨_, _, rfl, run_takeDeferred L8, ?_⟩⟩
                      refine ⟨.bool true, ?_, rfl, ?_⟩
                      · simp [results, Tryz.results5, go_sem, c0]
                      · refine (HbV.out.setCell (p := ⟨B + 3, 0, none⟩) (by show w.heap.size ≤ B + 3; omega) _).trans ((belowK_b (w := w) (Nat.le_refl _) _ D2 _ _ (by omega) L9 rfl rfl).trans (belowK_b (w := w) (Nat.le_refl _) _ D1 _ _ (by omega) L8 rfl rfl))

            · rw [if_neg (by rw [HNN.out]; exact hkN)] at HGE
              go_wp2_with fail
              refine HGE.out.mono ?_
              rintro e w6 ⟨rfl, hb6⟩
              have HL6 := Lib.hid (HL5.out.next hb6)
              clear hb6 t0 t1
              obtain ⟨t0, t1⟩ := two_cells HL6.out.t
              have hkN2 : k = N := by have := HK1.out; omega
              go_wp2_with fail
              go_loopw [13] (fun i wr => ∃ j : Nat, j ≤ k ∧ i = .int .i64 j ∧ wr = w6) (fun i _ => k - (intOf i).toNat)
              case atStart => exact ⟨0, Nat.zero_le _, rfl, by first | rfl | trivial⟩
              case round =>
                obtain ⟨j, hj, rfl, hwr⟩ := hrel
                have hwr2 := hwr.symm
                clear hwr
                subst hwr2
                by_cases hjk : j < k
                · obtain ⟨g1, o1, rfl, hcs⟩ := (H2.out.below HL6.out.hb).cells (k := j) (by rw [HNN.out]; omega)
                  obtain ⟨hx, hy⟩ := hcs j (by rw [HNN.out]; omega)
                  obtain ⟨ab, hab⟩ : ∃ z : ByteArray, tx (Q.getD j ([], [])).1 = .string z := ⟨_, rfl⟩
                  rw [hab] at hx
                  have hne : ab ≠ kb := fun e => HK2.out j hjk (by rw [hab, e])
                  have hbq : (ab.toList == kb.toList) = false := beq_eq_false_iff_ne.2 (fun e => hne (ba_inj e))
                  have hjN : j < N := by omega
                  clear hab hne hcs hy
                  go_wp2_with fail
                  go_roundw
                  case rel => exact ⟨j + 1, hjk, by go_num, by first | rfl | trivial⟩
                  case measure => simp [intOf]; omega
                · have hjk2 : j = k := by omega
                  subst hjk2
                  have lr := HL6.out.r.cell
                  have fr := HL6.out.r.frozen
                  have KP := Lib.hid (PP.out w6 (H2.out.below HL6.out.hb))
                  clear hjk
                  go_wp2_with fail
                  refine KP.out.mono ?_
                  rintro e V ⟨C, r, rfl, hbC, hrow, hCB, hbV⟩
                  obtain ⟨oo, po, hpo, hat⟩ := PB.of hrow
                  have EV := HL6.out.next hbV
                  obtain ⟨TV, hTV⟩ : ∃ TV, V.heap.size = TV := ⟨_, rfl⟩
                  obtain ⟨V0, hV0⟩ : ∃ V0, V.alloc (.cells #[.int .i64 0] 3) = V0 := ⟨_, rfl⟩
                  have hB4 : B + 3 < TV := by rw [← hTV]; exact EV.lt
                  have HTV := Lib.hid hTV
                  have HV0 := Lib.hid hV0
                  clear t0 t1 lr fr hTV hV0
                  go_wp2_with fail
                  rw [HV0.out, HTV.out]
                  refine (wpIn_wide (n := 9)).1 ?_
                  refine wpIn_loop_rounds 3 ?_
                  rw [roundsIn_succ]
                  have E0 : LB w V0 (.slice p1 n1 c1) (.slice p2 N c2) (.slice q1 r1 d1) (.slice q2 r2 d2) m B := by rw [← HV0.out]; exact EV.alloc _
                  have bT : Boxed V0 TV 3 (.int .i64 0) := by rw [← HV0.out, ← HTV.out]; exact Boxed.new _ _ _
                  have po0 : PB oo V0 := by rw [← HV0.out]; exact po.below ((Below.refl _ _).alloc (Nat.le_refl _) _)
                  have bC0 : Boxed V0 C 24 r := by rw [← HV0.out]; exact hbC.alloc _
                  have hat0 := hat
                  have cT := bT.cell
                  obtain ⟨T', hT'⟩ : ∃ T', V0.heap.size = T' := ⟨_, rfl⟩
                  obtain ⟨X1, hX1⟩ : ∃ X1, V0.alloc (.cells #[.int .i64 0] 3) = X1 := ⟨_, rfl⟩
                  have E1 : LB w X1 (.slice p1 n1 c1) (.slice p2 N c2) (.slice q1 r1 d1) (.slice q2 r2 d2) m B := by rw [← hX1]; exact E0.alloc _
                  have bT1 : Boxed X1 TV 3 (.int .i64 0) := by rw [← hX1]; exact bT.alloc _
                  have bn1 : Boxed X1 T' 3 (.int .i64 0) := by rw [← hX1, ← hT']; exact Boxed.new _ _ _
                  have po1 : PB oo X1 := by rw [← hX1]; exact po0.below ((Below.refl _ _).alloc (Nat.le_refl _) _)
                  have bC1 : Boxed X1 C 24 r := by rw [← hX1]; exact bC0.alloc _
                  have hs1 : X1.heap.size = T' + 1 := by rw [← hX1, ← hT']; simp
                  have hTT : TV < T' := by rw [← hT']; exact bT.lt
                  have HX1 := Lib.hid hX1
                  have HT1 := Lib.hid hT'
                  have hCT : C < TV := by have := hbC.lt; rw [HTV.out] at this; exact this
                  clear hX1 hT' E0 bC0 po0 hat0
                  gi_wp2_with fail
                  rw [HX1.out, HT1.out]
                  have hatE := hat (T' + 3)
                  rw [HTV.out] at hatE
                  refine rf_break (id := 4) (N := N) (own := fun _ => False) (Kp := Keep (fun b => b = PB.at oo (T' + 3) ∨ b = T' + 3)) (encs := fun i => #[tx (Q.getD i ([], [])).1, tx (Q.getD i ([], [])).2]) rfl (by omega) (gf := 57) (lb := #[.pointer (some ⟨C, 0, none⟩)]) rfl trivial (enters_of Tryz.func57 (by kernel_rfl) rfl)
                    (fun _ => rfl) (fun b hb => hb.elim)
                    (fun X hX hs => by
                      have := pair_iter (E := T' + 3) (o := oo) (by omega) ((hX.block _ bC1.lt).trans bC1) (po1.below hX) hpo (by rw [HNN.out]; omega) (9 - 1)
                      rwa [HNN.out] at this)
                    Keep.trans (fun X ob o' h2 h3 => Keep.putObj _ _ _ (by omega))
                    (fun i X => LB w X (.slice p1 n1 c1) (.slice p2 N c2) (.slice q1 r1 d1) (.slice q2 r2 d2) m B ∧ PB oo X ∧ Boxed X C 24 r ∧ Boxed X TV 3 (.int .i64 0) ∧ Boxed X T' 3 (.int .i64 (i : Int)) ∧ (1 ≤ i → (i : Int) < m))
                    (fun X => ∃ i : Nat, i ≤ N ∧ (i = N ∨ (1 ≤ i ∧ m ≤ (i : Int))) ∧ (2 ≤ i → (i : Int) - 1 < m) ∧ LB w X (.slice p1 n1 c1) (.slice p2 N c2) (.slice q1 r1 d1) (.slice q2 r2 d2) m B ∧ PB oo X ∧ Boxed X C 24 r ∧ Boxed X TV 3 (.int .i64 0) ∧ Boxed X T' 3 (.int .i64 (i : Int)))
                    (fun i X Y hs ht => ⟨hs.1.turn ht (by omega), hs.2.1.turn ht, ht.boxed hs.2.2.1 (fun h => h), ht.boxed hs.2.2.2.1 (fun h => h), ht.boxed hs.2.2.2.2.1 (fun h => h), hs.2.2.2.2.2⟩)
                    (fun X Y hs ht => by
                      obtain ⟨i, e2, e3, e4, e5, e6, e7, e8, e9⟩ := hs
                      exact ⟨i, e2, e3, e4, e5.turn ht (by omega), e6.turn ht, ht.boxed e7 (fun h => h), ht.boxed e8 (fun h => h), ht.boxed e9 (fun h => h)⟩)
                    ⟨E1, po1, bC1, bT1, bn1, by omega⟩
                    (fun i b _ => b = { tmps := #[Value.agg #[Value.slice p1 n1 c1, Value.slice p2 N c2], Value.agg #[Value.slice q1 r1 d1, Value.slice q2 r2 d2], Value.string kb, Value.int IntKind.i64 m, Value.pointer (some { block := B, off := 0 }), Value.pointer (some { block := B + 1, off := 0 }), undef, Value.pointer (some { block := B + 2, off := 0 }), Value.pointer (some { block := B + 3, off := 0 }), Value.string { data := #[] }, Value.int IntKind.i64 2, Value.string { data := #[] }, Value.bool false, Value.int IntKind.i64 ↑N, Value.func (Fn.func 57) #[] #[Value.pointer (some { block := C, off := 0 })], Value.pointer (some { block := TV, off := 0 }), Value.pointer (some { block := T', off := 0 }), tx (Q.getD i ([], [])).1, tx (Q.getD i ([], [])).2, Value.agg #[Value.slice p1 n1 c1, Value.slice p2 N c2], Value.bool true, Value.bool false, Value.bool false, Value.agg #[Value.slice q1 r1 d1, Value.slice q2 r2 d2], Value.bool true, Value.bool false, Value.bool false, Value.bool false, Value.string kb, Value.int IntKind.i64 ↑kb.size, Value.bool false, Value.bool false, undef, Value.tuple #[Value.string { data := #[] }, Value.int IntKind.i64 2], Value.agg #[Value.slice p1 n1 c1, Value.slice p2 N c2], Value.tuple #[Value.string { data := #[] }, Value.int IntKind.i64 2], Value.string { data := #[] }, Value.int IntKind.i64 2, Value.agg #[Value.slice p1 n1 c1, Value.slice p2 N c2], Value.bool false, Value.bool true, Value.bool true, Value.string { data := #[] }, Value.bool false, Value.bool false, Value.int IntKind.i64 2, Value.int IntKind.i64 2, Value.bool false, Value.bool false, Value.bool false, Value.bool false, Value.agg #[Value.slice p1 n1 c1, Value.slice p2 N c2], Value.bool false, Value.bool false, undef, undef, undef, undef, undef, undef, undef, undef, undef, Value.bool false, Value.bool false, Value.bool false, Value.agg #[Value.slice p1 n1 c1, Value.slice p2 N c2], Value.string jb, Value.agg #[Value.slice p1 n1 c1, Value.slice p2 N c2], Value.string jb, Value.bool false, Value.bool false, Value.bool false, Value.agg #[Value.slice p1 n1 c1, Value.slice p2 N c2], Value.agg #[Value.slice q1 r1 d1, Value.slice q2 r2 d2], Value.bool sm, Value.agg #[Value.slice p1 n1 c1, Value.slice p2 N c2], Value.agg #[Value.slice q1 r1 d1, Value.slice q2 r2 d2], Value.bool sm, Value.bool false, Value.bool false, Value.bool false, Value.agg #[Value.slice p1 n1 c1, Value.slice p2 N c2], Value.agg #[Value.slice p1 n1 c1, Value.slice p2 N c2], Value.bool true, Value.bool false, Value.bool false, Value.tuple #[Value.string { data := #[] }, Value.bool false], Value.agg #[Value.slice p1 n1 c1, Value.slice p2 N c2], Value.string kb, Value.tuple #[Value.string { data := #[] }, Value.bool false], Value.string { data := #[] }, Value.bool false, Value.int IntKind.i64 ↑N, Value.pointer (some { block := B, off := 1 }), Value.slice p2 N c2, Value.int IntKind.i64 ↑N, Value.bool false, Value.bool false, undef, undef, undef, undef, undef, undef, undef, undef, Value.bool false, u108, u109, Value.bool false, Value.int IntKind.i64 ↑N, Value.pointer (some { block := B, off := 1 }), Value.slice p2 N c2, Value.int IntKind.i64 ↑N, Value.bool false, Value.bool false, Value.bool false, Value.bool false, Value.bool false, undef, undef, undef, undef, undef, undef, undef, undef, Value.bool false, Value.bool false, Value.bool false, Value.bool false, Value.bool true, Value.bool true, Value.string { data := #[] }, Value.bool false, Value.bool false, Value.bool false, Value.agg #[Value.slice p1 n1 c1, Value.slice p2 N c2], Value.func (Fn.func 57) #[] #[Value.pointer (some { block := C, off := 0 })], Value.func (Fn.func 57) #[] #[Value.pointer (some { block := C, off := 0 })], Value.bool false, Value.int IntKind.i64 0, Value.bool true, undef, undef, Value.func (Fn.func 57) #[] #[Value.pointer (some { block := C, off := 0 })], tx (Q.getD i ([], [])).1, tx (Q.getD i ([], [])).2, undef, undef, undef, undef, undef, undef, undef, undef, undef, undef, undef, undef, undef, undef, undef, undef, undef, undef, undef, undef, undef, undef, undef, undef, undef, undef, undef, undef, undef, undef, undef, undef, undef, undef, undef, undef, undef, undef, undef, undef, undef, undef, undef, undef, undef, undef, undef, undef, undef, undef], defers := [] })
                    (fun _ _ _ _ hs _ => hs) ?assign ?body ?all ?fin
                  case assign =>
                    intro l' i X K hi hI hK
                    gi_wp2
                    exact hK _ _ (KeepsFrom.refl _ _) (fun _ _ => rfl) hI rfl
                  case body =>
                    rintro l' i b X hl' ⟨rc, hr⟩ hi ⟨E2, po2, bC2, bT2, bn2, him⟩ rfl
                    have cn := bn2.cell
                    have fn := bn2.frozen
                    have cT2 := bT2.cell
                    have cm := E2.m.cell
                    obtain ⟨y0, y1⟩ := two_cells E2.t
                    obtain ⟨g9, o9, he9, hcs9⟩ := (H2.out.below E2.hb).cells (k := i) (by rw [HNN.out]; exact hi)
                    cases he9
                    obtain ⟨hx, hy⟩ := hcs9 i (by rw [HNN.out]; exact hi)
                    obtain ⟨xa, hxa⟩ : ∃ z : ByteArray, tx (Q.getD i ([], [])).1 = .string z := ⟨_, rfl⟩
                    obtain ⟨xc, hxc⟩ : ∃ z : ByteArray, tx (Q.getD i ([], [])).2 = .string z := ⟨_, rfl⟩
                    rw [hxa] at hx ⊢
                    rw [hxc] at hy ⊢
                    have HE2 := Lib.hid E2
                    have HbC2 := Lib.hid bC2
                    have HbT2 := Lib.hid bT2
                    have Hbn2 := Lib.hid bn2
                    have HPO2 := Lib.hid po2
                    have HIM := Lib.hid him
                    have hba : (xa.toList == xa.toList) = true := beq_self_eq_true _
                    have hbc : (xc.toList == xc.toList) = true := beq_self_eq_true _
                    clear E2 bT2 bn2 bC2 po2 him hxa hxc hcs9 cT
                    gi_wp2
                    · have h1 : m ≤ (i : Int) + 1 := by assumption
                      exact ⟨(KeepsOthers.setCell _ _ _).from _, rfl, i + 1, by omega, .inr ⟨by omega, by omega⟩, fun h => by have := HIM.out (by omega); omega, HE2.out.set (by omega) _, (po_set (E := T' + 3) HPO2.out (by omega) _ (by omega)), HbC2.out.other (by omega) _, HbT2.out.other (by omega) _, Hbn2.out.set _⟩
                    · have h1 : (i : Int) + 1 < m := by assumption
                      exact ⟨(KeepsOthers.setCell _ _ _).from _, fun b hb => Below.heap_setCell _ _ _ _ (by show b ≠ T'; omega), HE2.out.set (by omega) _, (po_set (E := T' + 3) HPO2.out (by omega) _ (by omega)), HbC2.out.other (by omega) _, HbT2.out.other (by omega) _, Hbn2.out.set _, fun _ => by omega⟩
                  case all =>
                    rintro X ⟨e1, e2, e3, e4, e5, e6⟩
                    exact ⟨N, Nat.le_refl _, .inl rfl, fun h => by have := e6 (by omega); omega, e1, e2, e3, e4, e5⟩
                  case fin =>
                    rintro D1 X hD1 ⟨i0, hiN, him, hil, E2, po2, bC2, bT2, bn2⟩ hK1
                    have cn := bn2.cell
                    have cT := bT2.cell
                    have fT := bT2.frozen
                    have cm := E2.m.cell
                    obtain ⟨y0, y1⟩ := two_cells E2.t
                    have HE2 := Lib.hid E2
                    have HbC2 := Lib.hid bC2
                    have HbT2 := Lib.hid bT2
                    have HPO2 := Lib.hid po2
                    have HK1D := Lib.hid hK1
                    have Hbn2 := Lib.hid bn2
                    obtain ⟨mx, hmx, hmi⟩ : ∃ mx : Int, (∀ W, (Builtin.max_ #[3, 3] 3 #[.int .i64 1, .int .i64 m]).run Tryz.prog W = .ok (.int .i64 mx) W) ∧ (∀ W, (Builtin.min_ #[3, 3] 3 #[.int .i64 (N : Int), .int .i64 mx]).run Tryz.prog W = .ok (.int .i64 (i0 : Int)) W) := by
                      refine ⟨if m > 1 then m else 1, fun W => gt_max _ _ _ _ W, fun W => ?_⟩
                      rw [gt_min]
                      congr 2
                      split <;> split <;> omega
                    clear E2 bT2 bn2 bC2 po2 him hK1 hil
                    gi_wp2_with fail
                    rw [roundsIn_succ]
                    obtain ⟨T2, hT2⟩ : ∃ T2, X.heap.size = T2 := ⟨_, rfl⟩
                    obtain ⟨X2, hX2⟩ : ∃ X2, X.alloc (.cells #[.int .i64 1] 3) = X2 := ⟨_, rfl⟩
                    obtain ⟨X3, hX3⟩ : ∃ X3, X2.alloc (.cells #[.int .i64 0] 3) = X3 := ⟨_, rfl⟩
                    have hCX : T' < X.heap.size := by have := Hbn2.out.lt; omega
                    have E3 : LB w X3 (.slice p1 n1 c1) (.slice p2 N c2) (.slice q1 r1 d1) (.slice q2 r2 d2) m B := by rw [← hX3, ← hX2]; exact (HE2.out.alloc _).alloc _
                    have po3 : PB oo X3 := by rw [← hX3, ← hX2]; exact (HPO2.out.below ((Below.refl _ _).alloc (Nat.le_refl _) _)).below ((Below.refl _ _).alloc (Nat.le_refl _) _)
                    have bC3 : Boxed X3 C 24 r := by rw [← hX3, ← hX2]; exact (HbC2.out.alloc _).alloc _
                    have bT3 : Boxed X3 T2 3 (.int .i64 1) := by rw [← hX3, ← hX2, ← hT2]; exact (Boxed.new _ _ _).alloc _
                    obtain ⟨C2, hC2⟩ : ∃ C2, X2.heap.size = C2 := ⟨_, rfl⟩
                    have hTC2 : C2 = T2 + 1 := by rw [← hC2, ← hX2, ← hT2]; simp
                    have bn3 : Boxed X3 C2 3 (.int .i64 0) := by rw [← hX3, ← hC2]; exact Boxed.new _ _ _
                    have hs3 : X3.heap.size = C2 + 1 := by rw [← hX3, ← hC2]; simp
                    have hD1s : D1 < T2 := by rw [← hT2]; exact (Array.getElem?_eq_some_iff.1 HK1D.out).1
                    have K3 : X3.heap[D1]? = some (.deferred (some [])) := by
                      rw [← hX3, ← hX2]
                      exact (Below.heap_alloc _ _ _ (by simp; omega)).trans ((Below.heap_alloc _ _ _ (by omega)).trans HK1D.out)
                    have cT2 : X2.cell? ⟨T2, 0, none⟩ = some (.int .i64 1) := by rw [← hX2, ← hT2]; exact (Boxed.new _ _ _).cell
                    have cT2b : (X2.alloc (.cells #[.int .i64 0] 3)).cell? ⟨T2, 0, none⟩ = some (.int .i64 1) := by rw [hX3]; exact bT3.cell
                    rw [hT2, hX2]
                    have HX3 := Lib.hid hX3
                    have HC2 := Lib.hid hC2
                    have HTC2 := Lib.hid hTC2
                    have hTT2 : T' < T2 := by omega
                    clear hX3 hC2 hT2 hX2 hTC2 cn cT fT cm y0 y1
                    gi_wp2_with fail
                    rw [HX3.out, HC2.out]
                    have hTC2 : T2 < C2 := by have := HTC2.out; omega
                    have hatE2 := hat (C2 + 3)
                    rw [HTV.out] at hatE2
                    clear cT2 cT2b
                    refine rf_break (id := 4) (N := N) (own := fun _ => False) (Kp := Keep (fun b => b = PB.at oo (C2 + 3) ∨ b = C2 + 3)) (encs := fun i => #[tx (Q.getD i ([], [])).1, tx (Q.getD i ([], [])).2]) rfl (by omega) (gf := 57) (lb := #[.pointer (some ⟨C, 0, none⟩)]) rfl trivial (enters_of Tryz.func57 (by kernel_rfl) rfl)
                      (fun _ => rfl) (fun b hb => hb.elim)
                      (fun Y hY hs => by
                        have := pair_iter (E := C2 + 3) (o := oo) (by omega) ((hY.block _ bC3.lt).trans bC3) (po3.below hY) hpo (by rw [HNN.out]; omega) (9 - 1)
                        rwa [HNN.out] at this)
                      Keep.trans (fun Y ob o' h2 h3 => Keep.putObj _ _ _ (by omega))
                      (fun i Y => LB w Y (.slice p1 n1 c1) (.slice p2 N c2) (.slice q1 r1 d1) (.slice q2 r2 d2) m B ∧ Boxed Y T2 3 (.int .i64 1) ∧ Boxed Y C2 3 (.int .i64 (i : Int)) ∧ Y.heap[D1]? = some (.deferred (some [])))
                      (fun Y => LB w Y (.slice p1 n1 c1) (.slice p2 N c2) (.slice q1 r1 d1) (.slice q2 r2 d2) m B ∧ Boxed Y T2 3 (.int .i64 1) ∧ Boxed Y C2 3 (.int .i64 (N : Int)) ∧ Y.heap[D1]? = some (.deferred (some [])))
                      (fun i Y Z hs ht => ⟨hs.1.turn ht (by omega), ht.boxed hs.2.1 (fun h => h), ht.boxed hs.2.2.1 (fun h => h), ht.low hs.2.2.2 (by omega) (fun h => h)⟩)
                      (fun Y Z hs ht => ⟨hs.1.turn ht (by omega), ht.boxed hs.2.1 (fun h => h), ht.boxed hs.2.2.1 (fun h => h), ht.low hs.2.2.2 (by omega) (fun h => h)⟩)
                      ⟨E3, bT3, bn3, K3⟩
                      (fun i b _ => b = { tmps := #[Value.agg #[Value.slice p1 n1 c1, Value.slice p2 N c2], Value.agg #[Value.slice q1 r1 d1, Value.slice q2 r2 d2], Value.string kb, Value.int IntKind.i64 m, Value.pointer (some { block := B, off := 0 }), Value.pointer (some { block := B + 1, off := 0 }), undef, Value.pointer (some { block := B + 2, off := 0 }), Value.pointer (some { block := B + 3, off := 0 }), Value.string { data := #[] }, Value.int IntKind.i64 2, Value.string { data := #[] }, Value.bool false, Value.int IntKind.i64 ↑N, Value.func (Fn.func 57) #[] #[Value.pointer (some { block := C, off := 0 })], .pointer (some ⟨T2, 0, none⟩), .pointer (some ⟨C2, 0, none⟩), tx (Q.getD i ([], [])).1, tx (Q.getD i ([], [])).2, Value.agg #[Value.slice p1 n1 c1, Value.slice p2 N c2], Value.bool true, Value.bool false, Value.bool false, Value.agg #[Value.slice q1 r1 d1, Value.slice q2 r2 d2], Value.bool true, Value.bool false, Value.bool false, Value.bool false, Value.string kb, Value.int IntKind.i64 ↑kb.size, Value.bool false, Value.bool false, undef, Value.tuple #[Value.string { data := #[] }, Value.int IntKind.i64 2], Value.agg #[Value.slice p1 n1 c1, Value.slice p2 N c2], Value.tuple #[Value.string { data := #[] }, Value.int IntKind.i64 2], Value.string { data := #[] }, Value.int IntKind.i64 2, Value.agg #[Value.slice p1 n1 c1, Value.slice p2 N c2], Value.bool false, Value.bool true, Value.bool true, Value.string { data := #[] }, Value.bool false, Value.bool false, Value.int IntKind.i64 2, Value.int IntKind.i64 2, Value.bool false, Value.bool false, Value.bool false, Value.bool false, Value.agg #[Value.slice p1 n1 c1, Value.slice p2 N c2], Value.bool false, Value.bool false, undef, undef, undef, undef, undef, undef, undef, undef, undef, Value.bool false, Value.bool false, Value.bool false, Value.agg #[Value.slice p1 n1 c1, Value.slice p2 N c2], Value.string jb, Value.agg #[Value.slice p1 n1 c1, Value.slice p2 N c2], Value.string jb, Value.bool false, Value.bool false, Value.bool false, Value.agg #[Value.slice p1 n1 c1, Value.slice p2 N c2], Value.agg #[Value.slice q1 r1 d1, Value.slice q2 r2 d2], Value.bool sm, Value.agg #[Value.slice p1 n1 c1, Value.slice p2 N c2], Value.agg #[Value.slice q1 r1 d1, Value.slice q2 r2 d2], Value.bool sm, Value.bool false, Value.bool false, Value.bool false, Value.agg #[Value.slice p1 n1 c1, Value.slice p2 N c2], Value.agg #[Value.slice p1 n1 c1, Value.slice p2 N c2], Value.bool true, Value.bool false, Value.bool false, Value.tuple #[Value.string { data := #[] }, Value.bool false], Value.agg #[Value.slice p1 n1 c1, Value.slice p2 N c2], Value.string kb, Value.tuple #[Value.string { data := #[] }, Value.bool false], Value.string { data := #[] }, Value.bool false, Value.int IntKind.i64 ↑N, Value.pointer (some { block := B, off := 1 }), Value.slice p2 N c2, Value.int IntKind.i64 ↑N, Value.bool false, Value.bool false, undef, undef, undef, undef, undef, undef, undef, undef, Value.bool false, u108, u109, Value.bool false, Value.int IntKind.i64 ↑N, Value.pointer (some { block := B, off := 1 }), Value.slice p2 N c2, Value.int IntKind.i64 ↑N, Value.bool false, Value.bool false, Value.bool false, Value.bool false, Value.bool false, undef, undef, undef, undef, undef, undef, undef, undef, Value.bool false, Value.bool false, Value.bool false, Value.bool false, Value.bool true, Value.bool true, Value.string { data := #[] }, Value.bool false, Value.bool false, Value.bool false, Value.agg #[Value.slice p1 n1 c1, Value.slice p2 N c2], Value.func (Fn.func 57) #[] #[Value.pointer (some { block := C, off := 0 })], Value.func (Fn.func 57) #[] #[Value.pointer (some { block := C, off := 0 })], Value.bool false, .int .i64 1, .bool true, .int .i64 0, .int .i64 1, Value.func (Fn.func 57) #[] #[Value.pointer (some { block := C, off := 0 })], tx (Q.getD i ([], [])).1, tx (Q.getD i ([], [])).2, undef, undef, undef, undef, undef, undef, undef, undef, undef, undef, undef, undef, undef, undef, undef, undef, undef, undef, undef, undef, undef, undef, undef, undef, undef, .int .i64 0, .bool true, .bool true, .int .i64 (i0 : Int), .pointer (some ⟨B, 1, none⟩), .slice p2 N c2, .int .i64 (N : Int), .int .i64 m, .int .i64 mx, .int .i64 (i0 : Int), .bool false, .bool false, .bool false, .int .i64 0, .bool false, .bool false, undef, undef, undef, undef, undef, .bool false, .bool false, .int .i64 0, undef], defers := [] })
                      (fun _ _ _ _ hs _ => hs) ?assign2 ?body2 ?all2 ?fin2
                    case assign2 =>
                      intro l' i Y K hi hI hK
                      gi_wp2
                      exact hK _ _ (KeepsFrom.refl _ _) (fun _ _ => rfl) hI rfl
                    case body2 =>
                      rintro l' i b Y hl' ⟨rc, hr⟩ hi ⟨E4, bT4, bn4, K4⟩ rfl
                      have cn := bn4.cell
                      have fn := bn4.frozen
                      have cT := bT4.cell
                      have cm := E4.m.cell
                      obtain ⟨y0, y1⟩ := two_cells E4.t
                      obtain ⟨g9, o9, he9, hcs9⟩ := (H2.out.below E4.hb).cells (k := i) (by rw [HNN.out]; exact hi)
                      cases he9
                      obtain ⟨hx, hy⟩ := hcs9 i (by rw [HNN.out]; exact hi)
                      obtain ⟨xa, hxa⟩ : ∃ z : ByteArray, tx (Q.getD i ([], [])).1 = .string z := ⟨_, rfl⟩
                      obtain ⟨xc, hxc⟩ : ∃ z : ByteArray, tx (Q.getD i ([], [])).2 = .string z := ⟨_, rfl⟩
                      rw [hxa] at hx ⊢
                      rw [hxc] at hy ⊢
                      have HE4 := Lib.hid E4
                      have HbT4 := Lib.hid bT4
                      have Hbn4 := Lib.hid bn4
                      have HK4 := Lib.hid K4
                      have hba : (xa.toList == xa.toList) = true := beq_self_eq_true _
                      have hbc : (xc.toList == xc.toList) = true := beq_self_eq_true _
                      clear E4 bT4 bn4 K4 hmx hmi hxa hxc hcs9
                      gi_wp2
                      exact ⟨(KeepsOthers.setCell _ _ _).from _, fun b hb => Below.heap_setCell _ _ _ _ (by show b ≠ C2; omega), HE4.out.set (by omega) _, HbT4.out.other (by omega) _, Hbn4.out.set _, (Below.heap_setCell _ _ _ _ (by show D1 ≠ C2; omega)).trans HK4.out⟩
                    case all2 =>
                      rintro Y ⟨e1, e2, e3, e4⟩
                      exact ⟨e1, e2, e3, e4⟩
                    case fin2 =>
                      rintro D2 Y hD2 ⟨E5, bT5, bn5, K5⟩ hK2
                      have cn := bn5.cell
                      have cT := bT5.cell
                      have cm := E5.m.cell
                      obtain ⟨y0, y1⟩ := two_cells E5.t
                      have HE5 := Lib.hid E5
                      have HK5 := Lib.hid K5
                      have HK2D := Lib.hid hK2
                      clear E5 bT5 bn5 K5 hK2 hmx hmi
                      gi_wp2_with fail
                      rw [roundsIn_succ]
                      obtain ⟨Z, hZ⟩ : ∃ Z, Y.alloc (.cells #[.int .i64 2] 3) = Z := ⟨_, rfl⟩
                      obtain ⟨T3, hT3⟩ : ∃ T3, Y.heap.size = T3 := ⟨_, rfl⟩
                      have cZ : Z.cell? ⟨T3, 0, none⟩ = some (.int .i64 2) := by rw [← hZ, ← hT3]; exact (Boxed.new _ _ _).cell
                      have E6 : LB w Z (.slice p1 n1 c1) (.slice p2 N c2) (.slice q1 r1 d1) (.slice q2 r2 d2) m B := by rw [← hZ]; exact HE5.out.alloc _
                      have K6 : Z.heap[D1]? = some (.deferred (some [])) := by rw [← hZ]; exact (Below.heap_alloc _ _ _ (Array.getElem?_eq_some_iff.1 HK5.out).1).trans HK5.out
                      have K7 : Z.heap[D2]? = some (.deferred (some [])) := by rw [← hZ]; exact (Below.heap_alloc _ _ _ (Array.getElem?_eq_some_iff.1 HK2D.out).1).trans HK2D.out
                      rw [hT3, hZ]
                      have HE6 := Lib.hid E6
                      have HK6 := Lib.hid K6
                      have HK7 := Lib.hid K7
                      have WKZ := Lib.hid (WK.out Z (HK.out.below E6.hb))
                      clear hT3 hZ E6 K6 K7 cn cT cm y0 y1
                      gi_wp2_with fail
                      first
                        | refine WKZ.out.mono ?_
                        | refine ⟨trivial, (callsIn_wide.2 WKZ.out).mono ?_⟩
                        | (go_wp2_with fail; refine WKZ.out.mono ?_)
                      rintro e V' ⟨rfl, hbV⟩
                      have bR : Boxed V' (B + 3) 4 (.bool false) := (hbV.block _ HE6.out.r.lt).trans HE6.out.r
                      have K8 : V'.heap[D1]? = some (.deferred (some [])) := (hbV.block _ (Array.getElem?_eq_some_iff.1 HK6.out).1).trans HK6.out
                      have K9 : V'.heap[D2]? = some (.deferred (some [])) := (hbV.block _ (Array.getElem?_eq_some_iff.1 HK7.out).1).trans HK7.out
                      have bV := HE6.out.hb.trans (hbV.mono HE6.out.hb.size)
                      have cR := bR.cell
                      have fR := bR.frozen
                      have HK8 := Lib.hid K8
                      have HK9 := Lib.hid K9
                      have HbR := Lib.hid bR
                      have HbV := Lib.hid bV
                      clear bR K8 K9 bV hbV
                      first | go_wp2_with fail | skip
                      have hBw := HE6.out.hB
                      have d2 : B + 3 < D2 := by omega
                      have d1 : B + 3 < D1 := by omega
                      have d12 : D1 ≠ D2 := by omega
                      have L9 : (V'.setCell ⟨B + 3, 0, none⟩ (.bool true)).heap[D2]? = some (.deferred (some [])) := (Below.heap_setCell _ _ _ _ (by show D2 ≠ B + 3; omega)).trans HK9.out
                      have L8 : ((V'.setCell ⟨B + 3, 0, none⟩ (.bool true)).putObj D2 (.deferred none)).heap[D1]? = some (.deferred (some [])) := (World.putObj_heap_other d12).trans ((Below.heap_setCell _ _ _ _ (by show D1 ≠ B + 3; omega)).trans HK8.out)
                      have L0 : Boxed (((V'.setCell ⟨B + 3, 0, none⟩ (.bool true)).putObj D2 (.deferred none)).putObj D1 (.deferred none)) (B + 3) 4 (.bool true) := (World.putObj_heap_other (by omega)).trans ((World.putObj_heap_other (by omega)).trans (HbR.out.set _))
                      have c0 := L0.cell
                      refine ⟨by simp, .inl ⟨_, _, rfl, run_takeDeferred L9, ?_⟩⟩
                      refine ⟨by simp, .inl ⟨_, _, rfl, run_takeDeferred L8, ?_⟩⟩
                      refine ⟨.bool true, ?_, rfl, ?_⟩
                      · simp [results, Tryz.results5, go_sem, c0]
                      · refine (HbV.out.setCell (p := ⟨B + 3, 0, none⟩) (by show w.heap.size ≤ B + 3; omega) _).trans ((belowK_b (w := w) (Nat.le_refl _) _ D2 _ _ (by omega) L9 rfl rfl).trans (belowK_b (w := w) (Nat.le_refl _) _ D1 _ _ (by omega) L8 rfl rfl))


      · go_wp2_with fail
        refine (WK.out _ (HK.out.below HL3.out.hb)).mono ?_
        rintro e w4 ⟨rfl, hb4⟩
        have HL4 := Lib.hid (HL3.out.next hb4)
        clear hb4 t0 t1 o0 o1 lr fr
        have lr := HL4.out.r.cell
        have fr := HL4.out.r.frozen
        go_wp2_with fail
        have c0 := (HL4.out.r.set (.bool true)).cell
        refine ⟨.bool true, ?_, rfl, HL4.out.hb.setCell (p := ⟨B + 3, 0, none⟩) (by have := HBB.out; show w.heap.size ≤ B + 3; omega) _⟩
        simp [results, Tryz.results5, go_sem, c0]
end Go.Proofs.YtcfhenekoaegaaaGreatDoor
