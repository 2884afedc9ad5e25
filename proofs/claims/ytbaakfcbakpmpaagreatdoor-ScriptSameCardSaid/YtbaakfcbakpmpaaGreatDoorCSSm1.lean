/- Texts of this claim, one behind the other: LSS. -/
import Derived.Test.YtbaakfcbakpmpaaGreatDoorSwm6
import Derived.Test.YtbaakfcbakpmpaaGreatDoorSwm4
/- ScriptSame returns true for any two steps and any two outs: the walk. The tables of the library, and its cell of a bound, read as they are laid. Printed by genLSS.py. -/
namespace Go.Proofs.YtbaakfcbakpmpaaGreatDoor
set_option linter.unusedVariables false
set_option linter.unusedSimpArgs false
open Go.RowKit Go.Shelf
set_option maxHeartbeats 8000000
set_option maxRecDepth 100000
def smF (S : Nat) (a b x y : Sc.St) (kx ky : Int) (pa pb px py : Option Addr) (na ca nb cb nx cx ny cy : Nat) (d e : Bool) : Nat → World → Value → Prop
  | 0, _, v => v = .agg #[.int .i64 a.kind, .int .u64 (a.conn : Int), .int .i64 a.topic, .int .u64 (a.n : Int), .int .u64 (a.draw : Int), .slice pa na ca]
  | 1, _, v => v = .agg #[.int .i64 b.kind, .int .u64 (b.conn : Int), .int .i64 b.topic, .int .u64 (b.n : Int), .int .u64 (b.draw : Int), .slice pb nb cb]
  | 2, _, v => v = .bool d
  | 3, _, v => v = .agg #[.int .i64 a.kind, .int .u64 (a.conn : Int), .int .i64 a.topic, .int .u64 (a.n : Int), .int .u64 (a.draw : Int), .slice pa na ca]
  | 4, _, v => v = .agg #[.int .i64 b.kind, .int .u64 (b.conn : Int), .int .i64 b.topic, .int .u64 (b.n : Int), .int .u64 (b.draw : Int), .slice pb nb cb]
  | 5, _, v => v = .bool d
  | 6, _, v => v = .bool true
  | 7, _, v => v = .bool true
  | 8, _, v => v = .agg #[.int .i64 b.kind, .int .u64 (b.conn : Int), .int .i64 b.topic, .int .u64 (b.n : Int), .int .u64 (b.draw : Int), .slice pb nb cb]
  | 9, _, v => v = .agg #[.int .i64 a.kind, .int .u64 (a.conn : Int), .int .i64 a.topic, .int .u64 (a.n : Int), .int .u64 (a.draw : Int), .slice pa na ca]
  | 10, _, v => v = .bool d
  | 11, _, v => v = .agg #[.int .i64 a.kind, .int .u64 (a.conn : Int), .int .i64 a.topic, .int .u64 (a.n : Int), .int .u64 (a.draw : Int), .slice pa na ca]
  | 12, _, v => v = .agg #[.int .i64 b.kind, .int .u64 (b.conn : Int), .int .i64 b.topic, .int .u64 (b.n : Int), .int .u64 (b.draw : Int), .slice pb nb cb]
  | 13, _, v => v = .bool d
  | 14, _, v => v = .bool true
  | 15, _, v => v = .bool true
  | 16, _, v => v = .bool true
  | 17, _, v => v = .agg #[.int .i64 a.kind, .int .u64 (a.conn : Int), .int .i64 a.topic, .int .u64 (a.n : Int), .int .u64 (a.draw : Int), .slice pa na ca]
  | 18, _, v => v = .agg #[.int .i64 a.kind, .int .u64 (a.conn : Int), .int .i64 a.topic, .int .u64 (a.n : Int), .int .u64 (a.draw : Int), .slice pa na ca]
  | 19, _, v => v = .bool true
  | 20, _, v => v = .bool true
  | 21, _, v => v = .bool true
  | 22, _, v => v = .agg #[.int .i64 kx, .int .u64 (x.conn : Int), .int .i64 x.topic, .slice px nx cx]
  | 23, _, v => v = .agg #[.int .i64 ky, .int .u64 (y.conn : Int), .int .i64 y.topic, .slice py ny cy]
  | 24, _, v => v = .bool e
  | 25, _, v => v = .agg #[.int .i64 kx, .int .u64 (x.conn : Int), .int .i64 x.topic, .slice px nx cx]
  | 26, _, v => v = .agg #[.int .i64 ky, .int .u64 (y.conn : Int), .int .i64 y.topic, .slice py ny cy]
  | 27, _, v => v = .bool e
  | 28, _, v => v = .bool true
  | 29, _, v => v = .bool true
  | 30, _, v => v = .bool true
  | 31, _, v => v = .agg #[.int .i64 ky, .int .u64 (y.conn : Int), .int .i64 y.topic, .slice py ny cy]
  | 32, _, v => v = .agg #[.int .i64 kx, .int .u64 (x.conn : Int), .int .i64 x.topic, .slice px nx cx]
  | 33, _, v => v = .bool e
  | 34, _, v => v = .agg #[.int .i64 kx, .int .u64 (x.conn : Int), .int .i64 x.topic, .slice px nx cx]
  | 35, _, v => v = .agg #[.int .i64 ky, .int .u64 (y.conn : Int), .int .i64 y.topic, .slice py ny cy]
  | 36, _, v => v = .bool e
  | 37, _, v => v = .bool true
  | 38, _, v => v = .bool true
  | 39, _, v => v = .bool true
  | 40, _, v => v = .agg #[.int .i64 kx, .int .u64 (x.conn : Int), .int .i64 x.topic, .slice px nx cx]
  | 41, _, v => v = .agg #[.int .i64 kx, .int .u64 (x.conn : Int), .int .i64 x.topic, .slice px nx cx]
  | 42, _, v => v = .bool true
  | 43, _, v => v = .bool true
  | 44, _, v => v = .bool true
  | 45, _, v => v = .bool true
  | 46, _, v => v = .bool true
  | 47, _, v => v = .bool true
  | _, _, _ => False
theorem dec_swap (a b c d e f : Int) (a' b' c' d' e' f' : Int) (l l' : List UInt8) : decide (a' = a ∧ b' = b ∧ c' = c ∧ d' = d ∧ e' = e ∧ l' = l) = decide (a = a' ∧ b = b' ∧ c = c' ∧ d = d' ∧ e = e' ∧ l = l') := by
  congr 1
  exact propext ⟨fun ⟨h1, h2, h3, h4, h5, h6⟩ => ⟨h1.symm, h2.symm, h3.symm, h4.symm, h5.symm, h6.symm⟩, fun ⟨h1, h2, h3, h4, h5, h6⟩ => ⟨h1.symm, h2.symm, h3.symm, h4.symm, h5.symm, h6.symm⟩⟩
theorem dec_swap4 (a b c : Int) (a' b' c' : Int) (l l' : List UInt8) : decide (a' = a ∧ b' = b ∧ c' = c ∧ l' = l) = decide (a = a' ∧ b = b' ∧ c = c' ∧ l = l') := by
  congr 1
  exact propext ⟨fun ⟨h1, h2, h3, h4⟩ => ⟨h1.symm, h2.symm, h3.symm, h4.symm⟩, fun ⟨h1, h2, h3, h4⟩ => ⟨h1.symm, h2.symm, h3.symm, h4.symm⟩⟩
theorem walkSS (a : Sc.St) (ua : Value) (b : Sc.St) (ub : Value) (kx : Int) (x : Sc.St) (ux : Value) (ky : Int) (y : Sc.St) (uy : Value) (w : World) (ha : BRow w ua a.bytes) (hao : a.ok) (hb : BRow w ub b.bytes) (hbo : b.ok)
    (hx : BRow w ux x.bytes) (hxo : x.ok) (hxz : x.n = 0 ∧ x.draw = 0 ∧ x.kind = 0) (hy : BRow w uy y.bytes) (hyo : y.ok) (hyz : y.n = 0 ∧ y.draw = 0 ∧ y.kind = 0) (hk : KX w) :
    Calls Tryz.prog 5 #[stVal a ua, stVal b ub, otVal kx x ux, otVal ky y uy] w fun e w' => e = .returned (.bool true) ∧ Below w.heap.size w w' := by
  obtain ⟨pa, na, ca, rfl⟩ := ha.sl
  obtain ⟨pb, nb, cb, rfl⟩ := hb.sl
  obtain ⟨px, nx, cx, rfl⟩ := hx.sl
  obtain ⟨py, ny, cy, rfl⟩ := hy.sl
  obtain ⟨S, hS⟩ : ∃ z, w.heap.size = z := ⟨_, rfl⟩
  obtain ⟨w1, hw1⟩ : ∃ z, w.alloc (.cells #[.int .i64 a.kind, .int .u64 (a.conn : Int), .int .i64 a.topic, .int .u64 (a.n : Int), .int .u64 (a.draw : Int), .slice pa na ca] 26) = z := ⟨_, rfl⟩
  obtain ⟨w2, hw2⟩ : ∃ z, w1.alloc (.cells #[.int .i64 b.kind, .int .u64 (b.conn : Int), .int .i64 b.topic, .int .u64 (b.n : Int), .int .u64 (b.draw : Int), .slice pb nb cb] 26) = z := ⟨_, rfl⟩
  obtain ⟨w3, hw3⟩ : ∃ z, w2.alloc (.cells #[.int .i64 kx, .int .u64 (x.conn : Int), .int .i64 x.topic, .slice px nx cx] 29) = z := ⟨_, rfl⟩
  obtain ⟨w4, hw4⟩ : ∃ z, w3.alloc (.cells #[.int .i64 ky, .int .u64 (y.conn : Int), .int .i64 y.topic, .slice py ny cy] 29) = z := ⟨_, rfl⟩
  have s1 : w1.heap.size = S + 1 := by rw [← hw1, ← hS]; simp
  have s2 : w2.heap.size = S + 2 := by rw [← hw2]; simp [s1]
  have s3 : w3.heap.size = S + 3 := by rw [← hw3]; simp [s2]
  have b1 : Below w.heap.size w w1 := by rw [← hw1]; exact (Below.refl _ _).alloc (Nat.le_refl _) _
  have b2 : Below w1.heap.size w1 w2 := by rw [← hw2]; exact (Below.refl _ _).alloc (Nat.le_refl _) _
  have b3 : Below w2.heap.size w2 w3 := by rw [← hw3]; exact (Below.refl _ _).alloc (Nat.le_refl _) _
  have b4 : Below w3.heap.size w3 w4 := by rw [← hw4]; exact (Below.refl _ _).alloc (Nat.le_refl _) _
  have r0 : w1.heap[S]? = some (stObj a (.slice pa na ca)) := by rw [← hw1, ← hS]; exact World.alloc_heap_new _ _
  have r1 : w2.heap[S + 1]? = some (stObj b (.slice pb nb cb)) := by rw [← hw2, ← s1]; exact World.alloc_heap_new _ _
  have r2 : w3.heap[S + 2]? = some (otObj kx x (.slice px nx cx)) := by rw [← hw3, ← s2]; exact World.alloc_heap_new _ _
  have r3 : w4.heap[S + 3]? = some (otObj ky y (.slice py ny cy)) := by rw [← hw4, ← s3]; exact World.alloc_heap_new _ _
  have hb24 := b3.trans (b4.mono b3.size)
  have hb14 := b2.trans (hb24.mono b2.size)
  have hb04 := b1.trans (hb14.mono b1.size)
  have q0 := (hb14.block _ (Array.getElem?_eq_some_iff.1 r0).1).trans r0
  have q1 := (hb24.block _ (Array.getElem?_eq_some_iff.1 r1).1).trans r1
  have q2 := (b4.block _ (Array.getElem?_eq_some_iff.1 r2).1).trans r2
  obtain ⟨x0, x1, x2, x3, x4, x5, _⟩ := SR.of q0
  obtain ⟨y0, y1, y2, y3, y4, y5, _⟩ := SR.of q1
  obtain ⟨z0, z1, z2, z3, _⟩ := OR.of q2
  obtain ⟨t0, t1, t2, t3, _⟩ := OR.of r3
  have HC0 := Lib.hid (show ∀ W, Below w4.heap.size w4 W → SR W S a (.slice pa na ca) from fun W h => SR.of ((h.block _ (Array.getElem?_eq_some_iff.1 q0).1).trans q0))
  have HC1 := Lib.hid (show ∀ W, Below w4.heap.size w4 W → SR W (S + 1) b (.slice pb nb cb) from fun W h => SR.of ((h.block _ (Array.getElem?_eq_some_iff.1 q1).1).trans q1))
  have HC2 := Lib.hid (show ∀ W, Below w4.heap.size w4 W → OR W (S + 2) kx x (.slice px nx cx) from fun W h => OR.of ((h.block _ (Array.getElem?_eq_some_iff.1 q2).1).trans q2))
  have HC3 := Lib.hid (show ∀ W, Below w4.heap.size w4 W → OR W (S + 3) ky y (.slice py ny cy) from fun W h => OR.of ((h.block _ (Array.getElem?_eq_some_iff.1 r3).1).trans r3))
  have ua := ha.below hb04
  have ub := hb.below hb04
  have ux := hx.below hb04
  have uy := hy.below hb04
  obtain ⟨d, hd⟩ : ∃ z, decide (a.kind = b.kind ∧ (a.conn : Int) = (b.conn : Int) ∧ a.topic = b.topic ∧ (a.n : Int) = (b.n : Int) ∧ (a.draw : Int) = (b.draw : Int) ∧ a.bytes = b.bytes) = z := ⟨_, rfl⟩
  obtain ⟨e, he⟩ : ∃ z, decide (kx = ky ∧ (x.conn : Int) = (y.conn : Int) ∧ x.topic = y.topic ∧ x.bytes = y.bytes) = z := ⟨_, rfl⟩
  have K23AB := Lib.hid (fun (W : World) (h : Below w4.heap.size w4 W) => hd ▸ sc_Same a.kind (a.conn : Int) a.topic (a.n : Int) (a.draw : Int) b.kind (b.conn : Int) b.topic (b.n : Int) (b.draw : Int) _ _ a.bytes b.bytes W (ua.below h) (ub.below h))
  have K21AB := Lib.hid (fun (W : World) (h : Below w4.heap.size w4 W) => hd ▸ rf_SameStep a.kind (a.conn : Int) a.topic (a.n : Int) (a.draw : Int) b.kind (b.conn : Int) b.topic (b.n : Int) (b.draw : Int) _ _ a.bytes b.bytes W (ua.below h) (ub.below h))
  have K23BA := Lib.hid (fun (W : World) (h : Below w4.heap.size w4 W) => ((dec_swap _ _ _ _ _ 0 _ _ _ _ _ 0 _ _).trans hd) ▸ sc_Same b.kind (b.conn : Int) b.topic (b.n : Int) (b.draw : Int) a.kind (a.conn : Int) a.topic (a.n : Int) (a.draw : Int) _ _ b.bytes a.bytes W (ub.below h) (ua.below h))
  have K23AA := Lib.hid (fun (W : World) (h : Below w4.heap.size w4 W) => (decide_eq_true (And.intro rfl (And.intro rfl (And.intro rfl (And.intro rfl (And.intro rfl rfl))))) : decide (a.kind = a.kind ∧ (a.conn : Int) = (a.conn : Int) ∧ a.topic = a.topic ∧ (a.n : Int) = (a.n : Int) ∧ (a.draw : Int) = (a.draw : Int) ∧ a.bytes = a.bytes) = true) ▸ sc_Same a.kind (a.conn : Int) a.topic (a.n : Int) (a.draw : Int) a.kind (a.conn : Int) a.topic (a.n : Int) (a.draw : Int) _ _ a.bytes a.bytes W (ua.below h) (ua.below h))
  have K24XY := Lib.hid (fun (W : World) (h : Below w4.heap.size w4 W) => he ▸ sc_SameOut kx (x.conn : Int) x.topic ky (y.conn : Int) y.topic _ _ x.bytes y.bytes W (ux.below h) (uy.below h))
  have K22XY := Lib.hid (fun (W : World) (h : Below w4.heap.size w4 W) => he ▸ rf_SameOut kx (x.conn : Int) x.topic ky (y.conn : Int) y.topic _ _ x.bytes y.bytes W (ux.below h) (uy.below h))
  have K24YX := Lib.hid (fun (W : World) (h : Below w4.heap.size w4 W) => ((dec_swap4 _ _ _ _ _ _ _ _).trans he) ▸ sc_SameOut ky (y.conn : Int) y.topic kx (x.conn : Int) x.topic _ _ y.bytes x.bytes W (uy.below h) (ux.below h))
  have K24XX := Lib.hid (fun (W : World) (h : Below w4.heap.size w4 W) => (decide_eq_true (And.intro rfl (And.intro rfl (And.intro rfl rfl))) : decide (kx = kx ∧ (x.conn : Int) = (x.conn : Int) ∧ x.topic = x.topic ∧ x.bytes = x.bytes) = true) ▸ sc_SameOut kx (x.conn : Int) x.topic kx (x.conn : Int) x.topic _ _ x.bytes x.bytes W (ux.below h) (ux.below h))
  have HB := Lib.hid hb04
  have HK := Lib.hid (hk.below hb04)
  have HSS := Lib.hid hS
  have W1 := Lib.hid hw1
  have W2 := Lib.hid hw2
  have W3 := Lib.hid hw3
  have W4 := Lib.hid hw4
  clear r0 r1 r2 r3 q0 q1 q2 s1 s2 s3 b1 b2 b3 b4 hb24 hb14 hb04 ua ub ux uy hd he ha hao hb hbo hx hxo hxz hy hyo hyz hk hS hw1 hw2 hw3 hw4
  unfold stVal otVal
  go_enter Tryz.func5, Tryz.ntmps5
  go_upto_region 1 with (fail)
  rw [HSS.out, W1.out, W2.out, W3.out, W4.out]
  by_cases g1 : 200 < na
  · have v1 : ((200 : Int) < (na : Int)) := by omega
    go_wp2_with fail
    refine (sc_works w4 HK.out.tabs HK.out.ml).mono ?_
    rintro e wz ⟨rfl, hb⟩
    have HB := Lib.hid (HB.out.trans (hb.mono HB.out.size))
    clear hb
    go_wp2_with fail
    go_ret
    exact ⟨rfl, HB.out⟩
  have v1 : ¬ ((200 : Int) < (na : Int)) := by omega
  by_cases g2 : 200 < nb
  · have v2 : ((200 : Int) < (nb : Int)) := by omega
    go_wp2_with fail
    refine (sc_works w4 HK.out.tabs HK.out.ml).mono ?_
    rintro e wz ⟨rfl, hb⟩
    have HB := Lib.hid (HB.out.trans (hb.mono HB.out.size))
    clear hb
    go_wp2_with fail
    go_ret
    exact ⟨rfl, HB.out⟩
  have v2 : ¬ ((200 : Int) < (nb : Int)) := by omega
  by_cases g3 : 200 < nx
  · have v3 : ((200 : Int) < (nx : Int)) := by omega
    go_wp2_with fail
    refine (sc_works w4 HK.out.tabs HK.out.ml).mono ?_
    rintro e wz ⟨rfl, hb⟩
    have HB := Lib.hid (HB.out.trans (hb.mono HB.out.size))
    clear hb
    go_wp2_with fail
    go_ret
    exact ⟨rfl, HB.out⟩
  have v3 : ¬ ((200 : Int) < (nx : Int)) := by omega
  by_cases g4 : 200 < ny
  · have v4 : ((200 : Int) < (ny : Int)) := by omega
    go_wp2_with fail
    refine (sc_works w4 HK.out.tabs HK.out.ml).mono ?_
    rintro e wz ⟨rfl, hb⟩
    have HB := Lib.hid (HB.out.trans (hb.mono HB.out.size))
    clear hb
    go_wp2_with fail
    go_ret
    exact ⟨rfl, HB.out⟩
  have v4 : ¬ ((200 : Int) < (ny : Int)) := by omega
  go_upto_region 3 with (fail)
  refine region_slotsG (fun i => (if i = 47 then 8 else 32 + min i 46)) (smF S a b x y kx ky pa pb px py na ca nb cb nx cx ny cy d e) (fun _ => true) (by kernel_rfl) (by kernel_rfl) (fun i => by show (if i = 47 then 8 else 32 + min i 46) < _; simp; split <;> omega) (fun i j hi hj h => by have hi : i < 48 := hi; have hj : j < 48 := hj; have h : (if i = 47 then 8 else 32 + min i 46) = (if j = 47 then 8 else 32 + min j 46) := h; split at h <;> split at h <;> omega) ?mono ?dst ?gu ?ng ?skip ?step ?done
  case mono =>
    intro i W W' v h hbw
    match i, h with
    | 0, h | 1, h | 2, h | 3, h | 4, h | 5, h | 6, h | 7, h | 8, h | 9, h | 10, h | 11, h | 12, h | 13, h | 14, h | 15, h | 16, h | 17, h | 18, h | 19, h | 20, h | 21, h | 22, h | 23, h | 24, h | 25, h | 26, h | 27, h | 28, h | 29, h | 30, h | 31, h | 32, h | 33, h | 34, h | 35, h | 36, h | 37, h | 38, h | 39, h | 40, h | 41, h | 42, h | 43, h | 44, h | 45, h | 46, h | 47, h => exact h
    | n + 48, h => exact h.elim
  case dst =>
    intro i o ho
    match i, ho with
    | 0, ho | 1, ho | 2, ho | 3, ho | 4, ho | 5, ho | 6, ho | 7, ho | 8, ho | 9, ho | 10, ho | 11, ho | 12, ho | 13, ho | 14, ho | 15, ho | 16, ho | 17, ho | 18, ho | 19, ho | 20, ho | 21, ho | 22, ho | 23, ho | 24, ho | 25, ho | 26, ho | 27, ho | 28, ho | 29, ho | 30, ho | 31, ho | 32, ho | 33, ho | 34, ho | 35, ho | 36, ho | 37, ho | 38, ho | 39, ho | 40, ho | 41, ho | 42, ho | 43, ho | 44, ho | 45, ho | 46, ho | 47, ho => cases ho; rfl
    | n + 48, ho => exact absurd ho (by simp)
  case gu =>
    intro i o g b ho hgd W v hv
    match i, ho with
    | 0, ho => cases ho; cases hgd
    | 1, ho => cases ho; cases hgd
    | 2, ho => cases ho; cases hgd
    | 3, ho => cases ho; cases hgd
    | 4, ho => cases ho; cases hgd
    | 5, ho => cases ho; cases hgd
    | 6, ho => cases ho; cases hgd
    | 7, ho => cases ho; cases hgd
    | 8, ho => cases ho; cases hgd; exact hv
    | 9, ho => cases ho; cases hgd; exact hv
    | 10, ho => cases ho; cases hgd; exact hv
    | 11, ho => cases ho; cases hgd; exact hv
    | 12, ho => cases ho; cases hgd; exact hv
    | 13, ho => cases ho; cases hgd; exact hv
    | 14, ho => cases ho; cases hgd; exact hv
    | 15, ho => cases ho; cases hgd
    | 16, ho => cases ho; cases hgd
    | 17, ho => cases ho; cases hgd; exact hv
    | 18, ho => cases ho; cases hgd; exact hv
    | 19, ho => cases ho; cases hgd; exact hv
    | 20, ho => cases ho; cases hgd
    | 21, ho => cases ho; cases hgd
    | 22, ho => cases ho; cases hgd; exact hv
    | 23, ho => cases ho; cases hgd; exact hv
    | 24, ho => cases ho; cases hgd; exact hv
    | 25, ho => cases ho; cases hgd; exact hv
    | 26, ho => cases ho; cases hgd; exact hv
    | 27, ho => cases ho; cases hgd; exact hv
    | 28, ho => cases ho; cases hgd; exact hv
    | 29, ho => cases ho; cases hgd
    | 30, ho => cases ho; cases hgd
    | 31, ho => cases ho; cases hgd; exact hv
    | 32, ho => cases ho; cases hgd; exact hv
    | 33, ho => cases ho; cases hgd; exact hv
    | 34, ho => cases ho; cases hgd; exact hv
    | 35, ho => cases ho; cases hgd; exact hv
    | 36, ho => cases ho; cases hgd; exact hv
    | 37, ho => cases ho; cases hgd; exact hv
    | 38, ho => cases ho; cases hgd
    | 39, ho => cases ho; cases hgd
    | 40, ho => cases ho; cases hgd; exact hv
    | 41, ho => cases ho; cases hgd; exact hv
    | 42, ho => cases ho; cases hgd; exact hv
    | 43, ho => cases ho; cases hgd
    | 44, ho => cases ho; cases hgd
    | 45, ho => cases ho; cases hgd; exact hv
    | 46, ho => cases ho; cases hgd
    | 47, ho => cases ho; cases hgd
    | n + 48, ho => exact absurd ho (by simp)
  case ng =>
    intro i o ho hgd
    match i, ho with
    | 0, ho => cases ho; first | rfl | cases hgd
    | 1, ho => cases ho; first | rfl | cases hgd
    | 2, ho => cases ho; first | rfl | cases hgd
    | 3, ho => cases ho; first | rfl | cases hgd
    | 4, ho => cases ho; first | rfl | cases hgd
    | 5, ho => cases ho; first | rfl | cases hgd
    | 6, ho => cases ho; first | rfl | cases hgd
    | 7, ho => cases ho; first | rfl | cases hgd
    | 8, ho => cases ho; first | rfl | cases hgd
    | 9, ho => cases ho; first | rfl | cases hgd
    | 10, ho => cases ho; first | rfl | cases hgd
    | 11, ho => cases ho; first | rfl | cases hgd
    | 12, ho => cases ho; first | rfl | cases hgd
    | 13, ho => cases ho; first | rfl | cases hgd
    | 14, ho => cases ho; first | rfl | cases hgd
    | 15, ho => cases ho; first | rfl | cases hgd
    | 16, ho => cases ho; first | rfl | cases hgd
    | 17, ho => cases ho; first | rfl | cases hgd
    | 18, ho => cases ho; first | rfl | cases hgd
    | 19, ho => cases ho; first | rfl | cases hgd
    | 20, ho => cases ho; first | rfl | cases hgd
    | 21, ho => cases ho; first | rfl | cases hgd
    | 22, ho => cases ho; first | rfl | cases hgd
    | 23, ho => cases ho; first | rfl | cases hgd
    | 24, ho => cases ho; first | rfl | cases hgd
    | 25, ho => cases ho; first | rfl | cases hgd
    | 26, ho => cases ho; first | rfl | cases hgd
    | 27, ho => cases ho; first | rfl | cases hgd
    | 28, ho => cases ho; first | rfl | cases hgd
    | 29, ho => cases ho; first | rfl | cases hgd
    | 30, ho => cases ho; first | rfl | cases hgd
    | 31, ho => cases ho; first | rfl | cases hgd
    | 32, ho => cases ho; first | rfl | cases hgd
    | 33, ho => cases ho; first | rfl | cases hgd
    | 34, ho => cases ho; first | rfl | cases hgd
    | 35, ho => cases ho; first | rfl | cases hgd
    | 36, ho => cases ho; first | rfl | cases hgd
    | 37, ho => cases ho; first | rfl | cases hgd
    | 38, ho => cases ho; first | rfl | cases hgd
    | 39, ho => cases ho; first | rfl | cases hgd
    | 40, ho => cases ho; first | rfl | cases hgd
    | 41, ho => cases ho; first | rfl | cases hgd
    | 42, ho => cases ho; first | rfl | cases hgd
    | 43, ho => cases ho; first | rfl | cases hgd
    | 44, ho => cases ho; first | rfl | cases hgd
    | 45, ho => cases ho; first | rfl | cases hgd
    | 46, ho => cases ho; first | rfl | cases hgd
    | 47, ho => cases ho; first | rfl | cases hgd
    | n + 48, ho => exact absurd ho (by simp)
  case skip =>
    intro i W hi hsel
    match i, hi, hsel with
    | 0, _, hsel => first | exact absurd hsel (by decide) | rfl
    | 1, _, hsel => first | exact absurd hsel (by decide) | rfl
    | 2, _, hsel => first | exact absurd hsel (by decide) | rfl
    | 3, _, hsel => first | exact absurd hsel (by decide) | rfl
    | 4, _, hsel => first | exact absurd hsel (by decide) | rfl
    | 5, _, hsel => first | exact absurd hsel (by decide) | rfl
    | 6, _, hsel => first | exact absurd hsel (by decide) | rfl
    | 7, _, hsel => first | exact absurd hsel (by decide) | rfl
    | 8, _, hsel => first | exact absurd hsel (by decide) | rfl
    | 9, _, hsel => first | exact absurd hsel (by decide) | rfl
    | 10, _, hsel => first | exact absurd hsel (by decide) | rfl
    | 11, _, hsel => first | exact absurd hsel (by decide) | rfl
    | 12, _, hsel => first | exact absurd hsel (by decide) | rfl
    | 13, _, hsel => first | exact absurd hsel (by decide) | rfl
    | 14, _, hsel => first | exact absurd hsel (by decide) | rfl
    | 15, _, hsel => first | exact absurd hsel (by decide) | rfl
    | 16, _, hsel => first | exact absurd hsel (by decide) | rfl
    | 17, _, hsel => first | exact absurd hsel (by decide) | rfl
    | 18, _, hsel => first | exact absurd hsel (by decide) | rfl
    | 19, _, hsel => first | exact absurd hsel (by decide) | rfl
    | 20, _, hsel => first | exact absurd hsel (by decide) | rfl
    | 21, _, hsel => first | exact absurd hsel (by decide) | rfl
    | 22, _, hsel => first | exact absurd hsel (by decide) | rfl
    | 23, _, hsel => first | exact absurd hsel (by decide) | rfl
    | 24, _, hsel => first | exact absurd hsel (by decide) | rfl
    | 25, _, hsel => first | exact absurd hsel (by decide) | rfl
    | 26, _, hsel => first | exact absurd hsel (by decide) | rfl
    | 27, _, hsel => first | exact absurd hsel (by decide) | rfl
    | 28, _, hsel => first | exact absurd hsel (by decide) | rfl
    | 29, _, hsel => first | exact absurd hsel (by decide) | rfl
    | 30, _, hsel => first | exact absurd hsel (by decide) | rfl
    | 31, _, hsel => first | exact absurd hsel (by decide) | rfl
    | 32, _, hsel => first | exact absurd hsel (by decide) | rfl
    | 33, _, hsel => first | exact absurd hsel (by decide) | rfl
    | 34, _, hsel => first | exact absurd hsel (by decide) | rfl
    | 35, _, hsel => first | exact absurd hsel (by decide) | rfl
    | 36, _, hsel => first | exact absurd hsel (by decide) | rfl
    | 37, _, hsel => first | exact absurd hsel (by decide) | rfl
    | 38, _, hsel => first | exact absurd hsel (by decide) | rfl
    | 39, _, hsel => first | exact absurd hsel (by decide) | rfl
    | 40, _, hsel => first | exact absurd hsel (by decide) | rfl
    | 41, _, hsel => first | exact absurd hsel (by decide) | rfl
    | 42, _, hsel => first | exact absurd hsel (by decide) | rfl
    | 43, _, hsel => first | exact absurd hsel (by decide) | rfl
    | 44, _, hsel => first | exact absurd hsel (by decide) | rfl
    | 45, _, hsel => first | exact absurd hsel (by decide) | rfl
    | 46, _, hsel => first | exact absurd hsel (by decide) | rfl
    | 47, _, hsel => first | exact absurd hsel (by decide) | rfl
    | n + 48, hi, _ => exact absurd hi (by simp)
  case step =>
    intro f a' W i o ho hsel hpre hbel hrest
    match i, ho, hsel with
    | 0, ho, _ =>
      cases ho
      have q4 : a'.tmps.getD 4 undef = .pointer (some ⟨S, 0, none⟩) := (hrest 4 (by intro i hi; have hi : i < 48 := hi; show (if i = 47 then 8 else 32 + min i 46) ≠ _; split <;> omega))
      have ce := HC0.out W hbel
      obtain ⟨y0, y1, y2, y3, y4, y5, _⟩ := ce
      have e4 := rg_ev q4
      exact rg_same (.agg #[.int .i64 a.kind, .int .u64 (a.conn : Int), .int .i64 a.topic, .int .u64 (a.n : Int), .int .u64 (a.draw : Int), .slice pa na ca]) (by unfold Oper.wp execOp; go_simp; all_goals ((try simp only [e4]); (try go_simp); (try rw [if_pos (by omega)]); (try rw [if_neg (by omega)]); first | done | rfl | exact ⟨rfl, rfl⟩ | trivial)) rfl
    | 1, ho, _ =>
      cases ho
      have q5 : a'.tmps.getD 5 undef = .pointer (some ⟨S + 1, 0, none⟩) := (hrest 5 (by intro i hi; have hi : i < 48 := hi; show (if i = 47 then 8 else 32 + min i 46) ≠ _; split <;> omega))
      have ce := HC1.out W hbel
      obtain ⟨y0, y1, y2, y3, y4, y5, _⟩ := ce
      have e5 := rg_ev q5
      exact rg_same (.agg #[.int .i64 b.kind, .int .u64 (b.conn : Int), .int .i64 b.topic, .int .u64 (b.n : Int), .int .u64 (b.draw : Int), .slice pb nb cb]) (by unfold Oper.wp execOp; go_simp; all_goals ((try simp only [e5]); (try go_simp); (try rw [if_pos (by omega)]); (try rw [if_neg (by omega)]); first | done | rfl | exact ⟨rfl, rfl⟩ | trivial)) rfl
    | 2, ho, _ =>
      cases ho
      have q32 : a'.tmps.getD 32 undef = .agg #[.int .i64 a.kind, .int .u64 (a.conn : Int), .int .i64 a.topic, .int .u64 (a.n : Int), .int .u64 (a.draw : Int), .slice pa na ca] := (hpre { on := 0, ground := .data } (by simp) rfl)
      have q33 : a'.tmps.getD 33 undef = .agg #[.int .i64 b.kind, .int .u64 (b.conn : Int), .int .i64 b.topic, .int .u64 (b.n : Int), .int .u64 (b.draw : Int), .slice pb nb cb] := (hpre { on := 1, ground := .data } (by simp) rfl)
      exact rg_call2 32 33 23 _ _ _ _ rfl q32 q33 (enters_of Tryz.func23 (by kernel_rfl) rfl) (K23AB.out W hbel) (fun e w' h => ⟨_, h.1, _, rfl, rfl, h.2⟩)
    | 3, ho, _ =>
      cases ho
      have q4 : a'.tmps.getD 4 undef = .pointer (some ⟨S, 0, none⟩) := (hrest 4 (by intro i hi; have hi : i < 48 := hi; show (if i = 47 then 8 else 32 + min i 46) ≠ _; split <;> omega))
      have ce := HC0.out W hbel
      obtain ⟨y0, y1, y2, y3, y4, y5, _⟩ := ce
      have e4 := rg_ev q4
      exact rg_same (.agg #[.int .i64 a.kind, .int .u64 (a.conn : Int), .int .i64 a.topic, .int .u64 (a.n : Int), .int .u64 (a.draw : Int), .slice pa na ca]) (by unfold Oper.wp execOp; go_simp; all_goals ((try simp only [e4]); (try go_simp); (try rw [if_pos (by omega)]); (try rw [if_neg (by omega)]); first | done | rfl | exact ⟨rfl, rfl⟩ | trivial)) rfl
    | 4, ho, _ =>
      cases ho
      have q5 : a'.tmps.getD 5 undef = .pointer (some ⟨S + 1, 0, none⟩) := (hrest 5 (by intro i hi; have hi : i < 48 := hi; show (if i = 47 then 8 else 32 + min i 46) ≠ _; split <;> omega))
      have ce := HC1.out W hbel
      obtain ⟨y0, y1, y2, y3, y4, y5, _⟩ := ce
      have e5 := rg_ev q5
      exact rg_same (.agg #[.int .i64 b.kind, .int .u64 (b.conn : Int), .int .i64 b.topic, .int .u64 (b.n : Int), .int .u64 (b.draw : Int), .slice pb nb cb]) (by unfold Oper.wp execOp; go_simp; all_goals ((try simp only [e5]); (try go_simp); (try rw [if_pos (by omega)]); (try rw [if_neg (by omega)]); first | done | rfl | exact ⟨rfl, rfl⟩ | trivial)) rfl
    | 5, ho, _ =>
      cases ho
      have q35 : a'.tmps.getD 35 undef = .agg #[.int .i64 a.kind, .int .u64 (a.conn : Int), .int .i64 a.topic, .int .u64 (a.n : Int), .int .u64 (a.draw : Int), .slice pa na ca] := (hpre { on := 3, ground := .data } (by simp) rfl)
      have q36 : a'.tmps.getD 36 undef = .agg #[.int .i64 b.kind, .int .u64 (b.conn : Int), .int .i64 b.topic, .int .u64 (b.n : Int), .int .u64 (b.draw : Int), .slice pb nb cb] := (hpre { on := 4, ground := .data } (by simp) rfl)
      exact rg_call2 35 36 21 _ _ _ _ rfl q35 q36 (enters_of Tryz.func21 (by kernel_rfl) rfl) (K21AB.out W hbel) (fun e w' h => ⟨_, h.1, _, rfl, rfl, h.2⟩)
    | 6, ho, _ =>
      cases ho
      have q34 : a'.tmps.getD 34 undef = .bool d := (hpre { on := 2, ground := .data } (by simp) rfl)
      have q37 : a'.tmps.getD 37 undef = .bool d := (hpre { on := 5, ground := .data } (by simp) rfl)
      have hd : (d == d) = true := beq_self_eq_true _
      have e34 := rg_ev q34
      have e37 := rg_ev q37
      exact rg_same (.bool true) (by unfold Oper.wp execOp; go_simp; all_goals ((try simp only [e34, e37]); (try go_simp); (try rw [if_pos (by omega)]); (try rw [if_neg (by omega)]); first | done | rfl | exact ⟨rfl, rfl⟩ | trivial)) rfl
    | 7, ho, _ =>
      cases ho
      have q38 : a'.tmps.getD 38 undef = .bool true := (hpre { on := 6, ground := .data } (by simp) rfl)
      have e38 := rg_ev q38
      exact rg_same (.bool true) (by unfold Oper.wp execOp; go_simp; all_goals ((try simp only [e38]); (try go_simp); (try rw [if_pos (by omega)]); (try rw [if_neg (by omega)]); first | done | rfl | exact ⟨rfl, rfl⟩ | trivial)) rfl
    | 8, ho, _ =>
      cases ho
      have q5 : a'.tmps.getD 5 undef = .pointer (some ⟨S + 1, 0, none⟩) := (hrest 5 (by intro i hi; have hi : i < 48 := hi; show (if i = 47 then 8 else 32 + min i 46) ≠ _; split <;> omega))
      have ce := HC1.out W hbel
      obtain ⟨y0, y1, y2, y3, y4, y5, _⟩ := ce
      have e5 := rg_ev q5
      exact rg_same (.agg #[.int .i64 b.kind, .int .u64 (b.conn : Int), .int .i64 b.topic, .int .u64 (b.n : Int), .int .u64 (b.draw : Int), .slice pb nb cb]) (by unfold Oper.wp execOp; go_simp; all_goals ((try simp only [e5]); (try go_simp); (try rw [if_pos (by omega)]); (try rw [if_neg (by omega)]); first | done | rfl | exact ⟨rfl, rfl⟩ | trivial)) rfl
    | 9, ho, _ =>
      cases ho
      have q4 : a'.tmps.getD 4 undef = .pointer (some ⟨S, 0, none⟩) := (hrest 4 (by intro i hi; have hi : i < 48 := hi; show (if i = 47 then 8 else 32 + min i 46) ≠ _; split <;> omega))
      have ce := HC0.out W hbel
      obtain ⟨y0, y1, y2, y3, y4, y5, _⟩ := ce
      have e4 := rg_ev q4
      exact rg_same (.agg #[.int .i64 a.kind, .int .u64 (a.conn : Int), .int .i64 a.topic, .int .u64 (a.n : Int), .int .u64 (a.draw : Int), .slice pa na ca]) (by unfold Oper.wp execOp; go_simp; all_goals ((try simp only [e4]); (try go_simp); (try rw [if_pos (by omega)]); (try rw [if_neg (by omega)]); first | done | rfl | exact ⟨rfl, rfl⟩ | trivial)) rfl
    | 10, ho, _ =>
      cases ho
      have q40 : a'.tmps.getD 40 undef = .agg #[.int .i64 b.kind, .int .u64 (b.conn : Int), .int .i64 b.topic, .int .u64 (b.n : Int), .int .u64 (b.draw : Int), .slice pb nb cb] := (hpre { on := 8, ground := .data } (by simp) rfl)
      have q41 : a'.tmps.getD 41 undef = .agg #[.int .i64 a.kind, .int .u64 (a.conn : Int), .int .i64 a.topic, .int .u64 (a.n : Int), .int .u64 (a.draw : Int), .slice pa na ca] := (hpre { on := 9, ground := .data } (by simp) rfl)
      exact rg_call2 40 41 23 _ _ _ _ rfl q40 q41 (enters_of Tryz.func23 (by kernel_rfl) rfl) (K23BA.out W hbel) (fun e w' h => ⟨_, h.1, _, rfl, rfl, h.2⟩)
    | 11, ho, _ =>
      cases ho
      have q4 : a'.tmps.getD 4 undef = .pointer (some ⟨S, 0, none⟩) := (hrest 4 (by intro i hi; have hi : i < 48 := hi; show (if i = 47 then 8 else 32 + min i 46) ≠ _; split <;> omega))
      have ce := HC0.out W hbel
      obtain ⟨y0, y1, y2, y3, y4, y5, _⟩ := ce
      have e4 := rg_ev q4
      exact rg_same (.agg #[.int .i64 a.kind, .int .u64 (a.conn : Int), .int .i64 a.topic, .int .u64 (a.n : Int), .int .u64 (a.draw : Int), .slice pa na ca]) (by unfold Oper.wp execOp; go_simp; all_goals ((try simp only [e4]); (try go_simp); (try rw [if_pos (by omega)]); (try rw [if_neg (by omega)]); first | done | rfl | exact ⟨rfl, rfl⟩ | trivial)) rfl
    | 12, ho, _ =>
      cases ho
      have q5 : a'.tmps.getD 5 undef = .pointer (some ⟨S + 1, 0, none⟩) := (hrest 5 (by intro i hi; have hi : i < 48 := hi; show (if i = 47 then 8 else 32 + min i 46) ≠ _; split <;> omega))
      have ce := HC1.out W hbel
      obtain ⟨y0, y1, y2, y3, y4, y5, _⟩ := ce
      have e5 := rg_ev q5
      exact rg_same (.agg #[.int .i64 b.kind, .int .u64 (b.conn : Int), .int .i64 b.topic, .int .u64 (b.n : Int), .int .u64 (b.draw : Int), .slice pb nb cb]) (by unfold Oper.wp execOp; go_simp; all_goals ((try simp only [e5]); (try go_simp); (try rw [if_pos (by omega)]); (try rw [if_neg (by omega)]); first | done | rfl | exact ⟨rfl, rfl⟩ | trivial)) rfl
    | 13, ho, _ =>
      cases ho
      have q43 : a'.tmps.getD 43 undef = .agg #[.int .i64 a.kind, .int .u64 (a.conn : Int), .int .i64 a.topic, .int .u64 (a.n : Int), .int .u64 (a.draw : Int), .slice pa na ca] := (hpre { on := 11, ground := .data } (by simp) rfl)
      have q44 : a'.tmps.getD 44 undef = .agg #[.int .i64 b.kind, .int .u64 (b.conn : Int), .int .i64 b.topic, .int .u64 (b.n : Int), .int .u64 (b.draw : Int), .slice pb nb cb] := (hpre { on := 12, ground := .data } (by simp) rfl)
      exact rg_call2 43 44 21 _ _ _ _ rfl q43 q44 (enters_of Tryz.func21 (by kernel_rfl) rfl) (K21AB.out W hbel) (fun e w' h => ⟨_, h.1, _, rfl, rfl, h.2⟩)
    | 14, ho, _ =>
      cases ho
      have q42 : a'.tmps.getD 42 undef = .bool d := (hpre { on := 10, ground := .data } (by simp) rfl)
      have q45 : a'.tmps.getD 45 undef = .bool d := (hpre { on := 13, ground := .data } (by simp) rfl)
      have hd : (d == d) = true := beq_self_eq_true _
      have e42 := rg_ev q42
      have e45 := rg_ev q45
      exact rg_same (.bool true) (by unfold Oper.wp execOp; go_simp; all_goals ((try simp only [e42, e45]); (try go_simp); (try rw [if_pos (by omega)]); (try rw [if_neg (by omega)]); first | done | rfl | exact ⟨rfl, rfl⟩ | trivial)) rfl
    | 15, ho, _ =>
      cases ho
      have q39 : a'.tmps.getD 39 undef = .bool true := (hpre { on := 7, ground := .data } (by simp) rfl)
      have q46 : a'.tmps.getD 46 undef = .bool true := (hpre { on := 14, ground := .data } (by simp) rfl)
      have e39 := rg_ev q39
      have e46 := rg_ev q46
      exact rg_same (.bool true) (by unfold Oper.wp execOp; go_simp; all_goals ((try simp only [e39, e46]); (try go_simp); (try rw [if_pos (by omega)]); (try rw [if_neg (by omega)]); first | done | rfl | exact ⟨rfl, rfl⟩ | trivial)) rfl
    | 16, ho, _ =>
      cases ho
      have q47 : a'.tmps.getD 47 undef = .bool true := (hpre { on := 15, ground := .data } (by simp) rfl)
      have e47 := rg_ev q47
      exact rg_same (.bool true) (by unfold Oper.wp execOp; go_simp; all_goals ((try simp only [e47]); (try go_simp); (try rw [if_pos (by omega)]); (try rw [if_neg (by omega)]); first | done | rfl | exact ⟨rfl, rfl⟩ | trivial)) rfl
    | 17, ho, _ =>
      cases ho
      have q4 : a'.tmps.getD 4 undef = .pointer (some ⟨S, 0, none⟩) := (hrest 4 (by intro i hi; have hi : i < 48 := hi; show (if i = 47 then 8 else 32 + min i 46) ≠ _; split <;> omega))
      have ce := HC0.out W hbel
      obtain ⟨y0, y1, y2, y3, y4, y5, _⟩ := ce
      have e4 := rg_ev q4
      exact rg_same (.agg #[.int .i64 a.kind, .int .u64 (a.conn : Int), .int .i64 a.topic, .int .u64 (a.n : Int), .int .u64 (a.draw : Int), .slice pa na ca]) (by unfold Oper.wp execOp; go_simp; all_goals ((try simp only [e4]); (try go_simp); (try rw [if_pos (by omega)]); (try rw [if_neg (by omega)]); first | done | rfl | exact ⟨rfl, rfl⟩ | trivial)) rfl
    | 18, ho, _ =>
      cases ho
      have q4 : a'.tmps.getD 4 undef = .pointer (some ⟨S, 0, none⟩) := (hrest 4 (by intro i hi; have hi : i < 48 := hi; show (if i = 47 then 8 else 32 + min i 46) ≠ _; split <;> omega))
      have ce := HC0.out W hbel
      obtain ⟨y0, y1, y2, y3, y4, y5, _⟩ := ce
      have e4 := rg_ev q4
      exact rg_same (.agg #[.int .i64 a.kind, .int .u64 (a.conn : Int), .int .i64 a.topic, .int .u64 (a.n : Int), .int .u64 (a.draw : Int), .slice pa na ca]) (by unfold Oper.wp execOp; go_simp; all_goals ((try simp only [e4]); (try go_simp); (try rw [if_pos (by omega)]); (try rw [if_neg (by omega)]); first | done | rfl | exact ⟨rfl, rfl⟩ | trivial)) rfl
    | 19, ho, _ =>
      cases ho
      have q49 : a'.tmps.getD 49 undef = .agg #[.int .i64 a.kind, .int .u64 (a.conn : Int), .int .i64 a.topic, .int .u64 (a.n : Int), .int .u64 (a.draw : Int), .slice pa na ca] := (hpre { on := 17, ground := .data } (by simp) rfl)
      have q50 : a'.tmps.getD 50 undef = .agg #[.int .i64 a.kind, .int .u64 (a.conn : Int), .int .i64 a.topic, .int .u64 (a.n : Int), .int .u64 (a.draw : Int), .slice pa na ca] := (hpre { on := 18, ground := .data } (by simp) rfl)
      exact rg_call2 49 50 23 _ _ _ _ rfl q49 q50 (enters_of Tryz.func23 (by kernel_rfl) rfl) (K23AA.out W hbel) (fun e w' h => ⟨_, h.1, _, rfl, rfl, h.2⟩)
    | 20, ho, _ =>
      cases ho
      have q48 : a'.tmps.getD 48 undef = .bool true := (hpre { on := 16, ground := .data } (by simp) rfl)
      have q51 : a'.tmps.getD 51 undef = .bool true := (hpre { on := 19, ground := .data } (by simp) rfl)
      have e48 := rg_ev q48
      have e51 := rg_ev q51
      exact rg_same (.bool true) (by unfold Oper.wp execOp; go_simp; all_goals ((try simp only [e48, e51]); (try go_simp); (try rw [if_pos (by omega)]); (try rw [if_neg (by omega)]); first | done | rfl | exact ⟨rfl, rfl⟩ | trivial)) rfl
    | 21, ho, _ =>
      cases ho
      have q52 : a'.tmps.getD 52 undef = .bool true := (hpre { on := 20, ground := .data } (by simp) rfl)
      have e52 := rg_ev q52
      exact rg_same (.bool true) (by unfold Oper.wp execOp; go_simp; all_goals ((try simp only [e52]); (try go_simp); (try rw [if_pos (by omega)]); (try rw [if_neg (by omega)]); first | done | rfl | exact ⟨rfl, rfl⟩ | trivial)) rfl
    | 22, ho, _ =>
      cases ho
      have q6 : a'.tmps.getD 6 undef = .pointer (some ⟨S + 2, 0, none⟩) := (hrest 6 (by intro i hi; have hi : i < 48 := hi; show (if i = 47 then 8 else 32 + min i 46) ≠ _; split <;> omega))
      have ce := HC2.out W hbel
      obtain ⟨y0, y1, y2, y3, _⟩ := ce
      have e6 := rg_ev q6
      exact rg_same (.agg #[.int .i64 kx, .int .u64 (x.conn : Int), .int .i64 x.topic, .slice px nx cx]) (by unfold Oper.wp execOp; go_simp; all_goals ((try simp only [e6]); (try go_simp); (try rw [if_pos (by omega)]); (try rw [if_neg (by omega)]); first | done | rfl | exact ⟨rfl, rfl⟩ | trivial)) rfl
    | 23, ho, _ =>
      cases ho
      have q7 : a'.tmps.getD 7 undef = .pointer (some ⟨S + 3, 0, none⟩) := (hrest 7 (by intro i hi; have hi : i < 48 := hi; show (if i = 47 then 8 else 32 + min i 46) ≠ _; split <;> omega))
      have ce := HC3.out W hbel
      obtain ⟨y0, y1, y2, y3, _⟩ := ce
      have e7 := rg_ev q7
      exact rg_same (.agg #[.int .i64 ky, .int .u64 (y.conn : Int), .int .i64 y.topic, .slice py ny cy]) (by unfold Oper.wp execOp; go_simp; all_goals ((try simp only [e7]); (try go_simp); (try rw [if_pos (by omega)]); (try rw [if_neg (by omega)]); first | done | rfl | exact ⟨rfl, rfl⟩ | trivial)) rfl
    | 24, ho, _ =>
      cases ho
      have q54 : a'.tmps.getD 54 undef = .agg #[.int .i64 kx, .int .u64 (x.conn : Int), .int .i64 x.topic, .slice px nx cx] := (hpre { on := 22, ground := .data } (by simp) rfl)
      have q55 : a'.tmps.getD 55 undef = .agg #[.int .i64 ky, .int .u64 (y.conn : Int), .int .i64 y.topic, .slice py ny cy] := (hpre { on := 23, ground := .data } (by simp) rfl)
      exact rg_call2 54 55 24 _ _ _ _ rfl q54 q55 (enters_of Tryz.func24 (by kernel_rfl) rfl) (K24XY.out W hbel) (fun e w' h => ⟨_, h.1, _, rfl, rfl, h.2⟩)
    | 25, ho, _ =>
      cases ho
      have q6 : a'.tmps.getD 6 undef = .pointer (some ⟨S + 2, 0, none⟩) := (hrest 6 (by intro i hi; have hi : i < 48 := hi; show (if i = 47 then 8 else 32 + min i 46) ≠ _; split <;> omega))
      have ce := HC2.out W hbel
      obtain ⟨y0, y1, y2, y3, _⟩ := ce
      have e6 := rg_ev q6
      exact rg_same (.agg #[.int .i64 kx, .int .u64 (x.conn : Int), .int .i64 x.topic, .slice px nx cx]) (by unfold Oper.wp execOp; go_simp; all_goals ((try simp only [e6]); (try go_simp); (try rw [if_pos (by omega)]); (try rw [if_neg (by omega)]); first | done | rfl | exact ⟨rfl, rfl⟩ | trivial)) rfl
    | 26, ho, _ =>
      cases ho
      have q7 : a'.tmps.getD 7 undef = .pointer (some ⟨S + 3, 0, none⟩) := (hrest 7 (by intro i hi; have hi : i < 48 := hi; show (if i = 47 then 8 else 32 + min i 46) ≠ _; split <;> omega))
      have ce := HC3.out W hbel
      obtain ⟨y0, y1, y2, y3, _⟩ := ce
      have e7 := rg_ev q7
      exact rg_same (.agg #[.int .i64 ky, .int .u64 (y.conn : Int), .int .i64 y.topic, .slice py ny cy]) (by unfold Oper.wp execOp; go_simp; all_goals ((try simp only [e7]); (try go_simp); (try rw [if_pos (by omega)]); (try rw [if_neg (by omega)]); first | done | rfl | exact ⟨rfl, rfl⟩ | trivial)) rfl
    | 27, ho, _ =>
      cases ho
      have q57 : a'.tmps.getD 57 undef = .agg #[.int .i64 kx, .int .u64 (x.conn : Int), .int .i64 x.topic, .slice px nx cx] := (hpre { on := 25, ground := .data } (by simp) rfl)
      have q58 : a'.tmps.getD 58 undef = .agg #[.int .i64 ky, .int .u64 (y.conn : Int), .int .i64 y.topic, .slice py ny cy] := (hpre { on := 26, ground := .data } (by simp) rfl)
      exact rg_call2 57 58 22 _ _ _ _ rfl q57 q58 (enters_of Tryz.func22 (by kernel_rfl) rfl) (K22XY.out W hbel) (fun e w' h => ⟨_, h.1, _, rfl, rfl, h.2⟩)
    | 28, ho, _ =>
      cases ho
      have q56 : a'.tmps.getD 56 undef = .bool e := (hpre { on := 24, ground := .data } (by simp) rfl)
      have q59 : a'.tmps.getD 59 undef = .bool e := (hpre { on := 27, ground := .data } (by simp) rfl)
      have he : (e == e) = true := beq_self_eq_true _
      have e56 := rg_ev q56
      have e59 := rg_ev q59
      exact rg_same (.bool true) (by unfold Oper.wp execOp; go_simp; all_goals ((try simp only [e56, e59]); (try go_simp); (try rw [if_pos (by omega)]); (try rw [if_neg (by omega)]); first | done | rfl | exact ⟨rfl, rfl⟩ | trivial)) rfl
    | 29, ho, _ =>
      cases ho
      have q53 : a'.tmps.getD 53 undef = .bool true := (hpre { on := 21, ground := .data } (by simp) rfl)
      have q60 : a'.tmps.getD 60 undef = .bool true := (hpre { on := 28, ground := .data } (by simp) rfl)
      have e53 := rg_ev q53
      have e60 := rg_ev q60
      exact rg_same (.bool true) (by unfold Oper.wp execOp; go_simp; all_goals ((try simp only [e53, e60]); (try go_simp); (try rw [if_pos (by omega)]); (try rw [if_neg (by omega)]); first | done | rfl | exact ⟨rfl, rfl⟩ | trivial)) rfl
    | 30, ho, _ =>
      cases ho
      have q61 : a'.tmps.getD 61 undef = .bool true := (hpre { on := 29, ground := .data } (by simp) rfl)
      have e61 := rg_ev q61
      exact rg_same (.bool true) (by unfold Oper.wp execOp; go_simp; all_goals ((try simp only [e61]); (try go_simp); (try rw [if_pos (by omega)]); (try rw [if_neg (by omega)]); first | done | rfl | exact ⟨rfl, rfl⟩ | trivial)) rfl
    | 31, ho, _ =>
      cases ho
      have q7 : a'.tmps.getD 7 undef = .pointer (some ⟨S + 3, 0, none⟩) := (hrest 7 (by intro i hi; have hi : i < 48 := hi; show (if i = 47 then 8 else 32 + min i 46) ≠ _; split <;> omega))
      have ce := HC3.out W hbel
      obtain ⟨y0, y1, y2, y3, _⟩ := ce
      have e7 := rg_ev q7
      exact rg_same (.agg #[.int .i64 ky, .int .u64 (y.conn : Int), .int .i64 y.topic, .slice py ny cy]) (by unfold Oper.wp execOp; go_simp; all_goals ((try simp only [e7]); (try go_simp); (try rw [if_pos (by omega)]); (try rw [if_neg (by omega)]); first | done | rfl | exact ⟨rfl, rfl⟩ | trivial)) rfl
    | 32, ho, _ =>
      cases ho
      have q6 : a'.tmps.getD 6 undef = .pointer (some ⟨S + 2, 0, none⟩) := (hrest 6 (by intro i hi; have hi : i < 48 := hi; show (if i = 47 then 8 else 32 + min i 46) ≠ _; split <;> omega))
      have ce := HC2.out W hbel
      obtain ⟨y0, y1, y2, y3, _⟩ := ce
      have e6 := rg_ev q6
      exact rg_same (.agg #[.int .i64 kx, .int .u64 (x.conn : Int), .int .i64 x.topic, .slice px nx cx]) (by unfold Oper.wp execOp; go_simp; all_goals ((try simp only [e6]); (try go_simp); (try rw [if_pos (by omega)]); (try rw [if_neg (by omega)]); first | done | rfl | exact ⟨rfl, rfl⟩ | trivial)) rfl
    | 33, ho, _ =>
      cases ho
      have q63 : a'.tmps.getD 63 undef = .agg #[.int .i64 ky, .int .u64 (y.conn : Int), .int .i64 y.topic, .slice py ny cy] := (hpre { on := 31, ground := .data } (by simp) rfl)
      have q64 : a'.tmps.getD 64 undef = .agg #[.int .i64 kx, .int .u64 (x.conn : Int), .int .i64 x.topic, .slice px nx cx] := (hpre { on := 32, ground := .data } (by simp) rfl)
      exact rg_call2 63 64 24 _ _ _ _ rfl q63 q64 (enters_of Tryz.func24 (by kernel_rfl) rfl) (K24YX.out W hbel) (fun e w' h => ⟨_, h.1, _, rfl, rfl, h.2⟩)
    | 34, ho, _ =>
      cases ho
      have q6 : a'.tmps.getD 6 undef = .pointer (some ⟨S + 2, 0, none⟩) := (hrest 6 (by intro i hi; have hi : i < 48 := hi; show (if i = 47 then 8 else 32 + min i 46) ≠ _; split <;> omega))
      have ce := HC2.out W hbel
      obtain ⟨y0, y1, y2, y3, _⟩ := ce
      have e6 := rg_ev q6
      exact rg_same (.agg #[.int .i64 kx, .int .u64 (x.conn : Int), .int .i64 x.topic, .slice px nx cx]) (by unfold Oper.wp execOp; go_simp; all_goals ((try simp only [e6]); (try go_simp); (try rw [if_pos (by omega)]); (try rw [if_neg (by omega)]); first | done | rfl | exact ⟨rfl, rfl⟩ | trivial)) rfl
    | 35, ho, _ =>
      cases ho
      have q7 : a'.tmps.getD 7 undef = .pointer (some ⟨S + 3, 0, none⟩) := (hrest 7 (by intro i hi; have hi : i < 48 := hi; show (if i = 47 then 8 else 32 + min i 46) ≠ _; split <;> omega))
      have ce := HC3.out W hbel
      obtain ⟨y0, y1, y2, y3, _⟩ := ce
      have e7 := rg_ev q7
      exact rg_same (.agg #[.int .i64 ky, .int .u64 (y.conn : Int), .int .i64 y.topic, .slice py ny cy]) (by unfold Oper.wp execOp; go_simp; all_goals ((try simp only [e7]); (try go_simp); (try rw [if_pos (by omega)]); (try rw [if_neg (by omega)]); first | done | rfl | exact ⟨rfl, rfl⟩ | trivial)) rfl
    | 36, ho, _ =>
      cases ho
      have q66 : a'.tmps.getD 66 undef = .agg #[.int .i64 kx, .int .u64 (x.conn : Int), .int .i64 x.topic, .slice px nx cx] := (hpre { on := 34, ground := .data } (by simp) rfl)
      have q67 : a'.tmps.getD 67 undef = .agg #[.int .i64 ky, .int .u64 (y.conn : Int), .int .i64 y.topic, .slice py ny cy] := (hpre { on := 35, ground := .data } (by simp) rfl)
      exact rg_call2 66 67 22 _ _ _ _ rfl q66 q67 (enters_of Tryz.func22 (by kernel_rfl) rfl) (K22XY.out W hbel) (fun e w' h => ⟨_, h.1, _, rfl, rfl, h.2⟩)
    | 37, ho, _ =>
      cases ho
      have q65 : a'.tmps.getD 65 undef = .bool e := (hpre { on := 33, ground := .data } (by simp) rfl)
      have q68 : a'.tmps.getD 68 undef = .bool e := (hpre { on := 36, ground := .data } (by simp) rfl)
      have he : (e == e) = true := beq_self_eq_true _
      have e65 := rg_ev q65
      have e68 := rg_ev q68
      exact rg_same (.bool true) (by unfold Oper.wp execOp; go_simp; all_goals ((try simp only [e65, e68]); (try go_simp); (try rw [if_pos (by omega)]); (try rw [if_neg (by omega)]); first | done | rfl | exact ⟨rfl, rfl⟩ | trivial)) rfl
    | 38, ho, _ =>
      cases ho
      have q62 : a'.tmps.getD 62 undef = .bool true := (hpre { on := 30, ground := .data } (by simp) rfl)
      have q69 : a'.tmps.getD 69 undef = .bool true := (hpre { on := 37, ground := .data } (by simp) rfl)
      have e62 := rg_ev q62
      have e69 := rg_ev q69
      exact rg_same (.bool true) (by unfold Oper.wp execOp; go_simp; all_goals ((try simp only [e62, e69]); (try go_simp); (try rw [if_pos (by omega)]); (try rw [if_neg (by omega)]); first | done | rfl | exact ⟨rfl, rfl⟩ | trivial)) rfl
    | 39, ho, _ =>
      cases ho
      have q70 : a'.tmps.getD 70 undef = .bool true := (hpre { on := 38, ground := .data } (by simp) rfl)
      have e70 := rg_ev q70
      exact rg_same (.bool true) (by unfold Oper.wp execOp; go_simp; all_goals ((try simp only [e70]); (try go_simp); (try rw [if_pos (by omega)]); (try rw [if_neg (by omega)]); first | done | rfl | exact ⟨rfl, rfl⟩ | trivial)) rfl
    | 40, ho, _ =>
      cases ho
      have q6 : a'.tmps.getD 6 undef = .pointer (some ⟨S + 2, 0, none⟩) := (hrest 6 (by intro i hi; have hi : i < 48 := hi; show (if i = 47 then 8 else 32 + min i 46) ≠ _; split <;> omega))
      have ce := HC2.out W hbel
      obtain ⟨y0, y1, y2, y3, _⟩ := ce
      have e6 := rg_ev q6
      exact rg_same (.agg #[.int .i64 kx, .int .u64 (x.conn : Int), .int .i64 x.topic, .slice px nx cx]) (by unfold Oper.wp execOp; go_simp; all_goals ((try simp only [e6]); (try go_simp); (try rw [if_pos (by omega)]); (try rw [if_neg (by omega)]); first | done | rfl | exact ⟨rfl, rfl⟩ | trivial)) rfl
    | 41, ho, _ =>
      cases ho
      have q6 : a'.tmps.getD 6 undef = .pointer (some ⟨S + 2, 0, none⟩) := (hrest 6 (by intro i hi; have hi : i < 48 := hi; show (if i = 47 then 8 else 32 + min i 46) ≠ _; split <;> omega))
      have ce := HC2.out W hbel
      obtain ⟨y0, y1, y2, y3, _⟩ := ce
      have e6 := rg_ev q6
      exact rg_same (.agg #[.int .i64 kx, .int .u64 (x.conn : Int), .int .i64 x.topic, .slice px nx cx]) (by unfold Oper.wp execOp; go_simp; all_goals ((try simp only [e6]); (try go_simp); (try rw [if_pos (by omega)]); (try rw [if_neg (by omega)]); first | done | rfl | exact ⟨rfl, rfl⟩ | trivial)) rfl
    | 42, ho, _ =>
      cases ho
      have q72 : a'.tmps.getD 72 undef = .agg #[.int .i64 kx, .int .u64 (x.conn : Int), .int .i64 x.topic, .slice px nx cx] := (hpre { on := 40, ground := .data } (by simp) rfl)
      have q73 : a'.tmps.getD 73 undef = .agg #[.int .i64 kx, .int .u64 (x.conn : Int), .int .i64 x.topic, .slice px nx cx] := (hpre { on := 41, ground := .data } (by simp) rfl)
      exact rg_call2 72 73 24 _ _ _ _ rfl q72 q73 (enters_of Tryz.func24 (by kernel_rfl) rfl) (K24XX.out W hbel) (fun e w' h => ⟨_, h.1, _, rfl, rfl, h.2⟩)
    | 43, ho, _ =>
      cases ho
      have q71 : a'.tmps.getD 71 undef = .bool true := (hpre { on := 39, ground := .data } (by simp) rfl)
      have q74 : a'.tmps.getD 74 undef = .bool true := (hpre { on := 42, ground := .data } (by simp) rfl)
      have e71 := rg_ev q71
      have e74 := rg_ev q74
      exact rg_same (.bool true) (by unfold Oper.wp execOp; go_simp; all_goals ((try simp only [e71, e74]); (try go_simp); (try rw [if_pos (by omega)]); (try rw [if_neg (by omega)]); first | done | rfl | exact ⟨rfl, rfl⟩ | trivial)) rfl
    | 44, ho, _ =>
      cases ho
      have q75 : a'.tmps.getD 75 undef = .bool true := (hpre { on := 43, ground := .data } (by simp) rfl)
      have e75 := rg_ev q75
      exact rg_same (.bool true) (by unfold Oper.wp execOp; go_simp; all_goals ((try simp only [e75]); (try go_simp); (try rw [if_pos (by omega)]); (try rw [if_neg (by omega)]); first | done | rfl | exact ⟨rfl, rfl⟩ | trivial)) rfl
    | 45, ho, _ =>
      cases ho
      exact rg_call0 11 _ _ rfl (enters_of Tryz.func11 (by kernel_rfl) rfl) (sc_works W (HK.out.below hbel).tabs (HK.out.below hbel).ml) (fun e w' h => ⟨_, h.1, _, rfl, rfl, h.2⟩)
    | 46, ho, _ =>
      cases ho
      have q76 : a'.tmps.getD 76 undef = .bool true := (hpre { on := 44, ground := .data } (by simp) rfl)
      have q77 : a'.tmps.getD 77 undef = .bool true := (hpre { on := 45, ground := .data } (by simp) rfl)
      have e76 := rg_ev q76
      have e77 := rg_ev q77
      exact rg_same (.bool true) (by unfold Oper.wp execOp; go_simp; all_goals ((try simp only [e76, e77]); (try go_simp); (try rw [if_pos (by omega)]); (try rw [if_neg (by omega)]); first | done | rfl | exact ⟨rfl, rfl⟩ | trivial)) rfl
    | 47, ho, _ =>
      cases ho
      have q78 : a'.tmps.getD 78 undef = .bool true := (hpre { on := 46, ground := .data } (by simp) rfl)
      have e78 := rg_ev q78
      exact rg_same (.bool true) (by unfold Oper.wp execOp; go_simp; all_goals ((try simp only [e78]); (try go_simp); (try rw [if_pos (by omega)]); (try rw [if_neg (by omega)]); first | done | rfl | exact ⟨rfl, rfl⟩ | trivial)) rfl
    | n + 48, ho, _ => exact absurd ho (by simp)
  case done =>
    intro vs W hbel hvs
    have v0 : vs 0 = .agg #[.int .i64 a.kind, .int .u64 (a.conn : Int), .int .i64 a.topic, .int .u64 (a.n : Int), .int .u64 (a.draw : Int), .slice pa na ca] := hvs 0 (by decide)
    have v1 : vs 1 = .agg #[.int .i64 b.kind, .int .u64 (b.conn : Int), .int .i64 b.topic, .int .u64 (b.n : Int), .int .u64 (b.draw : Int), .slice pb nb cb] := hvs 1 (by decide)
    have v2 : vs 2 = .bool d := hvs 2 (by decide)
    have v3 : vs 3 = .agg #[.int .i64 a.kind, .int .u64 (a.conn : Int), .int .i64 a.topic, .int .u64 (a.n : Int), .int .u64 (a.draw : Int), .slice pa na ca] := hvs 3 (by decide)
    have v4 : vs 4 = .agg #[.int .i64 b.kind, .int .u64 (b.conn : Int), .int .i64 b.topic, .int .u64 (b.n : Int), .int .u64 (b.draw : Int), .slice pb nb cb] := hvs 4 (by decide)
    have v5 : vs 5 = .bool d := hvs 5 (by decide)
    have v6 : vs 6 = .bool true := hvs 6 (by decide)
    have v7 : vs 7 = .bool true := hvs 7 (by decide)
    have v8 : vs 8 = .agg #[.int .i64 b.kind, .int .u64 (b.conn : Int), .int .i64 b.topic, .int .u64 (b.n : Int), .int .u64 (b.draw : Int), .slice pb nb cb] := hvs 8 (by decide)
    have v9 : vs 9 = .agg #[.int .i64 a.kind, .int .u64 (a.conn : Int), .int .i64 a.topic, .int .u64 (a.n : Int), .int .u64 (a.draw : Int), .slice pa na ca] := hvs 9 (by decide)
    have v10 : vs 10 = .bool d := hvs 10 (by decide)
    have v11 : vs 11 = .agg #[.int .i64 a.kind, .int .u64 (a.conn : Int), .int .i64 a.topic, .int .u64 (a.n : Int), .int .u64 (a.draw : Int), .slice pa na ca] := hvs 11 (by decide)
    have v12 : vs 12 = .agg #[.int .i64 b.kind, .int .u64 (b.conn : Int), .int .i64 b.topic, .int .u64 (b.n : Int), .int .u64 (b.draw : Int), .slice pb nb cb] := hvs 12 (by decide)
    have v13 : vs 13 = .bool d := hvs 13 (by decide)
    have v14 : vs 14 = .bool true := hvs 14 (by decide)
    have v15 : vs 15 = .bool true := hvs 15 (by decide)
    have v16 : vs 16 = .bool true := hvs 16 (by decide)
    have v17 : vs 17 = .agg #[.int .i64 a.kind, .int .u64 (a.conn : Int), .int .i64 a.topic, .int .u64 (a.n : Int), .int .u64 (a.draw : Int), .slice pa na ca] := hvs 17 (by decide)
    have v18 : vs 18 = .agg #[.int .i64 a.kind, .int .u64 (a.conn : Int), .int .i64 a.topic, .int .u64 (a.n : Int), .int .u64 (a.draw : Int), .slice pa na ca] := hvs 18 (by decide)
    have v19 : vs 19 = .bool true := hvs 19 (by decide)
    have v20 : vs 20 = .bool true := hvs 20 (by decide)
    have v21 : vs 21 = .bool true := hvs 21 (by decide)
    have v22 : vs 22 = .agg #[.int .i64 kx, .int .u64 (x.conn : Int), .int .i64 x.topic, .slice px nx cx] := hvs 22 (by decide)
    have v23 : vs 23 = .agg #[.int .i64 ky, .int .u64 (y.conn : Int), .int .i64 y.topic, .slice py ny cy] := hvs 23 (by decide)
    have v24 : vs 24 = .bool e := hvs 24 (by decide)
    have v25 : vs 25 = .agg #[.int .i64 kx, .int .u64 (x.conn : Int), .int .i64 x.topic, .slice px nx cx] := hvs 25 (by decide)
    have v26 : vs 26 = .agg #[.int .i64 ky, .int .u64 (y.conn : Int), .int .i64 y.topic, .slice py ny cy] := hvs 26 (by decide)
    have v27 : vs 27 = .bool e := hvs 27 (by decide)
    have v28 : vs 28 = .bool true := hvs 28 (by decide)
    have v29 : vs 29 = .bool true := hvs 29 (by decide)
    have v30 : vs 30 = .bool true := hvs 30 (by decide)
    have v31 : vs 31 = .agg #[.int .i64 ky, .int .u64 (y.conn : Int), .int .i64 y.topic, .slice py ny cy] := hvs 31 (by decide)
    have v32 : vs 32 = .agg #[.int .i64 kx, .int .u64 (x.conn : Int), .int .i64 x.topic, .slice px nx cx] := hvs 32 (by decide)
    have v33 : vs 33 = .bool e := hvs 33 (by decide)
    have v34 : vs 34 = .agg #[.int .i64 kx, .int .u64 (x.conn : Int), .int .i64 x.topic, .slice px nx cx] := hvs 34 (by decide)
    have v35 : vs 35 = .agg #[.int .i64 ky, .int .u64 (y.conn : Int), .int .i64 y.topic, .slice py ny cy] := hvs 35 (by decide)
    have v36 : vs 36 = .bool e := hvs 36 (by decide)
    have v37 : vs 37 = .bool true := hvs 37 (by decide)
    have v38 : vs 38 = .bool true := hvs 38 (by decide)
    have v39 : vs 39 = .bool true := hvs 39 (by decide)
    have v40 : vs 40 = .agg #[.int .i64 kx, .int .u64 (x.conn : Int), .int .i64 x.topic, .slice px nx cx] := hvs 40 (by decide)
    have v41 : vs 41 = .agg #[.int .i64 kx, .int .u64 (x.conn : Int), .int .i64 x.topic, .slice px nx cx] := hvs 41 (by decide)
    have v42 : vs 42 = .bool true := hvs 42 (by decide)
    have v43 : vs 43 = .bool true := hvs 43 (by decide)
    have v44 : vs 44 = .bool true := hvs 44 (by decide)
    have v45 : vs 45 = .bool true := hvs 45 (by decide)
    have v46 : vs 46 = .bool true := hvs 46 (by decide)
    have v47 : vs 47 = .bool true := hvs 47 (by decide)
    have HBR := Lib.hid hbel
    simp only [fillN, List.size_toArray, List.length_cons, List.length_nil, Nat.reduceAdd, show List.range 48 = [0, 1, 2, 3, 4, 5, 6, 7, 8, 9, 10, 11, 12, 13, 14, 15, 16, 17, 18, 19, 20, 21, 22, 23, 24, 25, 26, 27, 28, 29, 30, 31, 32, 33, 34, 35, 36, 37, 38, 39, 40, 41, 42, 43, 44, 45, 46, 47] from rfl, List.foldl_cons, List.foldl_nil, show (if 0 = 47 then 8 else 32 + min 0 46) = 32 from rfl, show (if 1 = 47 then 8 else 32 + min 1 46) = 33 from rfl, show (if 2 = 47 then 8 else 32 + min 2 46) = 34 from rfl, show (if 3 = 47 then 8 else 32 + min 3 46) = 35 from rfl, show (if 4 = 47 then 8 else 32 + min 4 46) = 36 from rfl, show (if 5 = 47 then 8 else 32 + min 5 46) = 37 from rfl, show (if 6 = 47 then 8 else 32 + min 6 46) = 38 from rfl, show (if 7 = 47 then 8 else 32 + min 7 46) = 39 from rfl, show (if 8 = 47 then 8 else 32 + min 8 46) = 40 from rfl, show (if 9 = 47 then 8 else 32 + min 9 46) = 41 from rfl, show (if 10 = 47 then 8 else 32 + min 10 46) = 42 from rfl, show (if 11 = 47 then 8 else 32 + min 11 46) = 43 from rfl, show (if 12 = 47 then 8 else 32 + min 12 46) = 44 from rfl, show (if 13 = 47 then 8 else 32 + min 13 46) = 45 from rfl, show (if 14 = 47 then 8 else 32 + min 14 46) = 46 from rfl, show (if 15 = 47 then 8 else 32 + min 15 46) = 47 from rfl, show (if 16 = 47 then 8 else 32 + min 16 46) = 48 from rfl, show (if 17 = 47 then 8 else 32 + min 17 46) = 49 from rfl, show (if 18 = 47 then 8 else 32 + min 18 46) = 50 from rfl, show (if 19 = 47 then 8 else 32 + min 19 46) = 51 from rfl, show (if 20 = 47 then 8 else 32 + min 20 46) = 52 from rfl, show (if 21 = 47 then 8 else 32 + min 21 46) = 53 from rfl, show (if 22 = 47 then 8 else 32 + min 22 46) = 54 from rfl, show (if 23 = 47 then 8 else 32 + min 23 46) = 55 from rfl, show (if 24 = 47 then 8 else 32 + min 24 46) = 56 from rfl, show (if 25 = 47 then 8 else 32 + min 25 46) = 57 from rfl, show (if 26 = 47 then 8 else 32 + min 26 46) = 58 from rfl, show (if 27 = 47 then 8 else 32 + min 27 46) = 59 from rfl, show (if 28 = 47 then 8 else 32 + min 28 46) = 60 from rfl, show (if 29 = 47 then 8 else 32 + min 29 46) = 61 from rfl, show (if 30 = 47 then 8 else 32 + min 30 46) = 62 from rfl, show (if 31 = 47 then 8 else 32 + min 31 46) = 63 from rfl, show (if 32 = 47 then 8 else 32 + min 32 46) = 64 from rfl, show (if 33 = 47 then 8 else 32 + min 33 46) = 65 from rfl, show (if 34 = 47 then 8 else 32 + min 34 46) = 66 from rfl, show (if 35 = 47 then 8 else 32 + min 35 46) = 67 from rfl, show (if 36 = 47 then 8 else 32 + min 36 46) = 68 from rfl, show (if 37 = 47 then 8 else 32 + min 37 46) = 69 from rfl, show (if 38 = 47 then 8 else 32 + min 38 46) = 70 from rfl, show (if 39 = 47 then 8 else 32 + min 39 46) = 71 from rfl, show (if 40 = 47 then 8 else 32 + min 40 46) = 72 from rfl, show (if 41 = 47 then 8 else 32 + min 41 46) = 73 from rfl, show (if 42 = 47 then 8 else 32 + min 42 46) = 74 from rfl, show (if 43 = 47 then 8 else 32 + min 43 46) = 75 from rfl, show (if 44 = 47 then 8 else 32 + min 44 46) = 76 from rfl, show (if 45 = 47 then 8 else 32 + min 45 46) = 77 from rfl, show (if 46 = 47 then 8 else 32 + min 46 46) = 78 from rfl, show (if 47 = 47 then 8 else 32 + min 47 46) = 8 from rfl, v0, v1, v2, v3, v4, v5, v6, v7, v8, v9, v10, v11, v12, v13, v14, v15, v16, v17, v18, v19, v20, v21, v22, v23, v24, v25, v26, v27, v28, v29, v30, v31, v32, v33, v34, v35, v36, v37, v38, v39, v40, v41, v42, v43, v44, v45, v46, v47]
    clear v0 v1 v2 v3 v4 v5 v6 v7 v8 v9 v10 v11 v12 v13 v14 v15 v16 v17 v18 v19 v20 v21 v22 v23 v24 v25 v26 v27 v28 v29 v30 v31 v32 v33 v34 v35 v36 v37 v38 v39 v40 v41 v42 v43 v44 v45 v46 v47 hvs hbel
    go_simp
    go_wp2_with fail
    go_ret
    exact ⟨rfl, HB.out.trans (HBR.out.mono HB.out.size)⟩
end Go.Proofs.YtbaakfcbakpmpaaGreatDoor
