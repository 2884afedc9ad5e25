/- Texts of this claim, one behind the other: LRS. -/
import Derived.Test.YtgfammlmbjmkoaaGreatDoorCRSm1
/- RouteShades returns true for any texts, any path: the walk. The tables of the library read as they are laid. -/
namespace Go.Proofs.YtgfammlmbjmkoaaGreatDoor
set_option linter.unusedVariables false
set_option linter.unusedSimpArgs false
open Go.RowKit Go.Shelf
attribute [local go_sem] Oper.semAt_some
set_option maxHeartbeats 8000000
set_option maxRecDepth 100000
def rsF (p11 : Option Addr) (nh c11 b off n c k : Nat) (qb : ByteArray) (Bs : Nat) (M : List (List UInt8)) (w2 : World) : Nat → World → Value → Prop
  | 0, _, v => v = .slice p11 nh c11
  | 1, _, v => v = .slice (some ⟨b, off, none⟩) n c
  | 2, _, v => v = .int .i64 k
  | 3, _, v => v = .pointer (some ⟨b, off + k, none⟩)
  | 4, _, v => v = .string qb
  | 5, w, v => ∃ g, v = .slice (some ⟨g, 0, none⟩) 1 1 ∧ w.heap[g]? = some (.cells #[.string qb] 9 (0, 0)) ∧ w2.heap.size ≤ g
  | 6, w, v => ∃ p' c', v = .slice p' (nh + 1) c' ∧ w.ownsRow Bs 9 1 v (nh + 1) (M.map sv)
  | _, _, _ => False
def rkA (bh oh nh c11 ia kq mq : Nat) (ti tk tm : ByteArray) : Nat → World → Value → Prop
  | 0, _, v => v = .slice (some ⟨bh, oh, none⟩) nh c11
  | 1, _, v => v = .int .i64 ia
  | 2, _, v => v = .pointer (some ⟨bh, oh + ia, none⟩)
  | 3, _, v => v = .string ti
  | 4, _, v => v = .slice (some ⟨bh, oh, none⟩) nh c11
  | 5, _, v => v = .int .i64 kq
  | 6, _, v => v = .pointer (some ⟨bh, oh + kq, none⟩)
  | 7, _, v => v = .string tk
  | 8, _, v => v = .bool false
  | 9, _, v => v = .bool false
  | 10, _, v => v = undef
  | 11, _, v => v = undef
  | 12, _, v => v = undef
  | 13, _, v => v = undef
  | 14, _, v => v = undef
  | 15, _, v => v = undef
  | 16, _, v => v = undef
  | 17, _, v => v = undef
  | 18, _, v => v = undef
  | 19, _, v => v = .bool false
  | 20, _, v => v = .bool false
  | 21, _, v => v = undef
  | 22, _, v => v = undef
  | 23, _, v => v = undef
  | 24, _, v => v = undef
  | 25, _, v => v = undef
  | 26, _, v => v = undef
  | 27, _, v => v = undef
  | 28, _, v => v = undef
  | 29, _, v => v = undef
  | 30, _, v => v = undef
  | 31, _, v => v = .bool false
  | _, _, _ => False
def rkB (bh oh nh c11 ia kq mq : Nat) (ti tk tm : ByteArray) : Nat → World → Value → Prop
  | 0, _, v => v = .slice (some ⟨bh, oh, none⟩) nh c11
  | 1, _, v => v = .int .i64 ia
  | 2, _, v => v = .pointer (some ⟨bh, oh + ia, none⟩)
  | 3, _, v => v = .string ti
  | 4, _, v => v = .slice (some ⟨bh, oh, none⟩) nh c11
  | 5, _, v => v = .int .i64 kq
  | 6, _, v => v = .pointer (some ⟨bh, oh + kq, none⟩)
  | 7, _, v => v = .string tk
  | 8, _, v => v = .bool true
  | 9, _, v => v = .bool true
  | 10, _, v => v = .slice (some ⟨bh, oh, none⟩) nh c11
  | 11, _, v => v = .int .i64 kq
  | 12, _, v => v = .pointer (some ⟨bh, oh + kq, none⟩)
  | 13, _, v => v = .string tk
  | 14, _, v => v = .slice (some ⟨bh, oh, none⟩) nh c11
  | 15, _, v => v = .int .i64 mq
  | 16, _, v => v = .pointer (some ⟨bh, oh + mq, none⟩)
  | 17, _, v => v = .string tm
  | 18, _, v => v = .bool false
  | 19, _, v => v = .bool false
  | 20, _, v => v = .bool false
  | 21, _, v => v = undef
  | 22, _, v => v = undef
  | 23, _, v => v = undef
  | 24, _, v => v = undef
  | 25, _, v => v = undef
  | 26, _, v => v = undef
  | 27, _, v => v = undef
  | 28, _, v => v = undef
  | 29, _, v => v = undef
  | 30, _, v => v = undef
  | 31, _, v => v = .bool false
  | _, _, _ => False
def rkC (bh oh nh c11 ia kq mq : Nat) (ti tk tm : ByteArray) : Nat → World → Value → Prop
  | 0, _, v => v = .slice (some ⟨bh, oh, none⟩) nh c11
  | 1, _, v => v = .int .i64 ia
  | 2, _, v => v = .pointer (some ⟨bh, oh + ia, none⟩)
  | 3, _, v => v = .string ti
  | 4, _, v => v = .slice (some ⟨bh, oh, none⟩) nh c11
  | 5, _, v => v = .int .i64 kq
  | 6, _, v => v = .pointer (some ⟨bh, oh + kq, none⟩)
  | 7, _, v => v = .string tk
  | 8, _, v => v = .bool true
  | 9, _, v => v = .bool true
  | 10, _, v => v = .slice (some ⟨bh, oh, none⟩) nh c11
  | 11, _, v => v = .int .i64 kq
  | 12, _, v => v = .pointer (some ⟨bh, oh + kq, none⟩)
  | 13, _, v => v = .string tk
  | 14, _, v => v = .slice (some ⟨bh, oh, none⟩) nh c11
  | 15, _, v => v = .int .i64 mq
  | 16, _, v => v = .pointer (some ⟨bh, oh + mq, none⟩)
  | 17, _, v => v = .string tm
  | 18, _, v => v = .bool true
  | 19, _, v => v = .bool true
  | 20, _, v => v = .bool true
  | 21, _, v => v = .slice (some ⟨bh, oh, none⟩) nh c11
  | 22, _, v => v = .int .i64 ia
  | 23, _, v => v = .pointer (some ⟨bh, oh + ia, none⟩)
  | 24, _, v => v = .string ti
  | 25, _, v => v = .slice (some ⟨bh, oh, none⟩) nh c11
  | 26, _, v => v = .int .i64 mq
  | 27, _, v => v = .pointer (some ⟨bh, oh + mq, none⟩)
  | 28, _, v => v = .string tm
  | 29, _, v => v = .bool true
  | 30, _, v => v = .bool false
  | 31, _, v => v = .bool false
  | _, _, _ => False
def rmA (bh oh nh c11 ix kx : Nat) (f1 : Int) (ti tk : ByteArray) : Nat → World → Value → Prop
  | 0, _, v => v = .int .i64 kx
  | 1, _, v => v = .bool false
  | 2, _, v => v = .bool false
  | 3, _, v => v = .int .i64 kx
  | 4, _, v => v = .int .i64 ix
  | 5, _, v => v = .bool false
  | 6, _, v => v = .bool false
  | 7, _, v => v = .bool false
  | 8, _, v => v = .int .i64 ix
  | 9, _, v => v = .slice (some ⟨bh, oh, none⟩) nh c11
  | 10, _, v => v = .int .i64 nh
  | 11, _, v => v = .bool false
  | 12, _, v => v = .bool false
  | 13, _, v => v = .bool false
  | 14, _, v => v = .slice (some ⟨bh, oh, none⟩) nh c11
  | 15, _, v => v = .int .i64 kx
  | 16, _, v => v = .pointer (some ⟨bh, oh + kx, none⟩)
  | 17, _, v => v = .string tk
  | 18, _, v => v = .slice (some ⟨bh, oh, none⟩) nh c11
  | 19, _, v => v = .int .i64 ix
  | 20, _, v => v = .pointer (some ⟨bh, oh + ix, none⟩)
  | 21, _, v => v = .string ti
  | 22, _, v => v = .bool true
  | 23, _, v => v = .bool false
  | 24, _, v => v = .bool false
  | 25, _, v => v = .bool false
  | 26, _, v => v = .bool true
  | 27, _, v => v = .bool true
  | 28, _, v => v = .int .i64 f1
  | 29, _, v => v = .int .i64 ix
  | 30, _, v => v = .bool false
  | 31, _, v => v = .bool false
  | 32, _, v => v = .bool false
  | _, _, _ => False
def rmB (bh oh nh c11 ix kx : Nat) (f1 : Int) (ti tk : ByteArray) : Nat → World → Value → Prop
  | 0, _, v => v = .int .i64 kx
  | 1, _, v => v = .bool false
  | 2, _, v => v = .bool false
  | 3, _, v => v = .int .i64 kx
  | 4, _, v => v = .int .i64 ix
  | 5, _, v => v = .bool false
  | 6, _, v => v = .bool false
  | 7, _, v => v = .bool false
  | 8, _, v => v = .int .i64 ix
  | 9, _, v => v = .slice (some ⟨bh, oh, none⟩) nh c11
  | 10, _, v => v = .int .i64 nh
  | 11, _, v => v = .bool false
  | 12, _, v => v = .bool false
  | 13, _, v => v = .bool false
  | 14, _, v => v = .slice (some ⟨bh, oh, none⟩) nh c11
  | 15, _, v => v = .int .i64 kx
  | 16, _, v => v = .pointer (some ⟨bh, oh + kx, none⟩)
  | 17, _, v => v = .string tk
  | 18, _, v => v = .slice (some ⟨bh, oh, none⟩) nh c11
  | 19, _, v => v = .int .i64 ix
  | 20, _, v => v = .pointer (some ⟨bh, oh + ix, none⟩)
  | 21, _, v => v = .string ti
  | 22, _, v => v = .bool true
  | 23, _, v => v = .bool false
  | 24, _, v => v = .bool false
  | 25, _, v => v = .bool false
  | 26, _, v => v = .bool false
  | 27, _, v => v = .bool false
  | 28, _, v => v = undef
  | 29, _, v => v = undef
  | 30, _, v => v = undef
  | 31, _, v => v = .bool false
  | 32, _, v => v = .bool false
  | _, _, _ => False
theorem rsF_below {p11 : Option Addr} {nh c11 b off n c k : Nat} {qb : ByteArray} {Bs : Nat} {M : List (List UInt8)} {w2 : World} (j : Nat) {W W' : World} {v : Value} (hb : Below W.heap.size W W') (h : rsF p11 nh c11 b off n c k qb Bs M w2 j W v) : rsF p11 nh c11 b off n c k qb Bs M w2 j W' v := by
  match j, h with
  | 0, h | 1, h | 2, h | 3, h | 4, h => exact h
  | 5, ⟨g, h1, h2, h3⟩ => exact ⟨g, h1, (hb.block g (Array.getElem?_eq_some_iff.1 h2).1).trans h2, h3⟩
  | 6, ⟨p', c', h1, h2⟩ => exact ⟨p', c', h1, h2.belowed hb⟩
  | n + 7, h => exact h.elim
def rsT (w2 : World) (row : Option Nat) (f : Nat → Bool) (W : World) : Prop := w2.grownBy W row ∧ (f 6 = false → Below w2.heap.size w2 W)
theorem walkRS (v0 : Value) (L : List (List UInt8)) (u : Value) (P : List (List UInt8)) (w : World) (hv : XS w v0 L) (hL : L.length ≤ maxLen) (hu : XS w u P) (hP : P.length ≤ maxLen) (hk : KX w) :
    Calls Tryz.prog 7 #[v0, u] w fun e w' => e = .returned (.bool true) ∧ Below w.heap.size w w' := by
  have WK := Lib.hid (fun W (h : KX W) => lw_works W h)
  have HNU := Lib.hid lw_num
  have HK := Lib.hid hk
  have hsq := seq_nil
  obtain ⟨i0, hi, hz0, hz1, hz2⟩ := info_parts (show (Tryz.prog.info? 9).map (fun i => (i.zero, i.size, i.bytes)) = some (some (.string ByteArray.empty), 1, 16) by kernel_rfl)
  obtain ⟨p0, c0, rfl⟩ := hv.slice
  obtain ⟨p1, c1, rfl⟩ := hu.slice
  obtain ⟨B, hB⟩ : ∃ B, w.heap.size = B := ⟨_, rfl⟩
  obtain ⟨w1, hw1⟩ : ∃ z, w.alloc (.cells #[.bool false] 4) = z := ⟨_, rfl⟩
  have HB1 : Hid (Below w.heap.size w w1) := Lib.hid (by rw [← hw1]; exact (Below.refl _ w).alloc (Nat.le_refl _) _)
  have HR1 : Hid (Boxed w1 B 4 (.bool false)) := Lib.hid (by rw [← hw1, ← hB]; exact Boxed.new w 4 (.bool false))
  have HZ1 := Lib.hid (show w1.heap.size = B + 1 by rw [← hw1, ← hB]; simp)
  have HBB := Lib.hid hB
  have HW1 := Lib.hid hw1
  have KS := Lib.hid (lw_short (.slice p0 L.length c0) L 8 60 w1 (hv.below HB1.out) hL (by omega) (by omega))
  have KS2 := Lib.hid (lw_short (.slice p1 P.length c1) P 12 40 w1 (hu.below HB1.out) hP (by omega) (by omega))
  obtain ⟨n, hn⟩ : ∃ n, L.length = n := ⟨_, rfl⟩
  obtain ⟨m1, hm1⟩ : ∃ n, P.length = n := ⟨_, rfl⟩
  have HN := Lib.hid hn
  have HM := Lib.hid hm1
  have HV : Hid (XS w (.slice p0 n c0) L) := Lib.hid (by rw [← hn]; exact hv)
  have HU : Hid (XS w (.slice p1 m1 c1) P) := Lib.hid (by rw [← hm1]; exact hu)
  obtain ⟨q1, hq1⟩ : ∃ q, isShort L 8 60 = q := ⟨_, rfl⟩
  obtain ⟨q2, hq2⟩ : ∃ q, isShort P 12 40 = q := ⟨_, rfl⟩
  have HS1 := Lib.hid hq1
  have HS2 := Lib.hid hq2
  rw [hq1, hn] at KS
  rw [hq2, hm1] at KS2
  rw [hn, hm1]
  clear hk hv hu hL hP hq1 hq2 hn hm1 hB hw1
  refine callsIn_wide.1 (callsIn_of_wp_marks (F := Fence.wide) (n := 9) Tryz.func7 rfl trivial ?_ rfl)
  simp only [Tryz.ntmps7, List.size_toArray, List.length_cons, List.length_nil, Nat.reduceAdd, Nat.reduceSub, Array.replicate_succ, Array.replicate_zero, List.push_toArray, List.append_toArray, List.nil_append, List.cons_append]
  refine wpIn_wide.2 ?_
  cases q1 with
  | false =>
    go_wp2_with fail
    rw [HW1.out, HBB.out]
    refine KS.out.mono ?_
    rintro e wx ⟨rfl, hwx⟩
    subst wx
    go_wp2_with fail
    refine (WK.out _ (HK.out.below HB1.out)).mono ?_
    rintro e w2 ⟨rfl, hb⟩
    have HB2 := Lib.hid (HB1.out.trans (hb.mono HB1.out.size))
    have HR2 : Hid (Boxed w2 B 4 (.bool false)) := Lib.hid ((hb.block _ HR1.out.lt).trans HR1.out)
    clear hb
    have cR := HR2.out.cell
    have fR := HR2.out.frozen
    go_wp2_with fail
    have c0 := (HR2.out.set (.bool true)).cell
    refine ⟨.bool true, ?_, rfl, HB2.out.setCell (p := ⟨B, 0, none⟩) (by rw [HBB.out]; exact Nat.le_refl _) _⟩
    simp [results, Tryz.results7, go_sem, c0]
  | true =>
    cases q2 with
    | false =>
      go_wp2_with fail
      rw [HW1.out, HBB.out]
      refine KS.out.mono ?_
      rintro e wx ⟨rfl, hwx⟩
      subst wx
      go_wp2_with fail
      refine KS2.out.mono ?_
      rintro e wx ⟨rfl, hwx⟩
      subst wx
      go_wp2_with fail
      refine (WK.out _ (HK.out.below HB1.out)).mono ?_
      rintro e w2 ⟨rfl, hb⟩
      have HB2 := Lib.hid (HB1.out.trans (hb.mono HB1.out.size))
      have HR2 : Hid (Boxed w2 B 4 (.bool false)) := Lib.hid ((hb.block _ HR1.out.lt).trans HR1.out)
      clear hb
      have cR := HR2.out.cell
      have fR := HR2.out.frozen
      go_wp2_with fail
      have c0 := (HR2.out.set (.bool true)).cell
      refine ⟨.bool true, ?_, rfl, HB2.out.setCell (p := ⟨B, 0, none⟩) (by rw [HBB.out]; exact Nat.le_refl _) _⟩
      simp [results, Tryz.results7, go_sem, c0]
    | true =>
      have hn8 : n ≤ 8 := by have := (of_decide_eq_true HS1.out).1; rw [HN.out] at this; exact this
      have hm12 : m1 ≤ 12 := by have := (of_decide_eq_true HS2.out).1; rw [HM.out] at this; exact this
      have HSZ := Lib.hid (show ∀ s ∈ L, s.length ≤ 60 from (of_decide_eq_true HS1.out).2)
      have KNW := Lib.hid (rt_NewB (.slice none 0 0) [] w1 (xs_nil _) (by simp) (by simp) (HK.out.below HB1.out))
      go_wp2_with fail
      rw [HW1.out, HBB.out]
      refine KS.out.mono ?_
      rintro e wx ⟨rfl, hwx⟩
      subst wx
      go_wp2_with fail
      refine KS2.out.mono ?_
      rintro e wx ⟨rfl, hwx⟩
      subst wx
      go_wp2_with fail
      refine KNW.out.mono ?_
      rintro e w2 ⟨ho, hb⟩
      obtain ⟨T, vt, rfl, ht, hT⟩ : ∃ T vt, e = .returned (.tuple #[.pointer (some ⟨T, 0, none⟩), .int .i64 0]) ∧ TBB w2 T w1.heap.size vt [] ∧ w1.heap.size ≤ T := by
        rcases ho with ⟨R, T, vt, _, h3, h4, h5, h6⟩ | ⟨_, h3, _⟩ | ⟨h3, _⟩
        · rw [Gt.all_nil] at h3; cases h3; exact ⟨T, vt, h4, h5, h6⟩
        · cases h3
        · simp at h3
      obtain ⟨Bs, hBs⟩ : ∃ z, w1.heap.size = z := ⟨_, rfl⟩
      have HBS := Lib.hid hBs
      have HZB := Lib.hid (show Bs = B + 1 by rw [← hBs]; exact HZ1.out)
      have HBSw := Lib.hid (show w.heap.size ≤ Bs by rw [← hBs]; exact HB1.out.size)
      rw [hBs] at ht hT
      have HTW := Lib.hid hT
      have HB2 := Lib.hid (HB1.out.trans (hb.mono HB1.out.size))
      have HR2 : Hid (Boxed w2 B 4 (.bool false)) := Lib.hid ((hb.block _ HR1.out.lt).trans HR1.out)
      obtain ⟨H, hH⟩ : ∃ z, w2.heap.size = z := ⟨_, rfl⟩
      obtain ⟨w3, hw3⟩ : ∃ z, w2.alloc (.cells #[.slice none 0 0] 41) = z := ⟨_, rfl⟩
      have hb3 : Below w2.heap.size w2 w3 := by rw [← hw3]; exact (Below.refl _ _).alloc (Nat.le_refl _) _
      have HT3 := Lib.hid (ht.below hb3)
      have HB3 := Lib.hid (HB2.out.trans (hb3.mono HB2.out.size))
      have HR3 : Hid (Boxed w3 B 4 (.bool false)) := Lib.hid ((hb3.block _ HR2.out.lt).trans HR2.out)
      have HX3 : Hid (Boxed w3 H 41 (.slice none 0 0)) := Lib.hid (by rw [← hw3, ← hH]; exact Boxed.new _ _ _)
      have HBH := Lib.hid (show B < H by rw [← hH]; exact HR2.out.lt)
      have HBSz := Lib.hid (show Bs ≤ w3.heap.size by rw [← hBs]; exact Nat.le_trans hb.size hb3.size)
      have HTH := Lib.hid (show T < H by rw [← hH]; exact (Array.getElem?_eq_some_iff.1 ht.1).1)
      have HW3 := Lib.hid hw3
      have HHH := Lib.hid hH
      clear ho hb ht hT KNW KS KS2 hb3 hw3 hH hBs
      go_wp2_with fail
      rw [HW3.out, HHH.out]
      go_loopw [8] (fun i wr => ∃ (k : Nat) (Ls : List (List Ro.Pt)) (vt hv : Value), k ≤ n ∧ i = .int .i64 k ∧ Gt.all? Ro.parse (pats (L.take k)) = some Ls ∧ TBB wr T Bs vt Ls ∧ wr.ownsRow Bs 9 1 hv (pats (L.take k)).length ((pats (L.take k)).map sv) ∧ Boxed wr H 41 hv ∧ Boxed wr B 4 (.bool false) ∧ Below w.heap.size w wr ∧ Bs ≤ wr.heap.size)
        (fun i _ => n - (intOf i).toNat)
      case atStart => exact ⟨0, [], vt, .slice none 0 0, Nat.zero_le _, rfl, rfl, HT3.out, World.ownsRow_nil _ _ _ _, HX3.out, HR3.out, HB3.out, HBSz.out⟩
      case round =>
        obtain ⟨k, Ls, vk, hv, hk, rfl, hall, htk, hown, hbx, hbr, hbl, hbs⟩ := hrel
        obtain ⟨hs, hhs⟩ : ∃ z, pats (L.take k) = z := ⟨_, rfl⟩
        rw [hhs] at hall hown
        have HHS := Lib.hid hhs
        have HLE := Lib.hid (Gt.all_length hall)
        obtain ⟨p11, c11, rfl⟩ := own_slP hown
        obtain ⟨nh, hnh⟩ : ∃ z, hs.length = z := ⟨_, rfl⟩
        have HNH := Lib.hid hnh
        rw [hnh] at hown hbx
        have HALL := Lib.hid hall
        have HTK := Lib.hid htk
        have HOW := Lib.hid hown
        have HBX := Lib.hid hbx
        have HBR := Lib.hid hbr
        have HBL := Lib.hid hbl
        have HBZ := Lib.hid hbs
        have hnk : nh ≤ k := by rw [← hnh, ← hhs]; exact Nat.le_trans (pats_len _) (by rw [List.length_take]; omega)
        clear hall htk hown hbx hbr hbl hbs hhs hnh
        by_cases hlt : k < n
        · have hI1 : ((k : Int) < (n : Int)) := by omega
          have HLK := Lib.hid (show k < L.length by rw [HN.out]; exact hlt)
          obtain ⟨b, off, rfl, hc⟩ := HV.out.cells HLK.out
          have HBlt := Lib.hid (show b < w.heap.size from lt_of_cell (hc k HLK.out))
          have x0 := (HBL.out.cell (p := ⟨b, off + k, none⟩) HBlt.out).trans (hc k HLK.out)
          obtain ⟨q, hq⟩ : ∃ q, L.getD k [] = q := ⟨_, rfl⟩
          rw [hq] at x0
          obtain ⟨qb, hqb, hql⟩ := sv_is q
          rw [hqb] at x0
          have HQL := Lib.hid hql
          have HQ := Lib.hid hq
          have HQZ := Lib.hid (show q.length ≤ 60 by rw [← hq, getD_is L [] k HLK.out]; exact HSZ.out _ (List.getElem_mem _))
          have HSS := Lib.hid (show qb.size ≤ 30000 by have h := HQZ.out; rw [← hql] at h; exact Nat.le_trans h (by omega))
          have KA := Lib.hid (rt_Add T Bs vk Ls qb wr HTK.out (by rw [HLE.out, HNH.out]; omega) HBZ.out HSS.out (HK.out.below HBL.out))
          rw [HQL.out] at KA
          clear hc hq hqb hql
          cases hp : Ro.parse q with
          | none =>
            rw [hp] at KA
            have HP := Lib.hid hp
            clear hp
            go_wp2_with fail
            refine KA.out.mono ?_
            rintro e w4 ho
            obtain ⟨rfl, hb⟩ : e = .returned (.tuple #[.int .i64 0, .int .i64 360]) ∧ Below wr.heap.size wr w4 := by
              rcases ho with ⟨_, _, _, h, _⟩ | ⟨_, _, h, h2⟩ | ⟨h, _⟩
              · cases h
              · exact ⟨h, h2⟩
              · rw [HLE.out, HNH.out] at h; omega
            have HT4 := Lib.hid (HTK.out.below hb)
            have HOW4 := Lib.hid (HOW.out.belowed hb)
            have HX4 : Hid (Boxed w4 H 41 (.slice p11 nh c11)) := Lib.hid ((hb.block _ HBX.out.lt).trans HBX.out)
            have HR4 : Hid (Boxed w4 B 4 (.bool false)) := Lib.hid ((hb.block _ HBR.out.lt).trans HBR.out)
            have HB4 := Lib.hid (HBL.out.trans (hb.mono HBL.out.size))
            have HBS4 := Lib.hid (Nat.le_trans HBZ.out hb.size)
            have HPM := Lib.hid (show pats (L.take (k + 1)) = hs by rw [pats_more HLK.out, HQ.out, HP.out, HHS.out]; exact List.append_nil _)
            clear ho hb KA x0
            go_wp2_with fail
            refine (HNU.out 360 w4 (by omega)).mono ?_
            rintro e wx ⟨rfl, hwx⟩
            subst wx
            go_wp2_with fail
            try go_roundw
            case rel => exact ⟨k + 1, Ls, vk, _, hlt, by go_num, by rw [HPM.out]; exact HALL.out, HT4.out, by rw [HPM.out, HNH.out]; exact HOW4.out, HX4.out, HR4.out, HB4.out, HBS4.out⟩
            case measure => simp [intOf]; omega
          | some ql =>
            rw [hp] at KA
            have HP := Lib.hid hp
            clear hp
            go_wp2_with fail
            refine KA.out.mono ?_
            rintro e w4 ho
            obtain ⟨v3, rfl, ht3, hak⟩ : ∃ v3, e = .returned (.tuple #[.int .i64 nh, .int .i64 0]) ∧ TBB w4 T Bs v3 (Ls ++ [ql]) ∧ AK wr T vk w4 := by
              rcases ho with ⟨_, L', v3, h1, h2, h3, _, h5⟩ | ⟨_, h, _⟩ | ⟨h, _⟩
              · cases h1
                rw [HLE.out, HNH.out] at h2
                exact ⟨v3, h2, h3, h5⟩
              · cases h
              · rw [HLE.out, HNH.out] at h; omega
            have HT4 := Lib.hid ht3
            have HOW4 := Lib.hid (hak.row HTK.out HOW.out (by decide) (by decide))
            have HX4 := Lib.hid (show Boxed w4 H 41 (.slice p11 nh c11) from hak.blk HTK.out HBX.out (by decide) (by decide))
            have HR4 := Lib.hid (show Boxed w4 B 4 (.bool false) from hak.blk HTK.out HBR.out (by decide) (by decide))
            have hbk := hak.below HBL.out.size (Nat.le_trans HBSw.out HTW.out) (fun k hk => Nat.le_trans HBSw.out (HTK.out.2.own k hk))
            have HB4 := Lib.hid (HBL.out.trans hbk)
            have XQ4 := Lib.hid ((hbk.cell (p := ⟨b, off + k, none⟩) HBlt.out).trans x0)
            have HBS4 := Lib.hid (Nat.le_trans HBZ.out hak.size)
            have HN4 := Lib.hid (show nh ≤ 8 by omega)
            have HPM := Lib.hid (show pats (L.take (k + 1)) = hs ++ [q] by rw [pats_more HLK.out, HQ.out, HP.out, HHS.out]; rfl)
            have HAL2 := Lib.hid (show Gt.all? Ro.parse (hs ++ [q]) = some (Ls ++ [ql]) from Ro.all_append HALL.out (by rw [Gt.all_some HP.out]; rfl))
            clear ho ht3 hak KA x0 hbk
            have cH := HX4.out.cell
            have r1 : ((nh : Int) != (nh : Int)) = false := bne_self_eq_false _
            go_wp2_with fail
            refine (HNU.out 0 w4 (by omega)).mono ?_
            rintro e wx ⟨rfl, hwx⟩
            subst wx
            go_upto_region 12 with (fail)
            clear cH
            refine region_last2 7 (fun i => 55 + min i 6) (rsF p11 nh c11 b off n c0 k qb Bs (hs ++ [q]) w4) (rsT w4 (Value.slice p11 nh c11).ownBlock) (by kernel_rfl) (by kernel_rfl) rfl (by kernel_rfl) (fun i => by show 55 + min i 6 < _; simp; omega) (fun i j hi hj h => by have h : 55 + min i 6 = 55 + min j 6 := h; omega) ?start ?dst ?step ?last
            case dst =>
              intro i o hi ho
              match i, hi, ho with
              | 0, _, ho => cases ho; rfl
              | 1, _, ho => cases ho; rfl
              | 2, _, ho => cases ho; rfl
              | 3, _, ho => cases ho; rfl
              | 4, _, ho => cases ho; rfl
              | 5, _, ho => cases ho; rfl
              | 6, _, ho => cases ho; rfl
              | n + 7, hi, _ => exact absurd hi (by omega)
            case step =>
              intro f a' W i o hib ho hfi hpre hT hrest
              match i, hib, ho with
              | 0, _, ho =>
                cases ho
                have q7 : a'.tmps.getD 7 undef = .pointer (some ⟨H, 0, none⟩) := (hrest 7 (by intro i hi; show 55 + min i 6 ≠ _; omega))
                have hbH : Boxed W H 41 (.slice p11 nh c11) := (hT.1.block H HX4.out.lt (own_cells HOW4.out (by decide) HX4.out)).trans HX4.out
                have x0 := hbH.cell
                have e7 := rg_ev q7
                exact rg_same2 (.slice p11 nh c11) (by unfold Oper.wp execOp; go_simp; all_goals ((try simp only [e7]); (try go_simp); (try rw [if_pos (by omega)]); (try rw [if_neg (by omega)]); first | done | rfl | exact ⟨rfl, rfl⟩ | trivial)) rfl (⟨hT.1, fun h => hT.2 (by simpa using h)⟩)
              | 1, _, ho =>
                cases ho
                have q0 : a'.tmps.getD 0 undef = .slice (some ⟨b, off, none⟩) n c0 := (hrest 0 (by intro i hi; show 55 + min i 6 ≠ _; omega))
                have e0 := rg_ev q0
                exact rg_same2 (.slice (some ⟨b, off, none⟩) n c0) (by unfold Oper.wp execOp; go_simp; all_goals ((try simp only [e0]); (try go_simp); (try rw [if_pos (by omega)]); (try rw [if_neg (by omega)]); first | done | rfl | exact ⟨rfl, rfl⟩ | trivial)) rfl (⟨hT.1, fun h => hT.2 (by simpa using h)⟩)
              | 2, _, ho =>
                cases ho
                have q8 : a'.tmps.getD 8 undef = .int .i64 k := (hrest 8 (by intro i hi; show 55 + min i 6 ≠ _; omega))
                have e8 := rg_ev q8
                exact rg_same2 (.int .i64 k) (by unfold Oper.wp execOp; go_simp; all_goals ((try simp only [e8]); (try go_simp); (try rw [if_pos (by omega)]); (try rw [if_neg (by omega)]); first | done | rfl | exact ⟨rfl, rfl⟩ | trivial)) rfl (⟨hT.1, fun h => hT.2 (by simpa using h)⟩)
              | 3, _, ho =>
                cases ho
                have f56 := (hpre { on := 1, ground := .data } (by simp) rfl).1
                have q56 : a'.tmps.getD 56 undef = .slice (some ⟨b, off, none⟩) n c0 := (hpre { on := 1, ground := .data } (by simp) rfl).2
                have f57 := (hpre { on := 2, ground := .data } (by simp) rfl).1
                have q57 : a'.tmps.getD 57 undef = .int .i64 k := (hpre { on := 2, ground := .data } (by simp) rfl).2
                have e56 := rg_ev q56
                have e57 := rg_ev q57
                exact rg_same2 (.pointer (some ⟨b, off + k, none⟩)) (by unfold Oper.wp execOp; go_simp; all_goals ((try simp only [e56, e57]); (try go_simp); (try rw [if_pos (by omega)]); (try rw [if_neg (by omega)]); first | done | rfl | exact ⟨rfl, rfl⟩ | trivial)) rfl (⟨hT.1, fun h => hT.2 (by simpa using h)⟩)
              | 4, _, ho =>
                cases ho
                have f58 := (hpre { on := 3, ground := .data } (by simp) rfl).1
                have q58 : a'.tmps.getD 58 undef = .pointer (some ⟨b, off + k, none⟩) := (hpre { on := 3, ground := .data } (by simp) rfl).2
                have x0 : W.cell? ⟨b, off + k, none⟩ = some (.string qb) := (World.cell?_of_block (a := ⟨b, off + k, none⟩) (hT.1.block b (lt_of_cell XQ4.out) (fun e => by have h1 := own_geP HOW4.out b e.symm; have h2 := HBSw.out; have h3 := HBlt.out; omega))).trans XQ4.out
                have e58 := rg_ev q58
                exact rg_same2 (.string qb) (by unfold Oper.wp execOp; go_simp; all_goals ((try simp only [e58]); (try go_simp); (try rw [if_pos (by omega)]); (try rw [if_neg (by omega)]); first | done | rfl | exact ⟨rfl, rfl⟩ | trivial)) rfl (⟨hT.1, fun h => hT.2 (by simpa using h)⟩)
              | 5, _, ho =>
                cases ho
                have f59 := (hpre { on := 4, ground := .data } (by simp) rfl).1
                have q59 : a'.tmps.getD 59 undef = .string qb := (hpre { on := 4, ground := .data } (by simp) rfl).2
                have e59 := rg_ev q59
                have ha := (Below.refl W.heap.size W).alloc (Nat.le_refl _) (.cells #[.string qb] 9)
                unfold Oper.wp execOp
                go_simp
                (try simp only [e59])
                (try go_simp)
                exact ⟨_, rfl, ⟨W.heap.size, rfl, World.alloc_heap_new _ _, hT.1.size⟩, ⟨⟨ha.os.trans hT.1.os, ha.tape.trans hT.1.tape, ha.output.trans hT.1.output, Nat.le_trans hT.1.size ha.size, fun k hk hne => (ha.block k (Nat.lt_of_lt_of_le hk hT.1.size)).trans (hT.1.block k hk hne)⟩, fun h => (hT.2 h).trans (ha.mono hT.1.size)⟩, fun j v' _ hF => rsF_below j ha hF⟩
              | 6, _, ho =>
                cases ho
                have f55 := (hpre { on := 0, ground := .data } (by simp) rfl).1
                have q55 : a'.tmps.getD 55 undef = .slice p11 nh c11 := (hpre { on := 0, ground := .data } (by simp) rfl).2
                have f60 := (hpre { on := 5, ground := .data } (by simp) rfl).1
                have h60 := (hpre { on := 5, ground := .data } (by simp) rfl).2
                obtain ⟨g, q60, hg, hgw⟩ := h60
                have hbl := hT.2 hfi
                have hrow := HOW4.out.belowed hbl
                have q55b : a'.eval (.tmp 55) = .slice p11 nh c11 := q55
                have q60b : a'.eval (.tmp 60) = .slice (some ⟨g, 0, none⟩) 1 1 := q60
                refine wp_append_blk _ _ 41 rfl Bs 9 i0 (.string ByteArray.empty) 1 16 Tryz.underlying41 hi hz0 hz1 hz2 rfl (by decide) _ nh (hs.map sv) q55b hrow ⟨g, 0, none⟩ 1 1 [.string qb] q60b rfl ?_ ?_ (by have := HN4.out; unfold maxLen; omega) (by have := HN4.out; omega) (Nat.le_trans HBS4.out hbl.size) ?_
                · intro j u hj
                  match j, hj with
                  | 0, hj => simp at hj; subst hj; simp [Addr.add, World.cell?, hg]
                · intro u hu; simp at hu; subst hu; rfl
                · intro v' w' hown' hgrow hblk
                  have hr2 : w'.ownsRow Bs 9 1 v' (nh + 1) ((hs ++ [q]).map sv) := by
                    rw [List.map_append]
                    show w'.ownsRow Bs 9 1 v' (nh + 1) (_ ++ [sv q])
                    rw [show sv q = .string qb by rw [← HQL.out]; rfl]
                    exact hown'
                  obtain ⟨p', c', rfl⟩ := own_slP hr2
                  refine ⟨_, rfl, ⟨p', c', rfl, hr2⟩, ⟨⟨hgrow.os.trans hbl.os, hgrow.tape.trans hbl.tape, hgrow.output.trans hbl.output, Nat.le_trans hbl.size hgrow.size, fun k hk hne => (hgrow.block k (Nat.lt_of_lt_of_le hk hbl.size) hne).trans (hbl.block k hk)⟩, fun h => by simp at h⟩, fun j u hj hF => ?_⟩
                  match j, hF with
                  | 0, h | 1, h | 2, h | 3, h | 4, h => exact h
                  | 5, ⟨g2, h1, h2, h3⟩ => exact ⟨g2, h1, (hgrow.block g2 (Array.getElem?_eq_some_iff.1 h2).1 (fun e => by have := (HOW4.out.lt g2 e.symm).2; omega)).trans h2, h3⟩
                  | 6, h => rw [hfi] at hj; cases hj
                  | n + 7, h => exact h.elim
              | n + 7, hib, _ => exact absurd hib (by omega)
            case last =>
              intro f vs W oL ho hall hT hvs
              have hopL : oL.op = Op.store 41 (.tmp 7) (.tmp 61) := by cases ho; rfl
              have hdsL : oL.dst = none := by cases ho; rfl
              clear ho hall
              have v0 : vs 0 = .slice p11 nh c11 := hvs 0 (by decide)
              have v1 : vs 1 = .slice (some ⟨b, off, none⟩) n c0 := hvs 1 (by decide)
              have v2 : vs 2 = .int .i64 k := hvs 2 (by decide)
              have v3 : vs 3 = .pointer (some ⟨b, off + k, none⟩) := hvs 3 (by decide)
              have v4 : vs 4 = .string qb := hvs 4 (by decide)
              obtain ⟨y5, v5, w5⟩ : ∃ z, vs 5 = z ∧ rsF p11 nh c11 b off n c0 k qb Bs (hs ++ [q]) w4 5 W z := ⟨_, rfl, hvs 5 (by decide)⟩
              obtain ⟨y6, v6, w6⟩ : ∃ z, vs 6 = z ∧ rsF p11 nh c11 b off n c0 k qb Bs (hs ++ [q]) w4 6 W z := ⟨_, rfl, hvs 6 (by decide)⟩
              simp only [fillN, List.size_toArray, List.length_cons, List.length_nil, Nat.reduceAdd, show List.range 7 = [0, 1, 2, 3, 4, 5, 6] from rfl, List.foldl_cons, List.foldl_nil, show 55 + min 0 6 = 55 from rfl, show 55 + min 1 6 = 56 from rfl, show 55 + min 2 6 = 57 from rfl, show 55 + min 3 6 = 58 from rfl, show 55 + min 4 6 = 59 from rfl, show 55 + min 5 6 = 60 from rfl, show 55 + min 6 6 = 61 from rfl, v0, v1, v2, v3, v4, v5, v6]
              clear v0 v1 v2 v3 v4 v5 v6 hvs
              obtain ⟨p', c', rfl, hr2⟩ := w6
              have hgr := hT.1
              have hbH : Boxed W H 41 (.slice p11 nh c11) := (hgr.block H HX4.out.lt (own_cells HOW4.out (by decide) HX4.out)).trans HX4.out
              have c0 := hbH.cell
              have z0 := hbH.frozen
              have hTB : TBB W T Bs v3 (Ls ++ [ql]) := HT4.out.grownS HOW4.out hgr
              have R1 := Lib.hid (own_setT hr2 hbH (by decide) 0 (.slice p' (nh + 1) c'))
              have R2 := Lib.hid (hbH.set (.slice p' (nh + 1) c'))
              have R3 := Lib.hid (hTB.set1 hbH (by decide) (by decide) (by decide) 0 (.slice p' (nh + 1) c'))
              have R4 := Lib.hid (show Boxed (W.setCell ⟨H, 0, none⟩ (.slice p' (nh + 1) c')) B 4 (.bool false) from Boxed.other ((hgr.block B HR4.out.lt (own_cells HOW4.out (by decide) HR4.out)).trans HR4.out) (by have := HBH.out; omega) _)
              have R5 := Lib.hid (show Below w.heap.size w (W.setCell ⟨H, 0, none⟩ (.slice p' (nh + 1) c')) from (HB4.out.trans ⟨hgr.os, hgr.tape, hgr.output, hgr.size, fun k hk => hgr.block k (Nat.lt_of_lt_of_le hk HB4.out.size) (fun e => by have h1 := own_geP HOW4.out k e.symm; have h2 := HBSw.out; omega)⟩).setCell (p := ⟨H, 0, none⟩) (by have := HBH.out; have := HBB.out; show w.heap.size ≤ H; omega) _)
              have R6 := Lib.hid (show Bs ≤ (W.setCell ⟨H, 0, none⟩ (.slice p' (nh + 1) c')).heap.size from Nat.le_trans (Nat.le_trans HBS4.out hgr.size) (KeepsWalks.setCell W _ _).size)
              clear hgr hbH hTB hr2 hT
              unfold Oper.wp execOp
              simp only [hopL, hdsL]
              go_simp
              go_wp2_with fail
              try go_roundw
              case rel => exact ⟨k + 1, Ls ++ [ql], v3, _, hlt, by go_num, by rw [HPM.out]; exact HAL2.out, R3.out, by rw [HPM.out, List.length_append, HNH.out]; exact R1.out, R2.out, R4.out, R5.out, R6.out⟩
              case measure => simp [intOf]; omega
            case start => exact ⟨⟨rfl, rfl, rfl, Nat.le_refl _, fun _ _ _ => rfl⟩, fun _ => (Below.refl _ _).drew⟩
        · have HKE := Lib.hid (show pats L = hs by have h := HHS.out; rw [List.take_of_length_le (by rw [HN.out]; omega)] at h; exact h)
          have hlt' : ¬ ((k : Int) < (n : Int)) := by omega
          have HSMA := Lib.hid (show Small Ls from small_of HALL.out (by rw [HNH.out]; omega) (by intro z hz; rw [← HKE.out] at hz; exact Nat.le_trans (HSZ.out z (pats_mem hz)) (by omega)))
          have HH30 := Lib.hid (show ∀ z ∈ hs, z.length ≤ 30000 from by intro z hz; rw [← HKE.out] at hz; exact Nat.le_trans (HSZ.out z (pats_mem hz)) (by omega))
          have HNH8 := Lib.hid (show nh ≤ 8 by omega)
          have KF := Lib.hid (rt_Find T (.slice p1 m1 c1) Ls P wr HTK.out.tb (HU.out.below HBL.out) HSMA.out (by rw [HM.out]; omega))
          unfold fdOut at KF
          obtain ⟨pl, hpl⟩ : ∃ z, Ro.place (fun L => Ro.fits L P) Ls = z := ⟨_, rfl⟩
          have HPLC := Lib.hid hpl
          rw [hpl] at KF
          obtain ⟨f1, hf1⟩ : ∃ z : Int, max 0 pl = z := ⟨_, rfl⟩
          obtain ⟨g1, hg1⟩ : ∃ z, decide (0 ≤ pl) = z := ⟨_, rfl⟩
          have HF1 := Lib.hid hf1
          have HG1 := Lib.hid hg1
          rw [hf1, hg1] at KF
          clear hpl hf1 hg1
          go_wp2_with fail
          refine KF.out.mono ?_
          rintro e w4 ⟨rfl, hb⟩
          have HT4 := Lib.hid (HTK.out.tb.below hb)
          have HOW4 := Lib.hid (HOW.out.belowed hb)
          have HX4 : Hid (Boxed w4 H 41 (.slice p11 nh c11)) := Lib.hid ((hb.block _ HBX.out.lt).trans HBX.out)
          have HR4 : Hid (Boxed w4 B 4 (.bool false)) := Lib.hid ((hb.block _ HBR.out.lt).trans HBR.out)
          have HB4 := Lib.hid (HBL.out.trans (hb.mono HBL.out.size))
          clear hb KF
          obtain ⟨A, hA⟩ : ∃ z, w4.heap.size = z := ⟨_, rfl⟩
          obtain ⟨V, hV⟩ : ∃ z, (w4.alloc (.cells #[.int .i64 f1] 3)).alloc (.cells #[.bool g1] 4) = z := ⟨_, rfl⟩
          have hb : Below w4.heap.size w4 V := by rw [← hV]; exact ((Below.refl _ _).alloc (Nat.le_refl _) _).alloc (by simp) _
          have HAT : Hid (Boxed V A 3 (.int .i64 f1)) := Lib.hid (by rw [← hV, ← hA]; exact (Boxed.new _ _ _).alloc _)
          have HIS : Hid (Boxed V (A + 1) 4 (.bool g1)) := Lib.hid (by
            have h := Boxed.new (w4.alloc (.cells #[.int .i64 f1] 3)) 4 (.bool g1)
            simp only [World.size_alloc, hA] at h
            rw [← hV]; exact h)
          have HTV := Lib.hid (HT4.out.below hb)
          have HXS := Lib.hid (XS.of' (HOW4.out.belowed hb) HNH.out.symm)
          have HXV : Hid (Boxed V H 41 (.slice p11 nh c11)) := Lib.hid ((hb.block _ HX4.out.lt).trans HX4.out)
          have HRV : Hid (Boxed V B 4 (.bool false)) := Lib.hid ((hb.block _ HR4.out.lt).trans HR4.out)
          have HBV := Lib.hid (HB4.out.trans (hb.mono HB4.out.size))
          have HVE := Lib.hid hV
          have HAE := Lib.hid hA
          clear hb hA hV HT4 HOW4 HX4 HR4
          have HBOX := Lib.hid (show ∀ W, Below V.heap.size V W → W.cell? ⟨H, 0, none⟩ = some (.slice p11 nh c11) ∧ W.cell? ⟨A, 0, none⟩ = some (.int .i64 f1) ∧ W.cell? ⟨A + 1, 0, none⟩ = some (.bool g1) from fun W h =>
            ⟨(show Boxed W H _ _ from (h.block _ HXV.out.lt).trans HXV.out).cell, (show Boxed W A _ _ from (h.block _ HAT.out.lt).trans HAT.out).cell, (show Boxed W (A + 1) _ _ from (h.block _ HIS.out.lt).trans HIS.out).cell⟩)
          have HTXT := Lib.hid (show ∀ j, j < nh → ∃ (bh oh : Nat) (t : ByteArray), p11 = some ⟨bh, oh, none⟩ ∧ t.data.toList = hs.getD j [] ∧ t.size ≤ 30000 ∧ Ro.parse t.data.toList = some (Ls.getD j []) ∧ ∀ W, Below V.heap.size V W → W.cell? ⟨bh, oh + j, none⟩ = some (.string t) by
            intro j hj
            have hjl : j < hs.length := by rw [HNH.out]; exact hj
            obtain ⟨bh, oh, he, hc⟩ := HXS.out.cells hjl
            obtain ⟨t, ht, htl⟩ := sv_is (hs.getD j [])
            refine ⟨bh, oh, t, he, htl, ?_, ?_, fun W h => ?_⟩
            · have h1 := HH30.out _ (List.getElem_mem hjl)
              rw [← getD_is hs [] j hjl, ← htl] at h1
              exact h1
            · obtain ⟨h1, h2⟩ := all_at HALL.out j hjl
              rw [htl, getD_is hs [] j hjl, h2, getD_is Ls [] j h1]
            · have h1 := hc j hjl
              rw [ht] at h1
              exact (h.cell (p := ⟨bh, oh + j, none⟩) (lt_of_cell h1)).trans h1)
          go_wp2_with fail
          rw [HVE.out, HAE.out]
          have hcx := (HBOX.out V (Below.refl _ _)).1
          go_loopw [13] (fun i wr => ∃ i' : Nat, i' ≤ nh ∧ i = .int .i64 i' ∧ Below V.heap.size V wr) (fun i _ => nh - (intOf i).toNat)
          case atStart => exact ⟨0, Nat.zero_le _, rfl, Below.refl _ _⟩
          case round =>
            obtain ⟨ia, hi2, rfl, hbi⟩ := hrel
            have HBI := Lib.hid hbi
            clear hcx
            have hcx := (HBOX.out wr hbi).1
            clear hbi
            by_cases hli : ia < nh
            · have hI2 : ((ia : Int) < (nh : Int)) := by omega
              obtain ⟨bh, oh, ti, rfl, htl, hts, htp, htc⟩ := HTXT.out ia hli
              have x0 := htc wr HBI.out
              have HTI := Lib.hid (show ti.data.toList = hs.getD ia [] ∧ ti.size ≤ 30000 ∧ Ro.parse ti.data.toList = some (Ls.getD ia []) ∧ ∀ W, Below V.heap.size V W → W.cell? ⟨bh, oh + ia, none⟩ = some (.string ti) from ⟨htl, hts, htp, htc⟩)
              have KFT := Lib.hid (rt_Fits ti (.slice p1 m1 c1) P wr hts (HU.out.below (HBV.out.trans (HBI.out.mono HBV.out.size))) (by rw [HM.out]; omega) (HK.out.below (HBV.out.trans (HBI.out.mono HBV.out.size))))
              rw [Ro.fitsT_some htp] at KFT
              obtain ⟨x, hx⟩ : ∃ z, Ro.fits (Ls.getD ia []) P = z := ⟨_, rfl⟩
              have HX := Lib.hid hx
              rw [hx] at KFT
              clear htl hts htp htc hx
              go_wp2_with fail
              refine KFT.out.mono ?_
              rintro e w6 ⟨rfl, hb⟩
              have HB6 := Lib.hid (HBI.out.trans (hb.mono HBI.out.size))
              clear hb KFT x0 hcx
              obtain ⟨_, ca, cs⟩ := HBOX.out w6 HB6.out
              go_upto_region 18 with (fail)
              go_cut [101] from 68 to 145 (fun s101 wx => s101 = .bool false ∧ wx = w6)
              case first =>
                have hLl : ia < Ls.length := by rw [HLE.out, HNH.out]; exact hli
                cases x with
                | true =>
                  obtain ⟨h1, h2⟩ := Ro.place_le (g := fun L => Ro.fits L P) hLl HX.out
                  rw [HPLC.out] at h1 h2
                  have hg : g1 = true := by rw [← HG1.out]; exact decide_eq_true h1
                  have hf : ¬ ((ia : Int) < f1) := by rw [← HF1.out]; omega
                  subst hg
                  clear h1 h2
                  go_wp2_with fail
                  go_meet
                  exact ⟨rfl, rfl⟩
                | false =>
                  cases g1 with
                  | true =>
                    have hne : ¬ (f1 = (ia : Int)) := by
                      intro h
                      have h1 := of_decide_eq_true HG1.out
                      have h2 := Ro.place_g (g := fun L => Ro.fits L P) (Ls := Ls) (by rw [HPLC.out]; exact h1)
                      rw [HPLC.out] at h2
                      have h3 : pl.toNat = ia := by have h4 := HF1.out; omega
                      rw [h3] at h2
                      have h4 := HX.out
                      have h5 : Ro.fits (Ls.getD ia []) P = true := h2
                      rw [h4] at h5
                      cases h5
                    have hq : (f1 == (ia : Int)) = false := beq_eq_false_iff_ne.2 hne
                    go_wp2_with fail
                    go_meet
                    exact ⟨rfl, rfl⟩
                  | false =>
                    go_wp2_with fail
                    go_meet
                    exact ⟨rfl, rfl⟩
              case rest =>
                obtain ⟨rfl, hw⟩ := hcut
                have hw2 := hw.symm
                subst hw2
                clear ca cs
                have hcx := (HBOX.out w6 HB6.out).1
                go_wp2_with fail
                go_loopw [15] (fun kk wr => ∃ k' : Nat, k' ≤ nh ∧ kk = .int .i64 k' ∧ Below V.heap.size V wr) (fun kk _ => nh - (intOf kk).toNat)
                case atStart => exact ⟨0, Nat.zero_le _, rfl, HB6.out⟩
                case round =>
                  obtain ⟨kq, hkq, rfl, hbk⟩ := hrel
                  have HBK := Lib.hid hbk
                  clear hcx
                  have hcx := (HBOX.out wr hbk).1
                  clear hbk
                  by_cases hlk : kq < nh
                  · have hI3 : ((kq : Int) < (nh : Int)) := by omega
                    go_wp2_with fail
                    go_loopw [16] (fun mm wr => ∃ m' : Nat, m' ≤ nh ∧ mm = .int .i64 m' ∧ Below V.heap.size V wr) (fun mm _ => nh - (intOf mm).toNat)
                    case atStart => exact ⟨0, Nat.zero_le _, rfl, HBK.out⟩
                    case round =>
                      obtain ⟨mq, hmq, rfl, hbm⟩ := hrel
                      have HBM := Lib.hid hbm
                      clear hcx
                      have hcx := (HBOX.out wr hbm).1
                      clear hbm
                      by_cases hlm : mq < nh
                      · have hI4 : ((mq : Int) < (nh : Int)) := by omega
                        obtain ⟨bh2, oh2, tk, he, htl, hts, htp, htc⟩ := HTXT.out kq hlk
                        cases he
                        have HTK2 := Lib.hid (show tk.data.toList = hs.getD kq [] ∧ tk.size ≤ 30000 ∧ Ro.parse tk.data.toList = some (Ls.getD kq []) ∧ ∀ W, Below V.heap.size V W → W.cell? ⟨bh, oh + kq, none⟩ = some (.string tk) from ⟨htl, hts, htp, htc⟩)
                        clear htl hts htp htc
                        obtain ⟨bh2, oh2, tm, he, htl, hts, htp, htc⟩ := HTXT.out mq hlm
                        cases he
                        have HTM := Lib.hid (show tm.data.toList = hs.getD mq [] ∧ tm.size ≤ 30000 ∧ Ro.parse tm.data.toList = some (Ls.getD mq []) ∧ ∀ W, Below V.heap.size V W → W.cell? ⟨bh, oh + mq, none⟩ = some (.string tm) from ⟨htl, hts, htp, htc⟩)
                        clear htl hts htp htc
                        obtain ⟨d1, hd1⟩ : ∃ z, Ro.covers (Ls.getD ia []) (Ls.getD kq []) = z := ⟨_, rfl⟩
                        obtain ⟨d2, hd2⟩ : ∃ z, Ro.covers (Ls.getD kq []) (Ls.getD mq []) = z := ⟨_, rfl⟩
                        obtain ⟨d3, hd3⟩ : ∃ z, Ro.covers (Ls.getD ia []) (Ls.getD mq []) = z := ⟨_, rfl⟩
                        have HDT := Lib.hid (show d1 = true → d2 = true → d3 = true from fun h1 h2 => by rw [← hd3]; exact Ro.covers_trans (hd1.trans h1) (hd2.trans h2))
                        have KC1 := Lib.hid (show ∀ W, Below V.heap.size V W → Calls Tryz.prog 22 #[.string ti, .string tk] W fun e w' => e = .returned (.bool d1) ∧ Below W.heap.size W w' from fun W h => by
                          have h1 := rt_Covers ti tk W HTI.out.2.1 HTK2.out.2.1 (HK.out.below (HBV.out.trans (h.mono HBV.out.size)))
                          rw [Ro.coversT_some HTI.out.2.2.1 HTK2.out.2.2.1, hd1] at h1
                          exact h1)
                        have KC2 := Lib.hid (show ∀ W, Below V.heap.size V W → Calls Tryz.prog 22 #[.string tk, .string tm] W fun e w' => e = .returned (.bool d2) ∧ Below W.heap.size W w' from fun W h => by
                          have h1 := rt_Covers tk tm W HTK2.out.2.1 HTM.out.2.1 (HK.out.below (HBV.out.trans (h.mono HBV.out.size)))
                          rw [Ro.coversT_some HTK2.out.2.2.1 HTM.out.2.2.1, hd2] at h1
                          exact h1)
                        have KC3 := Lib.hid (show ∀ W, Below V.heap.size V W → Calls Tryz.prog 22 #[.string ti, .string tm] W fun e w' => e = .returned (.bool d3) ∧ Below W.heap.size W w' from fun W h => by
                          have h1 := rt_Covers ti tm W HTI.out.2.1 HTM.out.2.1 (HK.out.below (HBV.out.trans (h.mono HBV.out.size)))
                          rw [Ro.coversT_some HTI.out.2.2.1 HTM.out.2.2.1, hd3] at h1
                          exact h1)
                        clear hd1 hd2 hd3
                        go_upto_region 26 with (fail)
                        go_cut [145] from 108 to 145 (fun s145 wx => s145 = .bool false ∧ Below V.heap.size V wx)
                        case first =>
                          clear hcx
                          cases d1 with
                          | false =>
                            refine region_slotsH (fun i => 114 + min i 31) (rkA bh oh nh c11 ia kq mq ti tk tm) (fun i => ([true, true, true, true, true, true, true, true, true, true, false, false, false, false, false, false, false, false, false, true, true, false, false, false, false, false, false, false, false, false, false, true] : List Bool).getD i true) (by kernel_rfl) (by kernel_rfl) (fun i => by show 114 + min i 31 < _; simp; omega) (fun i j hi hj h => by have hi : i < 32 := hi; have hj : j < 32 := hj; omega) ?mono ?dst ?gu ?ng ?skip ?step ?done
                            case mono =>
                              intro i W W' v h hbw
                              match i, h with
                              | 0, h | 1, h | 2, h | 3, h | 4, h | 5, h | 6, h | 7, h | 8, h | 9, h | 10, h | 11, h | 12, h | 13, h | 14, h | 15, h | 16, h | 17, h | 18, h | 19, h | 20, h | 21, h | 22, h | 23, h | 24, h | 25, h | 26, h | 27, h | 28, h | 29, h | 30, h | 31, h => exact h
                              | n + 32, h => exact h.elim
                            case dst =>
                              intro i o ho
                              match i, ho with
                              | 0, ho | 1, ho | 2, ho | 3, ho | 4, ho | 5, ho | 6, ho | 7, ho | 8, ho | 9, ho | 10, ho | 11, ho | 12, ho | 13, ho | 14, ho | 15, ho | 16, ho | 17, ho | 18, ho | 19, ho | 20, ho | 21, ho | 22, ho | 23, ho | 24, ho | 25, ho | 26, ho | 27, ho | 28, ho | 29, ho | 30, ho | 31, ho => cases ho; rfl
                              | n + 32, ho => exact absurd ho (by simp)
                            case gu =>
                              intro i o g b ho hgd W v hv
                              match i, ho with
                              | 0, ho => cases ho; cases hgd
                              | 1, ho => cases ho; cases hgd
                              | 2, ho => cases ho; cases hgd
                              | 3, ho => cases ho; cases hgd
                              | 4, ho => cases ho; cases hgd
                              | 5, ho => cases ho; cases hgd
                              | 6, ho => cases ho; cases hgd
                              | 7, ho => cases ho; cases hgd
                              | 8, ho => cases ho; cases hgd
                              | 9, ho => cases ho; cases hgd
                              | 10, ho => cases ho; cases hgd; first | exact .inl hv | exact .inr ⟨rfl, hv⟩
                              | 11, ho => cases ho; cases hgd; first | exact .inl hv | exact .inr ⟨rfl, hv⟩
                              | 12, ho => cases ho; cases hgd; first | exact .inl hv | exact .inr ⟨rfl, hv⟩
                              | 13, ho => cases ho; cases hgd; first | exact .inl hv | exact .inr ⟨rfl, hv⟩
                              | 14, ho => cases ho; cases hgd; first | exact .inl hv | exact .inr ⟨rfl, hv⟩
                              | 15, ho => cases ho; cases hgd; first | exact .inl hv | exact .inr ⟨rfl, hv⟩
                              | 16, ho => cases ho; cases hgd; first | exact .inl hv | exact .inr ⟨rfl, hv⟩
                              | 17, ho => cases ho; cases hgd; first | exact .inl hv | exact .inr ⟨rfl, hv⟩
                              | 18, ho => cases ho; cases hgd; first | exact .inl hv | exact .inr ⟨rfl, hv⟩
                              | 19, ho => cases ho; cases hgd
                              | 20, ho => cases ho; cases hgd
                              | 21, ho => cases ho; cases hgd; first | exact .inl hv | exact .inr ⟨rfl, hv⟩
                              | 22, ho => cases ho; cases hgd; first | exact .inl hv | exact .inr ⟨rfl, hv⟩
                              | 23, ho => cases ho; cases hgd; first | exact .inl hv | exact .inr ⟨rfl, hv⟩
                              | 24, ho => cases ho; cases hgd; first | exact .inl hv | exact .inr ⟨rfl, hv⟩
                              | 25, ho => cases ho; cases hgd; first | exact .inl hv | exact .inr ⟨rfl, hv⟩
                              | 26, ho => cases ho; cases hgd; first | exact .inl hv | exact .inr ⟨rfl, hv⟩
                              | 27, ho => cases ho; cases hgd; first | exact .inl hv | exact .inr ⟨rfl, hv⟩
                              | 28, ho => cases ho; cases hgd; first | exact .inl hv | exact .inr ⟨rfl, hv⟩
                              | 29, ho => cases ho; cases hgd; first | exact .inl hv | exact .inr ⟨rfl, hv⟩
                              | 30, ho => cases ho; cases hgd; first | exact .inl hv | exact .inr ⟨rfl, hv⟩
                              | 31, ho => cases ho; cases hgd
                              | n + 32, ho => exact absurd ho (by simp)
                            case ng =>
                              intro i o ho hgd
                              match i, ho with
                              | 0, ho => cases ho; first | rfl | cases hgd
                              | 1, ho => cases ho; first | rfl | cases hgd
                              | 2, ho => cases ho; first | rfl | cases hgd
                              | 3, ho => cases ho; first | rfl | cases hgd
                              | 4, ho => cases ho; first | rfl | cases hgd
                              | 5, ho => cases ho; first | rfl | cases hgd
                              | 6, ho => cases ho; first | rfl | cases hgd
                              | 7, ho => cases ho; first | rfl | cases hgd
                              | 8, ho => cases ho; first | rfl | cases hgd
                              | 9, ho => cases ho; first | rfl | cases hgd
                              | 10, ho => cases ho; first | rfl | cases hgd
                              | 11, ho => cases ho; first | rfl | cases hgd
                              | 12, ho => cases ho; first | rfl | cases hgd
                              | 13, ho => cases ho; first | rfl | cases hgd
                              | 14, ho => cases ho; first | rfl | cases hgd
                              | 15, ho => cases ho; first | rfl | cases hgd
                              | 16, ho => cases ho; first | rfl | cases hgd
                              | 17, ho => cases ho; first | rfl | cases hgd
                              | 18, ho => cases ho; first | rfl | cases hgd
                              | 19, ho => cases ho; first | rfl | cases hgd
                              | 20, ho => cases ho; first | rfl | cases hgd
                              | 21, ho => cases ho; first | rfl | cases hgd
                              | 22, ho => cases ho; first | rfl | cases hgd
                              | 23, ho => cases ho; first | rfl | cases hgd
                              | 24, ho => cases ho; first | rfl | cases hgd
                              | 25, ho => cases ho; first | rfl | cases hgd
                              | 26, ho => cases ho; first | rfl | cases hgd
                              | 27, ho => cases ho; first | rfl | cases hgd
                              | 28, ho => cases ho; first | rfl | cases hgd
                              | 29, ho => cases ho; first | rfl | cases hgd
                              | 30, ho => cases ho; first | rfl | cases hgd
                              | 31, ho => cases ho; first | rfl | cases hgd
                              | n + 32, ho => exact absurd ho (by simp)
                            case skip =>
                              intro i W hi hsel
                              match i, hi, hsel with
                              | 0, _, hsel => first | exact absurd hsel (by decide) | rfl
                              | 1, _, hsel => first | exact absurd hsel (by decide) | rfl
                              | 2, _, hsel => first | exact absurd hsel (by decide) | rfl
                              | 3, _, hsel => first | exact absurd hsel (by decide) | rfl
                              | 4, _, hsel => first | exact absurd hsel (by decide) | rfl
                              | 5, _, hsel => first | exact absurd hsel (by decide) | rfl
                              | 6, _, hsel => first | exact absurd hsel (by decide) | rfl
                              | 7, _, hsel => first | exact absurd hsel (by decide) | rfl
                              | 8, _, hsel => first | exact absurd hsel (by decide) | rfl
                              | 9, _, hsel => first | exact absurd hsel (by decide) | rfl
                              | 10, _, hsel => first | exact absurd hsel (by decide) | rfl
                              | 11, _, hsel => first | exact absurd hsel (by decide) | rfl
                              | 12, _, hsel => first | exact absurd hsel (by decide) | rfl
                              | 13, _, hsel => first | exact absurd hsel (by decide) | rfl
                              | 14, _, hsel => first | exact absurd hsel (by decide) | rfl
                              | 15, _, hsel => first | exact absurd hsel (by decide) | rfl
                              | 16, _, hsel => first | exact absurd hsel (by decide) | rfl
                              | 17, _, hsel => first | exact absurd hsel (by decide) | rfl
                              | 18, _, hsel => first | exact absurd hsel (by decide) | rfl
                              | 19, _, hsel => first | exact absurd hsel (by decide) | rfl
                              | 20, _, hsel => first | exact absurd hsel (by decide) | rfl
                              | 21, _, hsel => first | exact absurd hsel (by decide) | rfl
                              | 22, _, hsel => first | exact absurd hsel (by decide) | rfl
                              | 23, _, hsel => first | exact absurd hsel (by decide) | rfl
                              | 24, _, hsel => first | exact absurd hsel (by decide) | rfl
                              | 25, _, hsel => first | exact absurd hsel (by decide) | rfl
                              | 26, _, hsel => first | exact absurd hsel (by decide) | rfl
                              | 27, _, hsel => first | exact absurd hsel (by decide) | rfl
                              | 28, _, hsel => first | exact absurd hsel (by decide) | rfl
                              | 29, _, hsel => first | exact absurd hsel (by decide) | rfl
                              | 30, _, hsel => first | exact absurd hsel (by decide) | rfl
                              | 31, _, hsel => first | exact absurd hsel (by decide) | rfl
                              | n + 32, hi, _ => exact absurd hi (by simp)
                            case step =>
                              intro f a' W i o ho hsel hpre hbel hrest
                              match i, ho, hsel with
                              | 0, ho, _ =>
                                cases ho
                                have q7 : a'.tmps.getD 7 undef = .pointer (some ⟨H, 0, none⟩) := (hrest 7 (by intro i hi; have hi : i < 32 := hi; show 114 + min i 31 ≠ _; omega))
                                have x0 := (HBOX.out W (HBM.out.trans (hbel.mono HBM.out.size))).1
                                have e7 := rg_ev q7
                                exact rg_same (.slice (some ⟨bh, oh, none⟩) nh c11) (by unfold Oper.wp execOp; go_simp; all_goals ((try simp only [e7]); (try go_simp); (try rw [if_pos (by omega)]); (try rw [if_neg (by omega)]); first | done | rfl | exact ⟨rfl, rfl⟩ | trivial)) rfl
                              | 1, ho, _ =>
                                cases ho
                                have q13 : a'.tmps.getD 13 undef = .int .i64 ia := (hrest 13 (by intro i hi; have hi : i < 32 := hi; show 114 + min i 31 ≠ _; omega))
                                have e13 := rg_ev q13
                                exact rg_same (.int .i64 ia) (by unfold Oper.wp execOp; go_simp; all_goals ((try simp only [e13]); (try go_simp); (try rw [if_pos (by omega)]); (try rw [if_neg (by omega)]); first | done | rfl | exact ⟨rfl, rfl⟩ | trivial)) rfl
                              | 2, ho, _ =>
                                cases ho
                                have q114 : a'.tmps.getD 114 undef = .slice (some ⟨bh, oh, none⟩) nh c11 := (hpre { on := 0, ground := .data } (by simp) rfl)
                                have q115 : a'.tmps.getD 115 undef = .int .i64 ia := (hpre { on := 1, ground := .data } (by simp) rfl)
                                have e114 := rg_ev q114
                                have e115 := rg_ev q115
                                exact rg_same (.pointer (some ⟨bh, oh + ia, none⟩)) (by unfold Oper.wp execOp; go_simp; all_goals ((try simp only [e114, e115]); (try go_simp); (try rw [if_pos (by omega)]); (try rw [if_neg (by omega)]); first | done | rfl | exact ⟨rfl, rfl⟩ | trivial)) rfl
                              | 3, ho, _ =>
                                cases ho
                                have q116 : a'.tmps.getD 116 undef = .pointer (some ⟨bh, oh + ia, none⟩) := (hpre { on := 2, ground := .data } (by simp) rfl)
                                have x0 := HTI.out.2.2.2 W (HBM.out.trans (hbel.mono HBM.out.size))
                                have e116 := rg_ev q116
                                exact rg_same (.string ti) (by unfold Oper.wp execOp; go_simp; all_goals ((try simp only [e116]); (try go_simp); (try rw [if_pos (by omega)]); (try rw [if_neg (by omega)]); first | done | rfl | exact ⟨rfl, rfl⟩ | trivial)) rfl
                              | 4, ho, _ =>
                                cases ho
                                have q7 : a'.tmps.getD 7 undef = .pointer (some ⟨H, 0, none⟩) := (hrest 7 (by intro i hi; have hi : i < 32 := hi; show 114 + min i 31 ≠ _; omega))
                                have x0 := (HBOX.out W (HBM.out.trans (hbel.mono HBM.out.size))).1
                                have e7 := rg_ev q7
                                exact rg_same (.slice (some ⟨bh, oh, none⟩) nh c11) (by unfold Oper.wp execOp; go_simp; all_goals ((try simp only [e7]); (try go_simp); (try rw [if_pos (by omega)]); (try rw [if_neg (by omega)]); first | done | rfl | exact ⟨rfl, rfl⟩ | trivial)) rfl
                              | 5, ho, _ =>
                                cases ho
                                have q15 : a'.tmps.getD 15 undef = .int .i64 kq := (hrest 15 (by intro i hi; have hi : i < 32 := hi; show 114 + min i 31 ≠ _; omega))
                                have e15 := rg_ev q15
                                exact rg_same (.int .i64 kq) (by unfold Oper.wp execOp; go_simp; all_goals ((try simp only [e15]); (try go_simp); (try rw [if_pos (by omega)]); (try rw [if_neg (by omega)]); first | done | rfl | exact ⟨rfl, rfl⟩ | trivial)) rfl
                              | 6, ho, _ =>
                                cases ho
                                have q118 : a'.tmps.getD 118 undef = .slice (some ⟨bh, oh, none⟩) nh c11 := (hpre { on := 4, ground := .data } (by simp) rfl)
                                have q119 : a'.tmps.getD 119 undef = .int .i64 kq := (hpre { on := 5, ground := .data } (by simp) rfl)
                                have e118 := rg_ev q118
                                have e119 := rg_ev q119
                                exact rg_same (.pointer (some ⟨bh, oh + kq, none⟩)) (by unfold Oper.wp execOp; go_simp; all_goals ((try simp only [e118, e119]); (try go_simp); (try rw [if_pos (by omega)]); (try rw [if_neg (by omega)]); first | done | rfl | exact ⟨rfl, rfl⟩ | trivial)) rfl
                              | 7, ho, _ =>
                                cases ho
                                have q120 : a'.tmps.getD 120 undef = .pointer (some ⟨bh, oh + kq, none⟩) := (hpre { on := 6, ground := .data } (by simp) rfl)
                                have x0 := HTK2.out.2.2.2 W (HBM.out.trans (hbel.mono HBM.out.size))
                                have e120 := rg_ev q120
                                exact rg_same (.string tk) (by unfold Oper.wp execOp; go_simp; all_goals ((try simp only [e120]); (try go_simp); (try rw [if_pos (by omega)]); (try rw [if_neg (by omega)]); first | done | rfl | exact ⟨rfl, rfl⟩ | trivial)) rfl
                              | 8, ho, _ =>
                                cases ho
                                have q117 : a'.tmps.getD 117 undef = .string ti := (hpre { on := 3, ground := .data } (by simp) rfl)
                                have q121 : a'.tmps.getD 121 undef = .string tk := (hpre { on := 7, ground := .data } (by simp) rfl)
                                exact rg_call2 117 121 22 _ _ _ _ rfl q117 q121 (enters_of Tryz.func22 (by kernel_rfl) rfl) (KC1.out W (HBM.out.trans (hbel.mono HBM.out.size))) (fun e w' h => by
                                  obtain ⟨rfl, hb⟩ := h
                                  exact ⟨_, rfl, _, rfl, rfl, hb⟩)
                              | 9, ho, _ =>
                                cases ho
                                have q122 : a'.tmps.getD 122 undef = .bool false := (hpre { on := 8, ground := .data } (by simp) rfl)
                                have e122 := rg_ev q122
                                exact rg_same (.bool false) (by unfold Oper.wp execOp; go_simp; all_goals ((try simp only [e122]); (try go_simp); (try rw [if_pos (by omega)]); (try rw [if_neg (by omega)]); first | done | rfl | exact ⟨rfl, rfl⟩ | trivial)) rfl
                              | 10, ho, hsel => exact absurd hsel (by decide)
                              | 11, ho, hsel => exact absurd hsel (by decide)
                              | 12, ho, hsel => exact absurd hsel (by decide)
                              | 13, ho, hsel => exact absurd hsel (by decide)
                              | 14, ho, hsel => exact absurd hsel (by decide)
                              | 15, ho, hsel => exact absurd hsel (by decide)
                              | 16, ho, hsel => exact absurd hsel (by decide)
                              | 17, ho, hsel => exact absurd hsel (by decide)
                              | 18, ho, hsel => exact absurd hsel (by decide)
                              | 19, ho, _ =>
                                cases ho
                                have q123 : a'.tmps.getD 123 undef = .bool false := (hpre { on := 9, ground := .data } (by simp) rfl)
                                have q132 : a'.tmps.getD 132 undef = undef := (hpre { on := 18, ground := .data } (by simp) rfl)
                                have e123 := rg_ev q123
                                have e132 := rg_ev q132
                                exact rg_same (.bool false) (by unfold Oper.wp execOp; go_simp; all_goals ((try simp only [e123, e132]); (try go_simp); (try rw [if_pos (by omega)]); (try rw [if_neg (by omega)]); first | done | rfl | exact ⟨rfl, rfl⟩ | trivial)) rfl
                              | 20, ho, _ =>
                                cases ho
                                have q133 : a'.tmps.getD 133 undef = .bool false := (hpre { on := 19, ground := .data } (by simp) rfl)
                                have e133 := rg_ev q133
                                exact rg_same (.bool false) (by unfold Oper.wp execOp; go_simp; all_goals ((try simp only [e133]); (try go_simp); (try rw [if_pos (by omega)]); (try rw [if_neg (by omega)]); first | done | rfl | exact ⟨rfl, rfl⟩ | trivial)) rfl
                              | 21, ho, hsel => exact absurd hsel (by decide)
                              | 22, ho, hsel => exact absurd hsel (by decide)
                              | 23, ho, hsel => exact absurd hsel (by decide)
                              | 24, ho, hsel => exact absurd hsel (by decide)
                              | 25, ho, hsel => exact absurd hsel (by decide)
                              | 26, ho, hsel => exact absurd hsel (by decide)
                              | 27, ho, hsel => exact absurd hsel (by decide)
                              | 28, ho, hsel => exact absurd hsel (by decide)
                              | 29, ho, hsel => exact absurd hsel (by decide)
                              | 30, ho, hsel => exact absurd hsel (by decide)
                              | 31, ho, _ =>
                                cases ho
                                have q134 : a'.tmps.getD 134 undef = .bool false := (hpre { on := 20, ground := .data } (by simp) rfl)
                                have q144 : a'.tmps.getD 144 undef = undef := (hpre { on := 30, ground := .data } (by simp) rfl)
                                have e134 := rg_ev q134
                                have e144 := rg_ev q144
                                exact rg_same (.bool false) (by unfold Oper.wp execOp; go_simp; all_goals ((try simp only [e134, e144]); (try go_simp); (try rw [if_pos (by omega)]); (try rw [if_neg (by omega)]); first | done | rfl | exact ⟨rfl, rfl⟩ | trivial)) rfl
                              | n + 32, ho, _ => exact absurd ho (by simp)
                            case done =>
                              intro vs W hbel hvs
                              have v0 : vs 0 = .slice (some ⟨bh, oh, none⟩) nh c11 := hvs 0 (by decide)
                              have v1 : vs 1 = .int .i64 ia := hvs 1 (by decide)
                              have v2 : vs 2 = .pointer (some ⟨bh, oh + ia, none⟩) := hvs 2 (by decide)
                              have v3 : vs 3 = .string ti := hvs 3 (by decide)
                              have v4 : vs 4 = .slice (some ⟨bh, oh, none⟩) nh c11 := hvs 4 (by decide)
                              have v5 : vs 5 = .int .i64 kq := hvs 5 (by decide)
                              have v6 : vs 6 = .pointer (some ⟨bh, oh + kq, none⟩) := hvs 6 (by decide)
                              have v7 : vs 7 = .string tk := hvs 7 (by decide)
                              have v8 : vs 8 = .bool false := hvs 8 (by decide)
                              have v9 : vs 9 = .bool false := hvs 9 (by decide)
                              have v10 : vs 10 = undef := hvs 10 (by decide)
                              have v11 : vs 11 = undef := hvs 11 (by decide)
                              have v12 : vs 12 = undef := hvs 12 (by decide)
                              have v13 : vs 13 = undef := hvs 13 (by decide)
                              have v14 : vs 14 = undef := hvs 14 (by decide)
                              have v15 : vs 15 = undef := hvs 15 (by decide)
                              have v16 : vs 16 = undef := hvs 16 (by decide)
                              have v17 : vs 17 = undef := hvs 17 (by decide)
                              have v18 : vs 18 = undef := hvs 18 (by decide)
                              have v19 : vs 19 = .bool false := hvs 19 (by decide)
                              have v20 : vs 20 = .bool false := hvs 20 (by decide)
                              have v21 : vs 21 = undef := hvs 21 (by decide)
                              have v22 : vs 22 = undef := hvs 22 (by decide)
                              have v23 : vs 23 = undef := hvs 23 (by decide)
                              have v24 : vs 24 = undef := hvs 24 (by decide)
                              have v25 : vs 25 = undef := hvs 25 (by decide)
                              have v26 : vs 26 = undef := hvs 26 (by decide)
                              have v27 : vs 27 = undef := hvs 27 (by decide)
                              have v28 : vs 28 = undef := hvs 28 (by decide)
                              have v29 : vs 29 = undef := hvs 29 (by decide)
                              have v30 : vs 30 = undef := hvs 30 (by decide)
                              have v31 : vs 31 = .bool false := hvs 31 (by decide)
                              have HBR := Lib.hid hbel
                              simp only [fillN, List.size_toArray, List.length_cons, List.length_nil, Nat.reduceAdd, show List.range 32 = [0, 1, 2, 3, 4, 5, 6, 7, 8, 9, 10, 11, 12, 13, 14, 15, 16, 17, 18, 19, 20, 21, 22, 23, 24, 25, 26, 27, 28, 29, 30, 31] from rfl, List.foldl_cons, List.foldl_nil, show 114 + min 0 31 = 114 from rfl, show 114 + min 1 31 = 115 from rfl, show 114 + min 2 31 = 116 from rfl, show 114 + min 3 31 = 117 from rfl, show 114 + min 4 31 = 118 from rfl, show 114 + min 5 31 = 119 from rfl, show 114 + min 6 31 = 120 from rfl, show 114 + min 7 31 = 121 from rfl, show 114 + min 8 31 = 122 from rfl, show 114 + min 9 31 = 123 from rfl, show 114 + min 10 31 = 124 from rfl, show 114 + min 11 31 = 125 from rfl, show 114 + min 12 31 = 126 from rfl, show 114 + min 13 31 = 127 from rfl, show 114 + min 14 31 = 128 from rfl, show 114 + min 15 31 = 129 from rfl, show 114 + min 16 31 = 130 from rfl, show 114 + min 17 31 = 131 from rfl, show 114 + min 18 31 = 132 from rfl, show 114 + min 19 31 = 133 from rfl, show 114 + min 20 31 = 134 from rfl, show 114 + min 21 31 = 135 from rfl, show 114 + min 22 31 = 136 from rfl, show 114 + min 23 31 = 137 from rfl, show 114 + min 24 31 = 138 from rfl, show 114 + min 25 31 = 139 from rfl, show 114 + min 26 31 = 140 from rfl, show 114 + min 27 31 = 141 from rfl, show 114 + min 28 31 = 142 from rfl, show 114 + min 29 31 = 143 from rfl, show 114 + min 30 31 = 144 from rfl, show 114 + min 31 31 = 145 from rfl, v0, v1, v2, v3, v4, v5, v6, v7, v8, v9, v10, v11, v12, v13, v14, v15, v16, v17, v18, v19, v20, v21, v22, v23, v24, v25, v26, v27, v28, v29, v30, v31]
                              clear v0 v1 v2 v3 v4 v5 v6 v7 v8 v9 v10 v11 v12 v13 v14 v15 v16 v17 v18 v19 v20 v21 v22 v23 v24 v25 v26 v27 v28 v29 v30 v31 hvs hbel
                              go_simp
                              go_wp2_with fail
                              go_meet
                              exact ⟨rfl, HBM.out.trans (HBR.out.mono HBM.out.size)⟩
                          | true =>
                            cases d2 with
                            | false =>
                              refine region_slotsH (fun i => 114 + min i 31) (rkB bh oh nh c11 ia kq mq ti tk tm) (fun i => ([true, true, true, true, true, true, true, true, true, true, true, true, true, true, true, true, true, true, true, true, true, false, false, false, false, false, false, false, false, false, false, true] : List Bool).getD i true) (by kernel_rfl) (by kernel_rfl) (fun i => by show 114 + min i 31 < _; simp; omega) (fun i j hi hj h => by have hi : i < 32 := hi; have hj : j < 32 := hj; omega) ?mono ?dst ?gu ?ng ?skip ?step ?done
                              case mono =>
                                intro i W W' v h hbw
                                match i, h with
                                | 0, h | 1, h | 2, h | 3, h | 4, h | 5, h | 6, h | 7, h | 8, h | 9, h | 10, h | 11, h | 12, h | 13, h | 14, h | 15, h | 16, h | 17, h | 18, h | 19, h | 20, h | 21, h | 22, h | 23, h | 24, h | 25, h | 26, h | 27, h | 28, h | 29, h | 30, h | 31, h => exact h
                                | n + 32, h => exact h.elim
                              case dst =>
                                intro i o ho
                                match i, ho with
                                | 0, ho | 1, ho | 2, ho | 3, ho | 4, ho | 5, ho | 6, ho | 7, ho | 8, ho | 9, ho | 10, ho | 11, ho | 12, ho | 13, ho | 14, ho | 15, ho | 16, ho | 17, ho | 18, ho | 19, ho | 20, ho | 21, ho | 22, ho | 23, ho | 24, ho | 25, ho | 26, ho | 27, ho | 28, ho | 29, ho | 30, ho | 31, ho => cases ho; rfl
                                | n + 32, ho => exact absurd ho (by simp)
                              case gu =>
                                intro i o g b ho hgd W v hv
                                match i, ho with
                                | 0, ho => cases ho; cases hgd
                                | 1, ho => cases ho; cases hgd
                                | 2, ho => cases ho; cases hgd
                                | 3, ho => cases ho; cases hgd
                                | 4, ho => cases ho; cases hgd
                                | 5, ho => cases ho; cases hgd
                                | 6, ho => cases ho; cases hgd
                                | 7, ho => cases ho; cases hgd
                                | 8, ho => cases ho; cases hgd
                                | 9, ho => cases ho; cases hgd
                                | 10, ho => cases ho; cases hgd; first | exact .inl hv | exact .inr ⟨rfl, hv⟩
                                | 11, ho => cases ho; cases hgd; first | exact .inl hv | exact .inr ⟨rfl, hv⟩
                                | 12, ho => cases ho; cases hgd; first | exact .inl hv | exact .inr ⟨rfl, hv⟩
                                | 13, ho => cases ho; cases hgd; first | exact .inl hv | exact .inr ⟨rfl, hv⟩
                                | 14, ho => cases ho; cases hgd; first | exact .inl hv | exact .inr ⟨rfl, hv⟩
                                | 15, ho => cases ho; cases hgd; first | exact .inl hv | exact .inr ⟨rfl, hv⟩
                                | 16, ho => cases ho; cases hgd; first | exact .inl hv | exact .inr ⟨rfl, hv⟩
                                | 17, ho => cases ho; cases hgd; first | exact .inl hv | exact .inr ⟨rfl, hv⟩
                                | 18, ho => cases ho; cases hgd; first | exact .inl hv | exact .inr ⟨rfl, hv⟩
                                | 19, ho => cases ho; cases hgd
                                | 20, ho => cases ho; cases hgd
                                | 21, ho => cases ho; cases hgd; first | exact .inl hv | exact .inr ⟨rfl, hv⟩
                                | 22, ho => cases ho; cases hgd; first | exact .inl hv | exact .inr ⟨rfl, hv⟩
                                | 23, ho => cases ho; cases hgd; first | exact .inl hv | exact .inr ⟨rfl, hv⟩
                                | 24, ho => cases ho; cases hgd; first | exact .inl hv | exact .inr ⟨rfl, hv⟩
                                | 25, ho => cases ho; cases hgd; first | exact .inl hv | exact .inr ⟨rfl, hv⟩
                                | 26, ho => cases ho; cases hgd; first | exact .inl hv | exact .inr ⟨rfl, hv⟩
                                | 27, ho => cases ho; cases hgd; first | exact .inl hv | exact .inr ⟨rfl, hv⟩
                                | 28, ho => cases ho; cases hgd; first | exact .inl hv | exact .inr ⟨rfl, hv⟩
                                | 29, ho => cases ho; cases hgd; first | exact .inl hv | exact .inr ⟨rfl, hv⟩
                                | 30, ho => cases ho; cases hgd; first | exact .inl hv | exact .inr ⟨rfl, hv⟩
                                | 31, ho => cases ho; cases hgd
                                | n + 32, ho => exact absurd ho (by simp)
                              case ng =>
                                intro i o ho hgd
                                match i, ho with
                                | 0, ho => cases ho; first | rfl | cases hgd
                                | 1, ho => cases ho; first | rfl | cases hgd
                                | 2, ho => cases ho; first | rfl | cases hgd
                                | 3, ho => cases ho; first | rfl | cases hgd
                                | 4, ho => cases ho; first | rfl | cases hgd
                                | 5, ho => cases ho; first | rfl | cases hgd
                                | 6, ho => cases ho; first | rfl | cases hgd
                                | 7, ho => cases ho; first | rfl | cases hgd
                                | 8, ho => cases ho; first | rfl | cases hgd
                                | 9, ho => cases ho; first | rfl | cases hgd
                                | 10, ho => cases ho; first | rfl | cases hgd
                                | 11, ho => cases ho; first | rfl | cases hgd
                                | 12, ho => cases ho; first | rfl | cases hgd
                                | 13, ho => cases ho; first | rfl | cases hgd
                                | 14, ho => cases ho; first | rfl | cases hgd
                                | 15, ho => cases ho; first | rfl | cases hgd
                                | 16, ho => cases ho; first | rfl | cases hgd
                                | 17, ho => cases ho; first | rfl | cases hgd
                                | 18, ho => cases ho; first | rfl | cases hgd
                                | 19, ho => cases ho; first | rfl | cases hgd
                                | 20, ho => cases ho; first | rfl | cases hgd
                                | 21, ho => cases ho; first | rfl | cases hgd
                                | 22, ho => cases ho; first | rfl | cases hgd
                                | 23, ho => cases ho; first | rfl | cases hgd
                                | 24, ho => cases ho; first | rfl | cases hgd
                                | 25, ho => cases ho; first | rfl | cases hgd
                                | 26, ho => cases ho; first | rfl | cases hgd
                                | 27, ho => cases ho; first | rfl | cases hgd
                                | 28, ho => cases ho; first | rfl | cases hgd
                                | 29, ho => cases ho; first | rfl | cases hgd
                                | 30, ho => cases ho; first | rfl | cases hgd
                                | 31, ho => cases ho; first | rfl | cases hgd
                                | n + 32, ho => exact absurd ho (by simp)
                              case skip =>
                                intro i W hi hsel
                                match i, hi, hsel with
                                | 0, _, hsel => first | exact absurd hsel (by decide) | rfl
                                | 1, _, hsel => first | exact absurd hsel (by decide) | rfl
                                | 2, _, hsel => first | exact absurd hsel (by decide) | rfl
                                | 3, _, hsel => first | exact absurd hsel (by decide) | rfl
                                | 4, _, hsel => first | exact absurd hsel (by decide) | rfl
                                | 5, _, hsel => first | exact absurd hsel (by decide) | rfl
                                | 6, _, hsel => first | exact absurd hsel (by decide) | rfl
                                | 7, _, hsel => first | exact absurd hsel (by decide) | rfl
                                | 8, _, hsel => first | exact absurd hsel (by decide) | rfl
                                | 9, _, hsel => first | exact absurd hsel (by decide) | rfl
                                | 10, _, hsel => first | exact absurd hsel (by decide) | rfl
                                | 11, _, hsel => first | exact absurd hsel (by decide) | rfl
                                | 12, _, hsel => first | exact absurd hsel (by decide) | rfl
                                | 13, _, hsel => first | exact absurd hsel (by decide) | rfl
                                | 14, _, hsel => first | exact absurd hsel (by decide) | rfl
                                | 15, _, hsel => first | exact absurd hsel (by decide) | rfl
                                | 16, _, hsel => first | exact absurd hsel (by decide) | rfl
                                | 17, _, hsel => first | exact absurd hsel (by decide) | rfl
                                | 18, _, hsel => first | exact absurd hsel (by decide) | rfl
                                | 19, _, hsel => first | exact absurd hsel (by decide) | rfl
                                | 20, _, hsel => first | exact absurd hsel (by decide) | rfl
                                | 21, _, hsel => first | exact absurd hsel (by decide) | rfl
                                | 22, _, hsel => first | exact absurd hsel (by decide) | rfl
                                | 23, _, hsel => first | exact absurd hsel (by decide) | rfl
                                | 24, _, hsel => first | exact absurd hsel (by decide) | rfl
                                | 25, _, hsel => first | exact absurd hsel (by decide) | rfl
                                | 26, _, hsel => first | exact absurd hsel (by decide) | rfl
                                | 27, _, hsel => first | exact absurd hsel (by decide) | rfl
                                | 28, _, hsel => first | exact absurd hsel (by decide) | rfl
                                | 29, _, hsel => first | exact absurd hsel (by decide) | rfl
                                | 30, _, hsel => first | exact absurd hsel (by decide) | rfl
                                | 31, _, hsel => first | exact absurd hsel (by decide) | rfl
                                | n + 32, hi, _ => exact absurd hi (by simp)
                              case step =>
                                intro f a' W i o ho hsel hpre hbel hrest
                                match i, ho, hsel with
                                | 0, ho, _ =>
                                  cases ho
                                  have q7 : a'.tmps.getD 7 undef = .pointer (some ⟨H, 0, none⟩) := (hrest 7 (by intro i hi; have hi : i < 32 := hi; show 114 + min i 31 ≠ _; omega))
                                  have x0 := (HBOX.out W (HBM.out.trans (hbel.mono HBM.out.size))).1
                                  have e7 := rg_ev q7
                                  exact rg_same (.slice (some ⟨bh, oh, none⟩) nh c11) (by unfold Oper.wp execOp; go_simp; all_goals ((try simp only [e7]); (try go_simp); (try rw [if_pos (by omega)]); (try rw [if_neg (by omega)]); first | done | rfl | exact ⟨rfl, rfl⟩ | trivial)) rfl
                                | 1, ho, _ =>
                                  cases ho
                                  have q13 : a'.tmps.getD 13 undef = .int .i64 ia := (hrest 13 (by intro i hi; have hi : i < 32 := hi; show 114 + min i 31 ≠ _; omega))
                                  have e13 := rg_ev q13
                                  exact rg_same (.int .i64 ia) (by unfold Oper.wp execOp; go_simp; all_goals ((try simp only [e13]); (try go_simp); (try rw [if_pos (by omega)]); (try rw [if_neg (by omega)]); first | done | rfl | exact ⟨rfl, rfl⟩ | trivial)) rfl
                                | 2, ho, _ =>
                                  cases ho
                                  have q114 : a'.tmps.getD 114 undef = .slice (some ⟨bh, oh, none⟩) nh c11 := (hpre { on := 0, ground := .data } (by simp) rfl)
                                  have q115 : a'.tmps.getD 115 undef = .int .i64 ia := (hpre { on := 1, ground := .data } (by simp) rfl)
                                  have e114 := rg_ev q114
                                  have e115 := rg_ev q115
                                  exact rg_same (.pointer (some ⟨bh, oh + ia, none⟩)) (by unfold Oper.wp execOp; go_simp; all_goals ((try simp only [e114, e115]); (try go_simp); (try rw [if_pos (by omega)]); (try rw [if_neg (by omega)]); first | done | rfl | exact ⟨rfl, rfl⟩ | trivial)) rfl
                                | 3, ho, _ =>
                                  cases ho
                                  have q116 : a'.tmps.getD 116 undef = .pointer (some ⟨bh, oh + ia, none⟩) := (hpre { on := 2, ground := .data } (by simp) rfl)
                                  have x0 := HTI.out.2.2.2 W (HBM.out.trans (hbel.mono HBM.out.size))
                                  have e116 := rg_ev q116
                                  exact rg_same (.string ti) (by unfold Oper.wp execOp; go_simp; all_goals ((try simp only [e116]); (try go_simp); (try rw [if_pos (by omega)]); (try rw [if_neg (by omega)]); first | done | rfl | exact ⟨rfl, rfl⟩ | trivial)) rfl
                                | 4, ho, _ =>
                                  cases ho
                                  have q7 : a'.tmps.getD 7 undef = .pointer (some ⟨H, 0, none⟩) := (hrest 7 (by intro i hi; have hi : i < 32 := hi; show 114 + min i 31 ≠ _; omega))
                                  have x0 := (HBOX.out W (HBM.out.trans (hbel.mono HBM.out.size))).1
                                  have e7 := rg_ev q7
                                  exact rg_same (.slice (some ⟨bh, oh, none⟩) nh c11) (by unfold Oper.wp execOp; go_simp; all_goals ((try simp only [e7]); (try go_simp); (try rw [if_pos (by omega)]); (try rw [if_neg (by omega)]); first | done | rfl | exact ⟨rfl, rfl⟩ | trivial)) rfl
                                | 5, ho, _ =>
                                  cases ho
                                  have q15 : a'.tmps.getD 15 undef = .int .i64 kq := (hrest 15 (by intro i hi; have hi : i < 32 := hi; show 114 + min i 31 ≠ _; omega))
                                  have e15 := rg_ev q15
                                  exact rg_same (.int .i64 kq) (by unfold Oper.wp execOp; go_simp; all_goals ((try simp only [e15]); (try go_simp); (try rw [if_pos (by omega)]); (try rw [if_neg (by omega)]); first | done | rfl | exact ⟨rfl, rfl⟩ | trivial)) rfl
                                | 6, ho, _ =>
                                  cases ho
                                  have q118 : a'.tmps.getD 118 undef = .slice (some ⟨bh, oh, none⟩) nh c11 := (hpre { on := 4, ground := .data } (by simp) rfl)
                                  have q119 : a'.tmps.getD 119 undef = .int .i64 kq := (hpre { on := 5, ground := .data } (by simp) rfl)
                                  have e118 := rg_ev q118
                                  have e119 := rg_ev q119
                                  exact rg_same (.pointer (some ⟨bh, oh + kq, none⟩)) (by unfold Oper.wp execOp; go_simp; all_goals ((try simp only [e118, e119]); (try go_simp); (try rw [if_pos (by omega)]); (try rw [if_neg (by omega)]); first | done | rfl | exact ⟨rfl, rfl⟩ | trivial)) rfl
                                | 7, ho, _ =>
                                  cases ho
                                  have q120 : a'.tmps.getD 120 undef = .pointer (some ⟨bh, oh + kq, none⟩) := (hpre { on := 6, ground := .data } (by simp) rfl)
                                  have x0 := HTK2.out.2.2.2 W (HBM.out.trans (hbel.mono HBM.out.size))
                                  have e120 := rg_ev q120
                                  exact rg_same (.string tk) (by unfold Oper.wp execOp; go_simp; all_goals ((try simp only [e120]); (try go_simp); (try rw [if_pos (by omega)]); (try rw [if_neg (by omega)]); first | done | rfl | exact ⟨rfl, rfl⟩ | trivial)) rfl
                                | 8, ho, _ =>
                                  cases ho
                                  have q117 : a'.tmps.getD 117 undef = .string ti := (hpre { on := 3, ground := .data } (by simp) rfl)
                                  have q121 : a'.tmps.getD 121 undef = .string tk := (hpre { on := 7, ground := .data } (by simp) rfl)
                                  exact rg_call2 117 121 22 _ _ _ _ rfl q117 q121 (enters_of Tryz.func22 (by kernel_rfl) rfl) (KC1.out W (HBM.out.trans (hbel.mono HBM.out.size))) (fun e w' h => by
                                    obtain ⟨rfl, hb⟩ := h
                                    exact ⟨_, rfl, _, rfl, rfl, hb⟩)
                                | 9, ho, _ =>
                                  cases ho
                                  have q122 : a'.tmps.getD 122 undef = .bool true := (hpre { on := 8, ground := .data } (by simp) rfl)
                                  have e122 := rg_ev q122
                                  exact rg_same (.bool true) (by unfold Oper.wp execOp; go_simp; all_goals ((try simp only [e122]); (try go_simp); (try rw [if_pos (by omega)]); (try rw [if_neg (by omega)]); first | done | rfl | exact ⟨rfl, rfl⟩ | trivial)) rfl
                                | 10, ho, _ =>
                                  cases ho
                                  have q7 : a'.tmps.getD 7 undef = .pointer (some ⟨H, 0, none⟩) := (hrest 7 (by intro i hi; have hi : i < 32 := hi; show 114 + min i 31 ≠ _; omega))
                                  have x0 := (HBOX.out W (HBM.out.trans (hbel.mono HBM.out.size))).1
                                  have e7 := rg_ev q7
                                  exact rg_same (.slice (some ⟨bh, oh, none⟩) nh c11) (by unfold Oper.wp execOp; go_simp; all_goals ((try simp only [e7]); (try go_simp); (try rw [if_pos (by omega)]); (try rw [if_neg (by omega)]); first | done | rfl | exact ⟨rfl, rfl⟩ | trivial)) rfl
                                | 11, ho, _ =>
                                  cases ho
                                  have q15 : a'.tmps.getD 15 undef = .int .i64 kq := (hrest 15 (by intro i hi; have hi : i < 32 := hi; show 114 + min i 31 ≠ _; omega))
                                  have e15 := rg_ev q15
                                  exact rg_same (.int .i64 kq) (by unfold Oper.wp execOp; go_simp; all_goals ((try simp only [e15]); (try go_simp); (try rw [if_pos (by omega)]); (try rw [if_neg (by omega)]); first | done | rfl | exact ⟨rfl, rfl⟩ | trivial)) rfl
                                | 12, ho, _ =>
                                  cases ho
                                  have q124 : a'.tmps.getD 124 undef = .slice (some ⟨bh, oh, none⟩) nh c11 := (hpre { on := 10, ground := .data } (by simp) rfl)
                                  have q125 : a'.tmps.getD 125 undef = .int .i64 kq := (hpre { on := 11, ground := .data } (by simp) rfl)
                                  have e124 := rg_ev q124
                                  have e125 := rg_ev q125
                                  exact rg_same (.pointer (some ⟨bh, oh + kq, none⟩)) (by unfold Oper.wp execOp; go_simp; all_goals ((try simp only [e124, e125]); (try go_simp); (try rw [if_pos (by omega)]); (try rw [if_neg (by omega)]); first | done | rfl | exact ⟨rfl, rfl⟩ | trivial)) rfl
                                | 13, ho, _ =>
                                  cases ho
                                  have q126 : a'.tmps.getD 126 undef = .pointer (some ⟨bh, oh + kq, none⟩) := (hpre { on := 12, ground := .data } (by simp) rfl)
                                  have x0 := HTK2.out.2.2.2 W (HBM.out.trans (hbel.mono HBM.out.size))
                                  have e126 := rg_ev q126
                                  exact rg_same (.string tk) (by unfold Oper.wp execOp; go_simp; all_goals ((try simp only [e126]); (try go_simp); (try rw [if_pos (by omega)]); (try rw [if_neg (by omega)]); first | done | rfl | exact ⟨rfl, rfl⟩ | trivial)) rfl
                                | 14, ho, _ =>
                                  cases ho
                                  have q7 : a'.tmps.getD 7 undef = .pointer (some ⟨H, 0, none⟩) := (hrest 7 (by intro i hi; have hi : i < 32 := hi; show 114 + min i 31 ≠ _; omega))
                                  have x0 := (HBOX.out W (HBM.out.trans (hbel.mono HBM.out.size))).1
                                  have e7 := rg_ev q7
                                  exact rg_same (.slice (some ⟨bh, oh, none⟩) nh c11) (by unfold Oper.wp execOp; go_simp; all_goals ((try simp only [e7]); (try go_simp); (try rw [if_pos (by omega)]); (try rw [if_neg (by omega)]); first | done | rfl | exact ⟨rfl, rfl⟩ | trivial)) rfl
                                | 15, ho, _ =>
                                  cases ho
                                  have q16 : a'.tmps.getD 16 undef = .int .i64 mq := (hrest 16 (by intro i hi; have hi : i < 32 := hi; show 114 + min i 31 ≠ _; omega))
                                  have e16 := rg_ev q16
                                  exact rg_same (.int .i64 mq) (by unfold Oper.wp execOp; go_simp; all_goals ((try simp only [e16]); (try go_simp); (try rw [if_pos (by omega)]); (try rw [if_neg (by omega)]); first | done | rfl | exact ⟨rfl, rfl⟩ | trivial)) rfl
                                | 16, ho, _ =>
                                  cases ho
                                  have q128 : a'.tmps.getD 128 undef = .slice (some ⟨bh, oh, none⟩) nh c11 := (hpre { on := 14, ground := .data } (by simp) rfl)
                                  have q129 : a'.tmps.getD 129 undef = .int .i64 mq := (hpre { on := 15, ground := .data } (by simp) rfl)
                                  have e128 := rg_ev q128
                                  have e129 := rg_ev q129
                                  exact rg_same (.pointer (some ⟨bh, oh + mq, none⟩)) (by unfold Oper.wp execOp; go_simp; all_goals ((try simp only [e128, e129]); (try go_simp); (try rw [if_pos (by omega)]); (try rw [if_neg (by omega)]); first | done | rfl | exact ⟨rfl, rfl⟩ | trivial)) rfl
                                | 17, ho, _ =>
                                  cases ho
                                  have q130 : a'.tmps.getD 130 undef = .pointer (some ⟨bh, oh + mq, none⟩) := (hpre { on := 16, ground := .data } (by simp) rfl)
                                  have x0 := HTM.out.2.2.2 W (HBM.out.trans (hbel.mono HBM.out.size))
                                  have e130 := rg_ev q130
                                  exact rg_same (.string tm) (by unfold Oper.wp execOp; go_simp; all_goals ((try simp only [e130]); (try go_simp); (try rw [if_pos (by omega)]); (try rw [if_neg (by omega)]); first | done | rfl | exact ⟨rfl, rfl⟩ | trivial)) rfl
                                | 18, ho, _ =>
                                  cases ho
                                  have q127 : a'.tmps.getD 127 undef = .string tk := (hpre { on := 13, ground := .data } (by simp) rfl)
                                  have q131 : a'.tmps.getD 131 undef = .string tm := (hpre { on := 17, ground := .data } (by simp) rfl)
                                  exact rg_call2 127 131 22 _ _ _ _ rfl q127 q131 (enters_of Tryz.func22 (by kernel_rfl) rfl) (KC2.out W (HBM.out.trans (hbel.mono HBM.out.size))) (fun e w' h => by
                                    obtain ⟨rfl, hb⟩ := h
                                    exact ⟨_, rfl, _, rfl, rfl, hb⟩)
                                | 19, ho, _ =>
                                  cases ho
                                  have q123 : a'.tmps.getD 123 undef = .bool true := (hpre { on := 9, ground := .data } (by simp) rfl)
                                  have q132 : a'.tmps.getD 132 undef = .bool false := (hpre { on := 18, ground := .data } (by simp) rfl)
                                  have e123 := rg_ev q123
                                  have e132 := rg_ev q132
                                  exact rg_same (.bool false) (by unfold Oper.wp execOp; go_simp; all_goals ((try simp only [e123, e132]); (try go_simp); (try rw [if_pos (by omega)]); (try rw [if_neg (by omega)]); first | done | rfl | exact ⟨rfl, rfl⟩ | trivial)) rfl
                                | 20, ho, _ =>
                                  cases ho
                                  have q133 : a'.tmps.getD 133 undef = .bool false := (hpre { on := 19, ground := .data } (by simp) rfl)
                                  have e133 := rg_ev q133
                                  exact rg_same (.bool false) (by unfold Oper.wp execOp; go_simp; all_goals ((try simp only [e133]); (try go_simp); (try rw [if_pos (by omega)]); (try rw [if_neg (by omega)]); first | done | rfl | exact ⟨rfl, rfl⟩ | trivial)) rfl
                                | 21, ho, hsel => exact absurd hsel (by decide)
                                | 22, ho, hsel => exact absurd hsel (by decide)
                                | 23, ho, hsel => exact absurd hsel (by decide)
                                | 24, ho, hsel => exact absurd hsel (by decide)
                                | 25, ho, hsel => exact absurd hsel (by decide)
                                | 26, ho, hsel => exact absurd hsel (by decide)
                                | 27, ho, hsel => exact absurd hsel (by decide)
                                | 28, ho, hsel => exact absurd hsel (by decide)
                                | 29, ho, hsel => exact absurd hsel (by decide)
                                | 30, ho, hsel => exact absurd hsel (by decide)
                                | 31, ho, _ =>
                                  cases ho
                                  have q134 : a'.tmps.getD 134 undef = .bool false := (hpre { on := 20, ground := .data } (by simp) rfl)
                                  have q144 : a'.tmps.getD 144 undef = undef := (hpre { on := 30, ground := .data } (by simp) rfl)
                                  have e134 := rg_ev q134
                                  have e144 := rg_ev q144
                                  exact rg_same (.bool false) (by unfold Oper.wp execOp; go_simp; all_goals ((try simp only [e134, e144]); (try go_simp); (try rw [if_pos (by omega)]); (try rw [if_neg (by omega)]); first | done | rfl | exact ⟨rfl, rfl⟩ | trivial)) rfl
                                | n + 32, ho, _ => exact absurd ho (by simp)
                              case done =>
                                intro vs W hbel hvs
                                have v0 : vs 0 = .slice (some ⟨bh, oh, none⟩) nh c11 := hvs 0 (by decide)
                                have v1 : vs 1 = .int .i64 ia := hvs 1 (by decide)
                                have v2 : vs 2 = .pointer (some ⟨bh, oh + ia, none⟩) := hvs 2 (by decide)
                                have v3 : vs 3 = .string ti := hvs 3 (by decide)
                                have v4 : vs 4 = .slice (some ⟨bh, oh, none⟩) nh c11 := hvs 4 (by decide)
                                have v5 : vs 5 = .int .i64 kq := hvs 5 (by decide)
                                have v6 : vs 6 = .pointer (some ⟨bh, oh + kq, none⟩) := hvs 6 (by decide)
                                have v7 : vs 7 = .string tk := hvs 7 (by decide)
                                have v8 : vs 8 = .bool true := hvs 8 (by decide)
                                have v9 : vs 9 = .bool true := hvs 9 (by decide)
                                have v10 : vs 10 = .slice (some ⟨bh, oh, none⟩) nh c11 := hvs 10 (by decide)
                                have v11 : vs 11 = .int .i64 kq := hvs 11 (by decide)
                                have v12 : vs 12 = .pointer (some ⟨bh, oh + kq, none⟩) := hvs 12 (by decide)
                                have v13 : vs 13 = .string tk := hvs 13 (by decide)
                                have v14 : vs 14 = .slice (some ⟨bh, oh, none⟩) nh c11 := hvs 14 (by decide)
                                have v15 : vs 15 = .int .i64 mq := hvs 15 (by decide)
                                have v16 : vs 16 = .pointer (some ⟨bh, oh + mq, none⟩) := hvs 16 (by decide)
                                have v17 : vs 17 = .string tm := hvs 17 (by decide)
                                have v18 : vs 18 = .bool false := hvs 18 (by decide)
                                have v19 : vs 19 = .bool false := hvs 19 (by decide)
                                have v20 : vs 20 = .bool false := hvs 20 (by decide)
                                have v21 : vs 21 = undef := hvs 21 (by decide)
                                have v22 : vs 22 = undef := hvs 22 (by decide)
                                have v23 : vs 23 = undef := hvs 23 (by decide)
                                have v24 : vs 24 = undef := hvs 24 (by decide)
                                have v25 : vs 25 = undef := hvs 25 (by decide)
                                have v26 : vs 26 = undef := hvs 26 (by decide)
                                have v27 : vs 27 = undef := hvs 27 (by decide)
                                have v28 : vs 28 = undef := hvs 28 (by decide)
                                have v29 : vs 29 = undef := hvs 29 (by decide)
                                have v30 : vs 30 = undef := hvs 30 (by decide)
                                have v31 : vs 31 = .bool false := hvs 31 (by decide)
                                have HBR := Lib.hid hbel
                                simp only [fillN, List.size_toArray, List.length_cons, List.length_nil, Nat.reduceAdd, show List.range 32 = [0, 1, 2, 3, 4, 5, 6, 7, 8, 9, 10, 11, 12, 13, 14, 15, 16, 17, 18, 19, 20, 21, 22, 23, 24, 25, 26, 27, 28, 29, 30, 31] from rfl, List.foldl_cons, List.foldl_nil, show 114 + min 0 31 = 114 from rfl, show 114 + min 1 31 = 115 from rfl, show 114 + min 2 31 = 116 from rfl, show 114 + min 3 31 = 117 from rfl, show 114 + min 4 31 = 118 from rfl, show 114 + min 5 31 = 119 from rfl, show 114 + min 6 31 = 120 from rfl, show 114 + min 7 31 = 121 from rfl, show 114 + min 8 31 = 122 from rfl, show 114 + min 9 31 = 123 from rfl, show 114 + min 10 31 = 124 from rfl, show 114 + min 11 31 = 125 from rfl, show 114 + min 12 31 = 126 from rfl, show 114 + min 13 31 = 127 from rfl, show 114 + min 14 31 = 128 from rfl, show 114 + min 15 31 = 129 from rfl, show 114 + min 16 31 = 130 from rfl, show 114 + min 17 31 = 131 from rfl, show 114 + min 18 31 = 132 from rfl, show 114 + min 19 31 = 133 from rfl, show 114 + min 20 31 = 134 from rfl, show 114 + min 21 31 = 135 from rfl, show 114 + min 22 31 = 136 from rfl, show 114 + min 23 31 = 137 from rfl, show 114 + min 24 31 = 138 from rfl, show 114 + min 25 31 = 139 from rfl, show 114 + min 26 31 = 140 from rfl, show 114 + min 27 31 = 141 from rfl, show 114 + min 28 31 = 142 from rfl, show 114 + min 29 31 = 143 from rfl, show 114 + min 30 31 = 144 from rfl, show 114 + min 31 31 = 145 from rfl, v0, v1, v2, v3, v4, v5, v6, v7, v8, v9, v10, v11, v12, v13, v14, v15, v16, v17, v18, v19, v20, v21, v22, v23, v24, v25, v26, v27, v28, v29, v30, v31]
                                clear v0 v1 v2 v3 v4 v5 v6 v7 v8 v9 v10 v11 v12 v13 v14 v15 v16 v17 v18 v19 v20 v21 v22 v23 v24 v25 v26 v27 v28 v29 v30 v31 hvs hbel
                                go_simp
                                go_wp2_with fail
                                go_meet
                                exact ⟨rfl, HBM.out.trans (HBR.out.mono HBM.out.size)⟩
                            | true =>
                              obtain rfl : d3 = true := HDT.out rfl rfl
                              refine region_slotsH (fun i => 114 + min i 31) (rkC bh oh nh c11 ia kq mq ti tk tm) (fun _ => true) (by kernel_rfl) (by kernel_rfl) (fun i => by show 114 + min i 31 < _; simp; omega) (fun i j hi hj h => by have hi : i < 32 := hi; have hj : j < 32 := hj; omega) ?mono ?dst ?gu ?ng ?skip ?step ?done
                              case mono =>
                                intro i W W' v h hbw
                                match i, h with
                                | 0, h | 1, h | 2, h | 3, h | 4, h | 5, h | 6, h | 7, h | 8, h | 9, h | 10, h | 11, h | 12, h | 13, h | 14, h | 15, h | 16, h | 17, h | 18, h | 19, h | 20, h | 21, h | 22, h | 23, h | 24, h | 25, h | 26, h | 27, h | 28, h | 29, h | 30, h | 31, h => exact h
                                | n + 32, h => exact h.elim
                              case dst =>
                                intro i o ho
                                match i, ho with
                                | 0, ho | 1, ho | 2, ho | 3, ho | 4, ho | 5, ho | 6, ho | 7, ho | 8, ho | 9, ho | 10, ho | 11, ho | 12, ho | 13, ho | 14, ho | 15, ho | 16, ho | 17, ho | 18, ho | 19, ho | 20, ho | 21, ho | 22, ho | 23, ho | 24, ho | 25, ho | 26, ho | 27, ho | 28, ho | 29, ho | 30, ho | 31, ho => cases ho; rfl
                                | n + 32, ho => exact absurd ho (by simp)
                              case gu =>
                                intro i o g b ho hgd W v hv
                                match i, ho with
                                | 0, ho => cases ho; cases hgd
                                | 1, ho => cases ho; cases hgd
                                | 2, ho => cases ho; cases hgd
                                | 3, ho => cases ho; cases hgd
                                | 4, ho => cases ho; cases hgd
                                | 5, ho => cases ho; cases hgd
                                | 6, ho => cases ho; cases hgd
                                | 7, ho => cases ho; cases hgd
                                | 8, ho => cases ho; cases hgd
                                | 9, ho => cases ho; cases hgd
                                | 10, ho => cases ho; cases hgd; first | exact .inl hv | exact .inr ⟨rfl, hv⟩
                                | 11, ho => cases ho; cases hgd; first | exact .inl hv | exact .inr ⟨rfl, hv⟩
                                | 12, ho => cases ho; cases hgd; first | exact .inl hv | exact .inr ⟨rfl, hv⟩
                                | 13, ho => cases ho; cases hgd; first | exact .inl hv | exact .inr ⟨rfl, hv⟩
                                | 14, ho => cases ho; cases hgd; first | exact .inl hv | exact .inr ⟨rfl, hv⟩
                                | 15, ho => cases ho; cases hgd; first | exact .inl hv | exact .inr ⟨rfl, hv⟩
                                | 16, ho => cases ho; cases hgd; first | exact .inl hv | exact .inr ⟨rfl, hv⟩
                                | 17, ho => cases ho; cases hgd; first | exact .inl hv | exact .inr ⟨rfl, hv⟩
                                | 18, ho => cases ho; cases hgd; first | exact .inl hv | exact .inr ⟨rfl, hv⟩
                                | 19, ho => cases ho; cases hgd
                                | 20, ho => cases ho; cases hgd
                                | 21, ho => cases ho; cases hgd; first | exact .inl hv | exact .inr ⟨rfl, hv⟩
                                | 22, ho => cases ho; cases hgd; first | exact .inl hv | exact .inr ⟨rfl, hv⟩
                                | 23, ho => cases ho; cases hgd; first | exact .inl hv | exact .inr ⟨rfl, hv⟩
                                | 24, ho => cases ho; cases hgd; first | exact .inl hv | exact .inr ⟨rfl, hv⟩
                                | 25, ho => cases ho; cases hgd; first | exact .inl hv | exact .inr ⟨rfl, hv⟩
                                | 26, ho => cases ho; cases hgd; first | exact .inl hv | exact .inr ⟨rfl, hv⟩
                                | 27, ho => cases ho; cases hgd; first | exact .inl hv | exact .inr ⟨rfl, hv⟩
                                | 28, ho => cases ho; cases hgd; first | exact .inl hv | exact .inr ⟨rfl, hv⟩
                                | 29, ho => cases ho; cases hgd; first | exact .inl hv | exact .inr ⟨rfl, hv⟩
                                | 30, ho => cases ho; cases hgd; first | exact .inl hv | exact .inr ⟨rfl, hv⟩
                                | 31, ho => cases ho; cases hgd
                                | n + 32, ho => exact absurd ho (by simp)
                              case ng =>
                                intro i o ho hgd
                                match i, ho with
                                | 0, ho => cases ho; first | rfl | cases hgd
                                | 1, ho => cases ho; first | rfl | cases hgd
                                | 2, ho => cases ho; first | rfl | cases hgd
                                | 3, ho => cases ho; first | rfl | cases hgd
                                | 4, ho => cases ho; first | rfl | cases hgd
                                | 5, ho => cases ho; first | rfl | cases hgd
                                | 6, ho => cases ho; first | rfl | cases hgd
                                | 7, ho => cases ho; first | rfl | cases hgd
                                | 8, ho => cases ho; first | rfl | cases hgd
                                | 9, ho => cases ho; first | rfl | cases hgd
                                | 10, ho => cases ho; first | rfl | cases hgd
                                | 11, ho => cases ho; first | rfl | cases hgd
                                | 12, ho => cases ho; first | rfl | cases hgd
                                | 13, ho => cases ho; first | rfl | cases hgd
                                | 14, ho => cases ho; first | rfl | cases hgd
                                | 15, ho => cases ho; first | rfl | cases hgd
                                | 16, ho => cases ho; first | rfl | cases hgd
                                | 17, ho => cases ho; first | rfl | cases hgd
                                | 18, ho => cases ho; first | rfl | cases hgd
                                | 19, ho => cases ho; first | rfl | cases hgd
                                | 20, ho => cases ho; first | rfl | cases hgd
                                | 21, ho => cases ho; first | rfl | cases hgd
                                | 22, ho => cases ho; first | rfl | cases hgd
                                | 23, ho => cases ho; first | rfl | cases hgd
                                | 24, ho => cases ho; first | rfl | cases hgd
                                | 25, ho => cases ho; first | rfl | cases hgd
                                | 26, ho => cases ho; first | rfl | cases hgd
                                | 27, ho => cases ho; first | rfl | cases hgd
                                | 28, ho => cases ho; first | rfl | cases hgd
                                | 29, ho => cases ho; first | rfl | cases hgd
                                | 30, ho => cases ho; first | rfl | cases hgd
                                | 31, ho => cases ho; first | rfl | cases hgd
                                | n + 32, ho => exact absurd ho (by simp)
                              case skip =>
                                intro i W hi hsel
                                match i, hi, hsel with
                                | 0, _, hsel => first | exact absurd hsel (by decide) | rfl
                                | 1, _, hsel => first | exact absurd hsel (by decide) | rfl
                                | 2, _, hsel => first | exact absurd hsel (by decide) | rfl
                                | 3, _, hsel => first | exact absurd hsel (by decide) | rfl
                                | 4, _, hsel => first | exact absurd hsel (by decide) | rfl
                                | 5, _, hsel => first | exact absurd hsel (by decide) | rfl
                                | 6, _, hsel => first | exact absurd hsel (by decide) | rfl
                                | 7, _, hsel => first | exact absurd hsel (by decide) | rfl
                                | 8, _, hsel => first | exact absurd hsel (by decide) | rfl
                                | 9, _, hsel => first | exact absurd hsel (by decide) | rfl
                                | 10, _, hsel => first | exact absurd hsel (by decide) | rfl
                                | 11, _, hsel => first | exact absurd hsel (by decide) | rfl
                                | 12, _, hsel => first | exact absurd hsel (by decide) | rfl
                                | 13, _, hsel => first | exact absurd hsel (by decide) | rfl
                                | 14, _, hsel => first | exact absurd hsel (by decide) | rfl
                                | 15, _, hsel => first | exact absurd hsel (by decide) | rfl
                                | 16, _, hsel => first | exact absurd hsel (by decide) | rfl
                                | 17, _, hsel => first | exact absurd hsel (by decide) | rfl
                                | 18, _, hsel => first | exact absurd hsel (by decide) | rfl
                                | 19, _, hsel => first | exact absurd hsel (by decide) | rfl
                                | 20, _, hsel => first | exact absurd hsel (by decide) | rfl
                                | 21, _, hsel => first | exact absurd hsel (by decide) | rfl
                                | 22, _, hsel => first | exact absurd hsel (by decide) | rfl
                                | 23, _, hsel => first | exact absurd hsel (by decide) | rfl
                                | 24, _, hsel => first | exact absurd hsel (by decide) | rfl
                                | 25, _, hsel => first | exact absurd hsel (by decide) | rfl
                                | 26, _, hsel => first | exact absurd hsel (by decide) | rfl
                                | 27, _, hsel => first | exact absurd hsel (by decide) | rfl
                                | 28, _, hsel => first | exact absurd hsel (by decide) | rfl
                                | 29, _, hsel => first | exact absurd hsel (by decide) | rfl
                                | 30, _, hsel => first | exact absurd hsel (by decide) | rfl
                                | 31, _, hsel => first | exact absurd hsel (by decide) | rfl
                                | n + 32, hi, _ => exact absurd hi (by simp)
                              case step =>
                                intro f a' W i o ho hsel hpre hbel hrest
                                match i, ho, hsel with
                                | 0, ho, _ =>
                                  cases ho
                                  have q7 : a'.tmps.getD 7 undef = .pointer (some ⟨H, 0, none⟩) := (hrest 7 (by intro i hi; have hi : i < 32 := hi; show 114 + min i 31 ≠ _; omega))
                                  have x0 := (HBOX.out W (HBM.out.trans (hbel.mono HBM.out.size))).1
                                  have e7 := rg_ev q7
                                  exact rg_same (.slice (some ⟨bh, oh, none⟩) nh c11) (by unfold Oper.wp execOp; go_simp; all_goals ((try simp only [e7]); (try go_simp); (try rw [if_pos (by omega)]); (try rw [if_neg (by omega)]); first | done | rfl | exact ⟨rfl, rfl⟩ | trivial)) rfl
                                | 1, ho, _ =>
                                  cases ho
                                  have q13 : a'.tmps.getD 13 undef = .int .i64 ia := (hrest 13 (by intro i hi; have hi : i < 32 := hi; show 114 + min i 31 ≠ _; omega))
                                  have e13 := rg_ev q13
                                  exact rg_same (.int .i64 ia) (by unfold Oper.wp execOp; go_simp; all_goals ((try simp only [e13]); (try go_simp); (try rw [if_pos (by omega)]); (try rw [if_neg (by omega)]); first | done | rfl | exact ⟨rfl, rfl⟩ | trivial)) rfl
                                | 2, ho, _ =>
                                  cases ho
                                  have q114 : a'.tmps.getD 114 undef = .slice (some ⟨bh, oh, none⟩) nh c11 := (hpre { on := 0, ground := .data } (by simp) rfl)
                                  have q115 : a'.tmps.getD 115 undef = .int .i64 ia := (hpre { on := 1, ground := .data } (by simp) rfl)
                                  have e114 := rg_ev q114
                                  have e115 := rg_ev q115
                                  exact rg_same (.pointer (some ⟨bh, oh + ia, none⟩)) (by unfold Oper.wp execOp; go_simp; all_goals ((try simp only [e114, e115]); (try go_simp); (try rw [if_pos (by omega)]); (try rw [if_neg (by omega)]); first | done | rfl | exact ⟨rfl, rfl⟩ | trivial)) rfl
                                | 3, ho, _ =>
                                  cases ho
                                  have q116 : a'.tmps.getD 116 undef = .pointer (some ⟨bh, oh + ia, none⟩) := (hpre { on := 2, ground := .data } (by simp) rfl)
                                  have x0 := HTI.out.2.2.2 W (HBM.out.trans (hbel.mono HBM.out.size))
                                  have e116 := rg_ev q116
                                  exact rg_same (.string ti) (by unfold Oper.wp execOp; go_simp; all_goals ((try simp only [e116]); (try go_simp); (try rw [if_pos (by omega)]); (try rw [if_neg (by omega)]); first | done | rfl | exact ⟨rfl, rfl⟩ | trivial)) rfl
                                | 4, ho, _ =>
                                  cases ho
                                  have q7 : a'.tmps.getD 7 undef = .pointer (some ⟨H, 0, none⟩) := (hrest 7 (by intro i hi; have hi : i < 32 := hi; show 114 + min i 31 ≠ _; omega))
                                  have x0 := (HBOX.out W (HBM.out.trans (hbel.mono HBM.out.size))).1
                                  have e7 := rg_ev q7
                                  exact rg_same (.slice (some ⟨bh, oh, none⟩) nh c11) (by unfold Oper.wp execOp; go_simp; all_goals ((try simp only [e7]); (try go_simp); (try rw [if_pos (by omega)]); (try rw [if_neg (by omega)]); first | done | rfl | exact ⟨rfl, rfl⟩ | trivial)) rfl
                                | 5, ho, _ =>
                                  cases ho
                                  have q15 : a'.tmps.getD 15 undef = .int .i64 kq := (hrest 15 (by intro i hi; have hi : i < 32 := hi; show 114 + min i 31 ≠ _; omega))
                                  have e15 := rg_ev q15
                                  exact rg_same (.int .i64 kq) (by unfold Oper.wp execOp; go_simp; all_goals ((try simp only [e15]); (try go_simp); (try rw [if_pos (by omega)]); (try rw [if_neg (by omega)]); first | done | rfl | exact ⟨rfl, rfl⟩ | trivial)) rfl
                                | 6, ho, _ =>
                                  cases ho
                                  have q118 : a'.tmps.getD 118 undef = .slice (some ⟨bh, oh, none⟩) nh c11 := (hpre { on := 4, ground := .data } (by simp) rfl)
                                  have q119 : a'.tmps.getD 119 undef = .int .i64 kq := (hpre { on := 5, ground := .data } (by simp) rfl)
                                  have e118 := rg_ev q118
                                  have e119 := rg_ev q119
                                  exact rg_same (.pointer (some ⟨bh, oh + kq, none⟩)) (by unfold Oper.wp execOp; go_simp; all_goals ((try simp only [e118, e119]); (try go_simp); (try rw [if_pos (by omega)]); (try rw [if_neg (by omega)]); first | done | rfl | exact ⟨rfl, rfl⟩ | trivial)) rfl
                                | 7, ho, _ =>
                                  cases ho
                                  have q120 : a'.tmps.getD 120 undef = .pointer (some ⟨bh, oh + kq, none⟩) := (hpre { on := 6, ground := .data } (by simp) rfl)
                                  have x0 := HTK2.out.2.2.2 W (HBM.out.trans (hbel.mono HBM.out.size))
                                  have e120 := rg_ev q120
                                  exact rg_same (.string tk) (by unfold Oper.wp execOp; go_simp; all_goals ((try simp only [e120]); (try go_simp); (try rw [if_pos (by omega)]); (try rw [if_neg (by omega)]); first | done | rfl | exact ⟨rfl, rfl⟩ | trivial)) rfl
                                | 8, ho, _ =>
                                  cases ho
                                  have q117 : a'.tmps.getD 117 undef = .string ti := (hpre { on := 3, ground := .data } (by simp) rfl)
                                  have q121 : a'.tmps.getD 121 undef = .string tk := (hpre { on := 7, ground := .data } (by simp) rfl)
                                  exact rg_call2 117 121 22 _ _ _ _ rfl q117 q121 (enters_of Tryz.func22 (by kernel_rfl) rfl) (KC1.out W (HBM.out.trans (hbel.mono HBM.out.size))) (fun e w' h => by
                                    obtain ⟨rfl, hb⟩ := h
                                    exact ⟨_, rfl, _, rfl, rfl, hb⟩)
                                | 9, ho, _ =>
                                  cases ho
                                  have q122 : a'.tmps.getD 122 undef = .bool true := (hpre { on := 8, ground := .data } (by simp) rfl)
                                  have e122 := rg_ev q122
                                  exact rg_same (.bool true) (by unfold Oper.wp execOp; go_simp; all_goals ((try simp only [e122]); (try go_simp); (try rw [if_pos (by omega)]); (try rw [if_neg (by omega)]); first | done | rfl | exact ⟨rfl, rfl⟩ | trivial)) rfl
                                | 10, ho, _ =>
                                  cases ho
                                  have q7 : a'.tmps.getD 7 undef = .pointer (some ⟨H, 0, none⟩) := (hrest 7 (by intro i hi; have hi : i < 32 := hi; show 114 + min i 31 ≠ _; omega))
                                  have x0 := (HBOX.out W (HBM.out.trans (hbel.mono HBM.out.size))).1
                                  have e7 := rg_ev q7
                                  exact rg_same (.slice (some ⟨bh, oh, none⟩) nh c11) (by unfold Oper.wp execOp; go_simp; all_goals ((try simp only [e7]); (try go_simp); (try rw [if_pos (by omega)]); (try rw [if_neg (by omega)]); first | done | rfl | exact ⟨rfl, rfl⟩ | trivial)) rfl
                                | 11, ho, _ =>
                                  cases ho
                                  have q15 : a'.tmps.getD 15 undef = .int .i64 kq := (hrest 15 (by intro i hi; have hi : i < 32 := hi; show 114 + min i 31 ≠ _; omega))
                                  have e15 := rg_ev q15
                                  exact rg_same (.int .i64 kq) (by unfold Oper.wp execOp; go_simp; all_goals ((try simp only [e15]); (try go_simp); (try rw [if_pos (by omega)]); (try rw [if_neg (by omega)]); first | done | rfl | exact ⟨rfl, rfl⟩ | trivial)) rfl
                                | 12, ho, _ =>
                                  cases ho
                                  have q124 : a'.tmps.getD 124 undef = .slice (some ⟨bh, oh, none⟩) nh c11 := (hpre { on := 10, ground := .data } (by simp) rfl)
                                  have q125 : a'.tmps.getD 125 undef = .int .i64 kq := (hpre { on := 11, ground := .data } (by simp) rfl)
                                  have e124 := rg_ev q124
                                  have e125 := rg_ev q125
                                  exact rg_same (.pointer (some ⟨bh, oh + kq, none⟩)) (by unfold Oper.wp execOp; go_simp; all_goals ((try simp only [e124, e125]); (try go_simp); (try rw [if_pos (by omega)]); (try rw [if_neg (by omega)]); first | done | rfl | exact ⟨rfl, rfl⟩ | trivial)) rfl
                                | 13, ho, _ =>
                                  cases ho
                                  have q126 : a'.tmps.getD 126 undef = .pointer (some ⟨bh, oh + kq, none⟩) := (hpre { on := 12, ground := .data } (by simp) rfl)
                                  have x0 := HTK2.out.2.2.2 W (HBM.out.trans (hbel.mono HBM.out.size))
                                  have e126 := rg_ev q126
                                  exact rg_same (.string tk) (by unfold Oper.wp execOp; go_simp; all_goals ((try simp only [e126]); (try go_simp); (try rw [if_pos (by omega)]); (try rw [if_neg (by omega)]); first | done | rfl | exact ⟨rfl, rfl⟩ | trivial)) rfl
                                | 14, ho, _ =>
                                  cases ho
                                  have q7 : a'.tmps.getD 7 undef = .pointer (some ⟨H, 0, none⟩) := (hrest 7 (by intro i hi; have hi : i < 32 := hi; show 114 + min i 31 ≠ _; omega))
                                  have x0 := (HBOX.out W (HBM.out.trans (hbel.mono HBM.out.size))).1
                                  have e7 := rg_ev q7
                                  exact rg_same (.slice (some ⟨bh, oh, none⟩) nh c11) (by unfold Oper.wp execOp; go_simp; all_goals ((try simp only [e7]); (try go_simp); (try rw [if_pos (by omega)]); (try rw [if_neg (by omega)]); first | done | rfl | exact ⟨rfl, rfl⟩ | trivial)) rfl
                                | 15, ho, _ =>
                                  cases ho
                                  have q16 : a'.tmps.getD 16 undef = .int .i64 mq := (hrest 16 (by intro i hi; have hi : i < 32 := hi; show 114 + min i 31 ≠ _; omega))
                                  have e16 := rg_ev q16
                                  exact rg_same (.int .i64 mq) (by unfold Oper.wp execOp; go_simp; all_goals ((try simp only [e16]); (try go_simp); (try rw [if_pos (by omega)]); (try rw [if_neg (by omega)]); first | done | rfl | exact ⟨rfl, rfl⟩ | trivial)) rfl
                                | 16, ho, _ =>
                                  cases ho
                                  have q128 : a'.tmps.getD 128 undef = .slice (some ⟨bh, oh, none⟩) nh c11 := (hpre { on := 14, ground := .data } (by simp) rfl)
                                  have q129 : a'.tmps.getD 129 undef = .int .i64 mq := (hpre { on := 15, ground := .data } (by simp) rfl)
                                  have e128 := rg_ev q128
                                  have e129 := rg_ev q129
                                  exact rg_same (.pointer (some ⟨bh, oh + mq, none⟩)) (by unfold Oper.wp execOp; go_simp; all_goals ((try simp only [e128, e129]); (try go_simp); (try rw [if_pos (by omega)]); (try rw [if_neg (by omega)]); first | done | rfl | exact ⟨rfl, rfl⟩ | trivial)) rfl
                                | 17, ho, _ =>
                                  cases ho
                                  have q130 : a'.tmps.getD 130 undef = .pointer (some ⟨bh, oh + mq, none⟩) := (hpre { on := 16, ground := .data } (by simp) rfl)
                                  have x0 := HTM.out.2.2.2 W (HBM.out.trans (hbel.mono HBM.out.size))
                                  have e130 := rg_ev q130
                                  exact rg_same (.string tm) (by unfold Oper.wp execOp; go_simp; all_goals ((try simp only [e130]); (try go_simp); (try rw [if_pos (by omega)]); (try rw [if_neg (by omega)]); first | done | rfl | exact ⟨rfl, rfl⟩ | trivial)) rfl
                                | 18, ho, _ =>
                                  cases ho
                                  have q127 : a'.tmps.getD 127 undef = .string tk := (hpre { on := 13, ground := .data } (by simp) rfl)
                                  have q131 : a'.tmps.getD 131 undef = .string tm := (hpre { on := 17, ground := .data } (by simp) rfl)
                                  exact rg_call2 127 131 22 _ _ _ _ rfl q127 q131 (enters_of Tryz.func22 (by kernel_rfl) rfl) (KC2.out W (HBM.out.trans (hbel.mono HBM.out.size))) (fun e w' h => by
                                    obtain ⟨rfl, hb⟩ := h
                                    exact ⟨_, rfl, _, rfl, rfl, hb⟩)
                                | 19, ho, _ =>
                                  cases ho
                                  have q123 : a'.tmps.getD 123 undef = .bool true := (hpre { on := 9, ground := .data } (by simp) rfl)
                                  have q132 : a'.tmps.getD 132 undef = .bool true := (hpre { on := 18, ground := .data } (by simp) rfl)
                                  have e123 := rg_ev q123
                                  have e132 := rg_ev q132
                                  exact rg_same (.bool true) (by unfold Oper.wp execOp; go_simp; all_goals ((try simp only [e123, e132]); (try go_simp); (try rw [if_pos (by omega)]); (try rw [if_neg (by omega)]); first | done | rfl | exact ⟨rfl, rfl⟩ | trivial)) rfl
                                | 20, ho, _ =>
                                  cases ho
                                  have q133 : a'.tmps.getD 133 undef = .bool true := (hpre { on := 19, ground := .data } (by simp) rfl)
                                  have e133 := rg_ev q133
                                  exact rg_same (.bool true) (by unfold Oper.wp execOp; go_simp; all_goals ((try simp only [e133]); (try go_simp); (try rw [if_pos (by omega)]); (try rw [if_neg (by omega)]); first | done | rfl | exact ⟨rfl, rfl⟩ | trivial)) rfl
                                | 21, ho, _ =>
                                  cases ho
                                  have q7 : a'.tmps.getD 7 undef = .pointer (some ⟨H, 0, none⟩) := (hrest 7 (by intro i hi; have hi : i < 32 := hi; show 114 + min i 31 ≠ _; omega))
                                  have x0 := (HBOX.out W (HBM.out.trans (hbel.mono HBM.out.size))).1
                                  have e7 := rg_ev q7
                                  exact rg_same (.slice (some ⟨bh, oh, none⟩) nh c11) (by unfold Oper.wp execOp; go_simp; all_goals ((try simp only [e7]); (try go_simp); (try rw [if_pos (by omega)]); (try rw [if_neg (by omega)]); first | done | rfl | exact ⟨rfl, rfl⟩ | trivial)) rfl
                                | 22, ho, _ =>
                                  cases ho
                                  have q13 : a'.tmps.getD 13 undef = .int .i64 ia := (hrest 13 (by intro i hi; have hi : i < 32 := hi; show 114 + min i 31 ≠ _; omega))
                                  have e13 := rg_ev q13
                                  exact rg_same (.int .i64 ia) (by unfold Oper.wp execOp; go_simp; all_goals ((try simp only [e13]); (try go_simp); (try rw [if_pos (by omega)]); (try rw [if_neg (by omega)]); first | done | rfl | exact ⟨rfl, rfl⟩ | trivial)) rfl
                                | 23, ho, _ =>
                                  cases ho
                                  have q135 : a'.tmps.getD 135 undef = .slice (some ⟨bh, oh, none⟩) nh c11 := (hpre { on := 21, ground := .data } (by simp) rfl)
                                  have q136 : a'.tmps.getD 136 undef = .int .i64 ia := (hpre { on := 22, ground := .data } (by simp) rfl)
                                  have e135 := rg_ev q135
                                  have e136 := rg_ev q136
                                  exact rg_same (.pointer (some ⟨bh, oh + ia, none⟩)) (by unfold Oper.wp execOp; go_simp; all_goals ((try simp only [e135, e136]); (try go_simp); (try rw [if_pos (by omega)]); (try rw [if_neg (by omega)]); first | done | rfl | exact ⟨rfl, rfl⟩ | trivial)) rfl
                                | 24, ho, _ =>
                                  cases ho
                                  have q137 : a'.tmps.getD 137 undef = .pointer (some ⟨bh, oh + ia, none⟩) := (hpre { on := 23, ground := .data } (by simp) rfl)
                                  have x0 := HTI.out.2.2.2 W (HBM.out.trans (hbel.mono HBM.out.size))
                                  have e137 := rg_ev q137
                                  exact rg_same (.string ti) (by unfold Oper.wp execOp; go_simp; all_goals ((try simp only [e137]); (try go_simp); (try rw [if_pos (by omega)]); (try rw [if_neg (by omega)]); first | done | rfl | exact ⟨rfl, rfl⟩ | trivial)) rfl
                                | 25, ho, _ =>
                                  cases ho
                                  have q7 : a'.tmps.getD 7 undef = .pointer (some ⟨H, 0, none⟩) := (hrest 7 (by intro i hi; have hi : i < 32 := hi; show 114 + min i 31 ≠ _; omega))
                                  have x0 := (HBOX.out W (HBM.out.trans (hbel.mono HBM.out.size))).1
                                  have e7 := rg_ev q7
                                  exact rg_same (.slice (some ⟨bh, oh, none⟩) nh c11) (by unfold Oper.wp execOp; go_simp; all_goals ((try simp only [e7]); (try go_simp); (try rw [if_pos (by omega)]); (try rw [if_neg (by omega)]); first | done | rfl | exact ⟨rfl, rfl⟩ | trivial)) rfl
                                | 26, ho, _ =>
                                  cases ho
                                  have q16 : a'.tmps.getD 16 undef = .int .i64 mq := (hrest 16 (by intro i hi; have hi : i < 32 := hi; show 114 + min i 31 ≠ _; omega))
                                  have e16 := rg_ev q16
                                  exact rg_same (.int .i64 mq) (by unfold Oper.wp execOp; go_simp; all_goals ((try simp only [e16]); (try go_simp); (try rw [if_pos (by omega)]); (try rw [if_neg (by omega)]); first | done | rfl | exact ⟨rfl, rfl⟩ | trivial)) rfl
                                | 27, ho, _ =>
                                  cases ho
                                  have q139 : a'.tmps.getD 139 undef = .slice (some ⟨bh, oh, none⟩) nh c11 := (hpre { on := 25, ground := .data } (by simp) rfl)
                                  have q140 : a'.tmps.getD 140 undef = .int .i64 mq := (hpre { on := 26, ground := .data } (by simp) rfl)
                                  have e139 := rg_ev q139
                                  have e140 := rg_ev q140
                                  exact rg_same (.pointer (some ⟨bh, oh + mq, none⟩)) (by unfold Oper.wp execOp; go_simp; all_goals ((try simp only [e139, e140]); (try go_simp); (try rw [if_pos (by omega)]); (try rw [if_neg (by omega)]); first | done | rfl | exact ⟨rfl, rfl⟩ | trivial)) rfl
                                | 28, ho, _ =>
                                  cases ho
                                  have q141 : a'.tmps.getD 141 undef = .pointer (some ⟨bh, oh + mq, none⟩) := (hpre { on := 27, ground := .data } (by simp) rfl)
                                  have x0 := HTM.out.2.2.2 W (HBM.out.trans (hbel.mono HBM.out.size))
                                  have e141 := rg_ev q141
                                  exact rg_same (.string tm) (by unfold Oper.wp execOp; go_simp; all_goals ((try simp only [e141]); (try go_simp); (try rw [if_pos (by omega)]); (try rw [if_neg (by omega)]); first | done | rfl | exact ⟨rfl, rfl⟩ | trivial)) rfl
                                | 29, ho, _ =>
                                  cases ho
                                  have q138 : a'.tmps.getD 138 undef = .string ti := (hpre { on := 24, ground := .data } (by simp) rfl)
                                  have q142 : a'.tmps.getD 142 undef = .string tm := (hpre { on := 28, ground := .data } (by simp) rfl)
                                  exact rg_call2 138 142 22 _ _ _ _ rfl q138 q142 (enters_of Tryz.func22 (by kernel_rfl) rfl) (KC3.out W (HBM.out.trans (hbel.mono HBM.out.size))) (fun e w' h => by
                                    obtain ⟨rfl, hb⟩ := h
                                    exact ⟨_, rfl, _, rfl, rfl, hb⟩)
                                | 30, ho, _ =>
                                  cases ho
                                  have q143 : a'.tmps.getD 143 undef = .bool true := (hpre { on := 29, ground := .data } (by simp) rfl)
                                  have e143 := rg_ev q143
                                  exact rg_same (.bool false) (by unfold Oper.wp execOp; go_simp; all_goals ((try simp only [e143]); (try go_simp); (try rw [if_pos (by omega)]); (try rw [if_neg (by omega)]); first | done | rfl | exact ⟨rfl, rfl⟩ | trivial)) rfl
                                | 31, ho, _ =>
                                  cases ho
                                  have q134 : a'.tmps.getD 134 undef = .bool true := (hpre { on := 20, ground := .data } (by simp) rfl)
                                  have q144 : a'.tmps.getD 144 undef = .bool false := (hpre { on := 30, ground := .data } (by simp) rfl)
                                  have e134 := rg_ev q134
                                  have e144 := rg_ev q144
                                  exact rg_same (.bool false) (by unfold Oper.wp execOp; go_simp; all_goals ((try simp only [e134, e144]); (try go_simp); (try rw [if_pos (by omega)]); (try rw [if_neg (by omega)]); first | done | rfl | exact ⟨rfl, rfl⟩ | trivial)) rfl
                                | n + 32, ho, _ => exact absurd ho (by simp)
                              case done =>
                                intro vs W hbel hvs
                                have v0 : vs 0 = .slice (some ⟨bh, oh, none⟩) nh c11 := hvs 0 (by decide)
                                have v1 : vs 1 = .int .i64 ia := hvs 1 (by decide)
                                have v2 : vs 2 = .pointer (some ⟨bh, oh + ia, none⟩) := hvs 2 (by decide)
                                have v3 : vs 3 = .string ti := hvs 3 (by decide)
                                have v4 : vs 4 = .slice (some ⟨bh, oh, none⟩) nh c11 := hvs 4 (by decide)
                                have v5 : vs 5 = .int .i64 kq := hvs 5 (by decide)
                                have v6 : vs 6 = .pointer (some ⟨bh, oh + kq, none⟩) := hvs 6 (by decide)
                                have v7 : vs 7 = .string tk := hvs 7 (by decide)
                                have v8 : vs 8 = .bool true := hvs 8 (by decide)
                                have v9 : vs 9 = .bool true := hvs 9 (by decide)
                                have v10 : vs 10 = .slice (some ⟨bh, oh, none⟩) nh c11 := hvs 10 (by decide)
                                have v11 : vs 11 = .int .i64 kq := hvs 11 (by decide)
                                have v12 : vs 12 = .pointer (some ⟨bh, oh + kq, none⟩) := hvs 12 (by decide)
                                have v13 : vs 13 = .string tk := hvs 13 (by decide)
                                have v14 : vs 14 = .slice (some ⟨bh, oh, none⟩) nh c11 := hvs 14 (by decide)
                                have v15 : vs 15 = .int .i64 mq := hvs 15 (by decide)
                                have v16 : vs 16 = .pointer (some ⟨bh, oh + mq, none⟩) := hvs 16 (by decide)
                                have v17 : vs 17 = .string tm := hvs 17 (by decide)
                                have v18 : vs 18 = .bool true := hvs 18 (by decide)
                                have v19 : vs 19 = .bool true := hvs 19 (by decide)
                                have v20 : vs 20 = .bool true := hvs 20 (by decide)
                                have v21 : vs 21 = .slice (some ⟨bh, oh, none⟩) nh c11 := hvs 21 (by decide)
                                have v22 : vs 22 = .int .i64 ia := hvs 22 (by decide)
                                have v23 : vs 23 = .pointer (some ⟨bh, oh + ia, none⟩) := hvs 23 (by decide)
                                have v24 : vs 24 = .string ti := hvs 24 (by decide)
                                have v25 : vs 25 = .slice (some ⟨bh, oh, none⟩) nh c11 := hvs 25 (by decide)
                                have v26 : vs 26 = .int .i64 mq := hvs 26 (by decide)
                                have v27 : vs 27 = .pointer (some ⟨bh, oh + mq, none⟩) := hvs 27 (by decide)
                                have v28 : vs 28 = .string tm := hvs 28 (by decide)
                                have v29 : vs 29 = .bool true := hvs 29 (by decide)
                                have v30 : vs 30 = .bool false := hvs 30 (by decide)
                                have v31 : vs 31 = .bool false := hvs 31 (by decide)
                                have HBR := Lib.hid hbel
                                simp only [fillN, List.size_toArray, List.length_cons, List.length_nil, Nat.reduceAdd, show List.range 32 = [0, 1, 2, 3, 4, 5, 6, 7, 8, 9, 10, 11, 12, 13, 14, 15, 16, 17, 18, 19, 20, 21, 22, 23, 24, 25, 26, 27, 28, 29, 30, 31] from rfl, List.foldl_cons, List.foldl_nil, show 114 + min 0 31 = 114 from rfl, show 114 + min 1 31 = 115 from rfl, show 114 + min 2 31 = 116 from rfl, show 114 + min 3 31 = 117 from rfl, show 114 + min 4 31 = 118 from rfl, show 114 + min 5 31 = 119 from rfl, show 114 + min 6 31 = 120 from rfl, show 114 + min 7 31 = 121 from rfl, show 114 + min 8 31 = 122 from rfl, show 114 + min 9 31 = 123 from rfl, show 114 + min 10 31 = 124 from rfl, show 114 + min 11 31 = 125 from rfl, show 114 + min 12 31 = 126 from rfl, show 114 + min 13 31 = 127 from rfl, show 114 + min 14 31 = 128 from rfl, show 114 + min 15 31 = 129 from rfl, show 114 + min 16 31 = 130 from rfl, show 114 + min 17 31 = 131 from rfl, show 114 + min 18 31 = 132 from rfl, show 114 + min 19 31 = 133 from rfl, show 114 + min 20 31 = 134 from rfl, show 114 + min 21 31 = 135 from rfl, show 114 + min 22 31 = 136 from rfl, show 114 + min 23 31 = 137 from rfl, show 114 + min 24 31 = 138 from rfl, show 114 + min 25 31 = 139 from rfl, show 114 + min 26 31 = 140 from rfl, show 114 + min 27 31 = 141 from rfl, show 114 + min 28 31 = 142 from rfl, show 114 + min 29 31 = 143 from rfl, show 114 + min 30 31 = 144 from rfl, show 114 + min 31 31 = 145 from rfl, v0, v1, v2, v3, v4, v5, v6, v7, v8, v9, v10, v11, v12, v13, v14, v15, v16, v17, v18, v19, v20, v21, v22, v23, v24, v25, v26, v27, v28, v29, v30, v31]
                                clear v0 v1 v2 v3 v4 v5 v6 v7 v8 v9 v10 v11 v12 v13 v14 v15 v16 v17 v18 v19 v20 v21 v22 v23 v24 v25 v26 v27 v28 v29 v30 v31 hvs hbel
                                go_simp
                                go_wp2_with fail
                                go_meet
                                exact ⟨rfl, HBM.out.trans (HBR.out.mono HBM.out.size)⟩
                        case rest =>
                          obtain ⟨rfl, hbc⟩ := hcut
                          have HBC := Lib.hid hbc
                          clear hbc hcx
                          go_wp2_with fail
                          try go_roundw
                          case rel => exact ⟨mq + 1, hlm, by go_num, HBC.out⟩
                          case measure => simp [intOf]; omega
                      · have hI4 : ¬ ((mq : Int) < (nh : Int)) := by omega
                        go_wp2_with fail
                        exact ⟨⟨kq + 1, hlk, by go_num, HBM.out⟩, by simp [intOf]; omega⟩
                  · have hI3 : ¬ ((kq : Int) < (nh : Int)) := by omega
                    go_wp2_with fail
                    exact ⟨⟨ia + 1, hli, by go_num, HBK.out⟩, by simp [intOf]; omega⟩
            · have hI2 : ¬ ((ia : Int) < (nh : Int)) := by omega
              have HSM2 := HSMA
              have KSH := Lib.hid (rt_Shadowed T Ls wr (HTV.out.below HBI.out) (by rw [HLE.out, HNH.out]; have := HNH8.out; omega))
              go_wp2_with fail
              refine KSH.out.mono ?_
              rintro e w7 ⟨C, rfl, ⟨Lh, Bq, vs, hsv⟩, _, hb⟩
              have HS := Lib.hid hsv
              have HB7 := Lib.hid (HBI.out.trans (hb.mono HBI.out.size))
              have HB70 := Lib.hid (HBV.out.trans (HB7.out.mono HBV.out.size))
              have HR7 : Hid (Boxed w7 B 4 (.bool false)) := Lib.hid ((HB7.out.block _ HRV.out.lt).trans HRV.out)
              clear hb hsv KSH hcx
              go_wp2_with fail
              refine (HNU.out 0 w7 (by omega)).mono ?_
              rintro e wx ⟨rfl, hwx⟩
              subst wx
              obtain ⟨l, hl⟩ : ∃ z, Ro.shs Ls Ls.length = z := ⟨_, rfl⟩
              have HLS := Lib.hid hl
              obtain ⟨N, hN⟩ : ∃ z, l.length = z := ⟨_, rfl⟩
              have HNN := Lib.hid hN
              clear hl hN
              go_wp2_with fail
              refine (wpIn_wide (n := 9)).1 ?_
              refine rf_outerE (N := N) (own := fun _ => False) (Kp := KeepB w7.heap.size 0) (encs := fun j => #[.int .i64 (l.getD j (0, 0)).1, .int .i64 (l.getD j (0, 0)).2]) rfl (by omega) (gf := 57) (lb := #[.pointer (some ⟨C, 0, none⟩)]) rfl trivial (enters_of Tryz.func57 (by kernel_rfl) rfl)
                (fun _ => rfl) (fun b hb => hb.elim) ?iter KeepB.trans (fun X o o' h2 h3 => KeepB.putObj _ _ (by omega))
                (fun k X => Below w7.heap.size w7 X) (fun c X => False)
                (fun k X Y hs ht => hs.trans (ht.below (Nat.le_refl _) hs.size (fun b hb => hb.elim))) (fun c X Y hs ht => hs) (Below.refl _ _) ?E
              case iter =>
                intro X hX hs
                have h := shad_it (9 - 1) C Lh Bq vs Ls (fun _ => False) (KeepB w7.heap.size 0) (fun Y => Ag w7 Y) HSM2.out X (fun Y hY => hY.shv HS.out) (fun Y Z hk hy => hy.keep (E := 0) hk) (fun Y Z ht hy => hy.turn ht (by omega)) (Ag.of hX)
                rw [HLS.out, HNN.out] at h
                exact h
              case E =>
                apply Exists.intro
                refine ⟨?asg, ?bod, ?don, ?stp⟩
                case asg =>
                  intro l' k X K hk hi hK
                  have HKK := Lib.hid hK
                  clear hK hk
                  gi_wp2
                  exact HKK.out _ (KeepsFrom.refl _ _) (KeepB.refl _ _ _) hi
                case stp => exact fun D c X hD hf => hf.elim
                case bod =>
                  rintro l' j X hl' ⟨r, hr⟩ hj hbX
                  have HBX7 := Lib.hid hbX
                  have HBXV := Lib.hid (HB7.out.trans (hbX.mono HB7.out.size))
                  obtain ⟨ix, kx, he, hix, hkx, hcv⟩ := Ro.shs_told (Ls := Ls) (j := j) (by rw [HLS.out, HNN.out]; exact hj)
                  rw [HLS.out, List.getD_eq_getElem?_getD] at he
                  have e1 : (((l[j]?.getD (0, 0)).1 : Nat) : Int) = (ix : Int) := by rw [he]
                  have e2 : (l[j]?.getD (0, 0)).2 = (kx : Int) := by rw [he]
                  rw [e1, e2]
                  have hlx : ix < nh := by rw [← HNH.out, ← HLE.out]; exact hix
                  have hky : kx < nh := by omega
                  obtain ⟨bh, oh, ti, rfl, htl, hts, htp, htc⟩ := HTXT.out ix hlx
                  have HTI := Lib.hid (show ti.data.toList = hs.getD ix [] ∧ ti.size ≤ 30000 ∧ Ro.parse ti.data.toList = some (Ls.getD ix []) ∧ ∀ W, Below V.heap.size V W → W.cell? ⟨bh, oh + ix, none⟩ = some (.string ti) from ⟨htl, hts, htp, htc⟩)
                  clear htl hts htp htc
                  obtain ⟨bh2, oh2, tk, hee, htl, hts, htp, htc⟩ := HTXT.out kx hky
                  cases hee
                  have HTK2 := Lib.hid (show tk.data.toList = hs.getD kx [] ∧ tk.size ≤ 30000 ∧ Ro.parse tk.data.toList = some (Ls.getD kx []) ∧ ∀ W, Below V.heap.size V W → W.cell? ⟨bh, oh + kx, none⟩ = some (.string tk) from ⟨htl, hts, htp, htc⟩)
                  clear htl hts htp htc
                  have KC1 := Lib.hid (show ∀ W, Below V.heap.size V W → Calls Tryz.prog 22 #[.string tk, .string ti] W fun e w' => e = .returned (.bool true) ∧ Below W.heap.size W w' from fun W h => by
                    have h1 := rt_Covers tk ti W HTK2.out.2.1 HTI.out.2.1 (HK.out.below (HBV.out.trans (h.mono HBV.out.size)))
                    rw [Ro.coversT_some HTK2.out.2.2.1 HTI.out.2.2.1, hcv] at h1
                    exact h1)
                  have HNE := Lib.hid (show g1 = true → ¬ (f1 = (ix : Int)) from fun hg h => by
                    have h1 := of_decide_eq_true (HG1.out.trans hg)
                    have h2 := Ro.place_g (g := fun L => Ro.fits L P) (Ls := Ls) (by rw [HPLC.out]; exact h1)
                    rw [HPLC.out] at h2
                    have h3 : pl.toNat = ix := by have h4 := HF1.out; omega
                    rw [h3] at h2
                    have h5 : Ro.fits (Ls.getD kx []) P = true := Ro.fits_covers (.inl (Ro.parse_inv HTI.out.2.2.1).2.2) hcv h2
                    obtain ⟨h6, h7⟩ := Ro.place_le (g := fun L => Ro.fits L P) (by rw [HLE.out, HNH.out]; exact hky) h5
                    rw [HPLC.out] at h6 h7
                    omega)
                  have n1 : decide ((kx : Int) < 0) = false := decide_eq_false (by omega)
                  have n2 : decide (ix ≤ kx) = false := decide_eq_false (by omega)
                  have n3 : decide (nh ≤ ix) = false := decide_eq_false (by omega)
                  have hI2 : ((ix : Int) < (nh : Int)) := by omega
                  have hI3 : ((kx : Int) < (nh : Int)) := by omega
                  clear hbX he e1 e2 hix hcv
                  cases g1 with
                  | true =>
                    have n4 : (f1 == (ix : Int)) = false := beq_eq_false_iff_ne.2 (HNE.out rfl)
                    gi_wp2_with fail
                    refine region_slotsR (fun i => 158 + min i 32) (rmA bh oh nh c11 ix kx f1 ti tk) (fun _ => true) (by kernel_rfl) (by kernel_rfl) (by kernel_rfl) (fun i => by show 158 + min i 32 < _; simp; omega) (fun i j hi hj h => by have hi : i < 33 := hi; have hj : j < 33 := hj; omega) ?mono ?dst ?gu ?ng ?skip ?step ?done
                    case mono =>
                      intro i W W' v h hbw
                      match i, h with
                      | 0, h | 1, h | 2, h | 3, h | 4, h | 5, h | 6, h | 7, h | 8, h | 9, h | 10, h | 11, h | 12, h | 13, h | 14, h | 15, h | 16, h | 17, h | 18, h | 19, h | 20, h | 21, h | 22, h | 23, h | 24, h | 25, h | 26, h | 27, h | 28, h | 29, h | 30, h | 31, h | 32, h => exact h
                      | n + 33, h => exact h.elim
                    case dst =>
                      intro i o ho
                      match i, ho with
                      | 0, ho | 1, ho | 2, ho | 3, ho | 4, ho | 5, ho | 6, ho | 7, ho | 8, ho | 9, ho | 10, ho | 11, ho | 12, ho | 13, ho | 14, ho | 15, ho | 16, ho | 17, ho | 18, ho | 19, ho | 20, ho | 21, ho | 22, ho | 23, ho | 24, ho | 25, ho | 26, ho | 27, ho | 28, ho | 29, ho | 30, ho | 31, ho | 32, ho => cases ho; rfl
                      | n + 33, ho => exact absurd ho (by simp)
                    case gu =>
                      intro i o g b ho hgd W v hv
                      match i, ho with
                      | 0, ho => cases ho; cases hgd
                      | 1, ho => cases ho; cases hgd
                      | 2, ho => cases ho; cases hgd
                      | 3, ho => cases ho; cases hgd; first | exact .inl hv | exact .inr ⟨rfl, hv⟩
                      | 4, ho => cases ho; cases hgd; first | exact .inl hv | exact .inr ⟨rfl, hv⟩
                      | 5, ho => cases ho; cases hgd; first | exact .inl hv | exact .inr ⟨rfl, hv⟩
                      | 6, ho => cases ho; cases hgd
                      | 7, ho => cases ho; cases hgd
                      | 8, ho => cases ho; cases hgd; first | exact .inl hv | exact .inr ⟨rfl, hv⟩
                      | 9, ho => cases ho; cases hgd; first | exact .inl hv | exact .inr ⟨rfl, hv⟩
                      | 10, ho => cases ho; cases hgd; first | exact .inl hv | exact .inr ⟨rfl, hv⟩
                      | 11, ho => cases ho; cases hgd; first | exact .inl hv | exact .inr ⟨rfl, hv⟩
                      | 12, ho => cases ho; cases hgd
                      | 13, ho => cases ho; cases hgd
                      | 14, ho => cases ho; cases hgd; first | exact .inl hv | exact .inr ⟨rfl, hv⟩
                      | 15, ho => cases ho; cases hgd; first | exact .inl hv | exact .inr ⟨rfl, hv⟩
                      | 16, ho => cases ho; cases hgd; first | exact .inl hv | exact .inr ⟨rfl, hv⟩
                      | 17, ho => cases ho; cases hgd; first | exact .inl hv | exact .inr ⟨rfl, hv⟩
                      | 18, ho => cases ho; cases hgd; first | exact .inl hv | exact .inr ⟨rfl, hv⟩
                      | 19, ho => cases ho; cases hgd; first | exact .inl hv | exact .inr ⟨rfl, hv⟩
                      | 20, ho => cases ho; cases hgd; first | exact .inl hv | exact .inr ⟨rfl, hv⟩
                      | 21, ho => cases ho; cases hgd; first | exact .inl hv | exact .inr ⟨rfl, hv⟩
                      | 22, ho => cases ho; cases hgd; first | exact .inl hv | exact .inr ⟨rfl, hv⟩
                      | 23, ho => cases ho; cases hgd; first | exact .inl hv | exact .inr ⟨rfl, hv⟩
                      | 24, ho => cases ho; cases hgd
                      | 25, ho => cases ho; cases hgd
                      | 26, ho => cases ho; cases hgd; first | exact .inl hv | exact .inr ⟨rfl, hv⟩
                      | 27, ho => cases ho; cases hgd; first | exact .inl hv | exact .inr ⟨rfl, hv⟩
                      | 28, ho => cases ho; cases hgd; first | exact .inl hv | exact .inr ⟨rfl, hv⟩
                      | 29, ho => cases ho; cases hgd; first | exact .inl hv | exact .inr ⟨rfl, hv⟩
                      | 30, ho => cases ho; cases hgd; first | exact .inl hv | exact .inr ⟨rfl, hv⟩
                      | 31, ho => cases ho; cases hgd; first | exact .inl hv | exact .inr ⟨rfl, hv⟩
                      | 32, ho => cases ho; cases hgd
                      | n + 33, ho => exact absurd ho (by simp)
                    case ng =>
                      intro i o ho hgd
                      match i, ho with
                      | 0, ho => cases ho; first | rfl | cases hgd
                      | 1, ho => cases ho; first | rfl | cases hgd
                      | 2, ho => cases ho; first | rfl | cases hgd
                      | 3, ho => cases ho; first | rfl | cases hgd
                      | 4, ho => cases ho; first | rfl | cases hgd
                      | 5, ho => cases ho; first | rfl | cases hgd
                      | 6, ho => cases ho; first | rfl | cases hgd
                      | 7, ho => cases ho; first | rfl | cases hgd
                      | 8, ho => cases ho; first | rfl | cases hgd
                      | 9, ho => cases ho; first | rfl | cases hgd
                      | 10, ho => cases ho; first | rfl | cases hgd
                      | 11, ho => cases ho; first | rfl | cases hgd
                      | 12, ho => cases ho; first | rfl | cases hgd
                      | 13, ho => cases ho; first | rfl | cases hgd
                      | 14, ho => cases ho; first | rfl | cases hgd
                      | 15, ho => cases ho; first | rfl | cases hgd
                      | 16, ho => cases ho; first | rfl | cases hgd
                      | 17, ho => cases ho; first | rfl | cases hgd
                      | 18, ho => cases ho; first | rfl | cases hgd
                      | 19, ho => cases ho; first | rfl | cases hgd
                      | 20, ho => cases ho; first | rfl | cases hgd
                      | 21, ho => cases ho; first | rfl | cases hgd
                      | 22, ho => cases ho; first | rfl | cases hgd
                      | 23, ho => cases ho; first | rfl | cases hgd
                      | 24, ho => cases ho; first | rfl | cases hgd
                      | 25, ho => cases ho; first | rfl | cases hgd
                      | 26, ho => cases ho; first | rfl | cases hgd
                      | 27, ho => cases ho; first | rfl | cases hgd
                      | 28, ho => cases ho; first | rfl | cases hgd
                      | 29, ho => cases ho; first | rfl | cases hgd
                      | 30, ho => cases ho; first | rfl | cases hgd
                      | 31, ho => cases ho; first | rfl | cases hgd
                      | 32, ho => cases ho; first | rfl | cases hgd
                      | n + 33, ho => exact absurd ho (by simp)
                    case skip =>
                      intro i W hi hsel
                      match i, hi, hsel with
                      | 0, _, hsel => first | exact absurd hsel (by decide) | rfl
                      | 1, _, hsel => first | exact absurd hsel (by decide) | rfl
                      | 2, _, hsel => first | exact absurd hsel (by decide) | rfl
                      | 3, _, hsel => first | exact absurd hsel (by decide) | rfl
                      | 4, _, hsel => first | exact absurd hsel (by decide) | rfl
                      | 5, _, hsel => first | exact absurd hsel (by decide) | rfl
                      | 6, _, hsel => first | exact absurd hsel (by decide) | rfl
                      | 7, _, hsel => first | exact absurd hsel (by decide) | rfl
                      | 8, _, hsel => first | exact absurd hsel (by decide) | rfl
                      | 9, _, hsel => first | exact absurd hsel (by decide) | rfl
                      | 10, _, hsel => first | exact absurd hsel (by decide) | rfl
                      | 11, _, hsel => first | exact absurd hsel (by decide) | rfl
                      | 12, _, hsel => first | exact absurd hsel (by decide) | rfl
                      | 13, _, hsel => first | exact absurd hsel (by decide) | rfl
                      | 14, _, hsel => first | exact absurd hsel (by decide) | rfl
                      | 15, _, hsel => first | exact absurd hsel (by decide) | rfl
                      | 16, _, hsel => first | exact absurd hsel (by decide) | rfl
                      | 17, _, hsel => first | exact absurd hsel (by decide) | rfl
                      | 18, _, hsel => first | exact absurd hsel (by decide) | rfl
                      | 19, _, hsel => first | exact absurd hsel (by decide) | rfl
                      | 20, _, hsel => first | exact absurd hsel (by decide) | rfl
                      | 21, _, hsel => first | exact absurd hsel (by decide) | rfl
                      | 22, _, hsel => first | exact absurd hsel (by decide) | rfl
                      | 23, _, hsel => first | exact absurd hsel (by decide) | rfl
                      | 24, _, hsel => first | exact absurd hsel (by decide) | rfl
                      | 25, _, hsel => first | exact absurd hsel (by decide) | rfl
                      | 26, _, hsel => first | exact absurd hsel (by decide) | rfl
                      | 27, _, hsel => first | exact absurd hsel (by decide) | rfl
                      | 28, _, hsel => first | exact absurd hsel (by decide) | rfl
                      | 29, _, hsel => first | exact absurd hsel (by decide) | rfl
                      | 30, _, hsel => first | exact absurd hsel (by decide) | rfl
                      | 31, _, hsel => first | exact absurd hsel (by decide) | rfl
                      | 32, _, hsel => first | exact absurd hsel (by decide) | rfl
                      | n + 33, hi, _ => exact absurd hi (by simp)
                    case step =>
                      intro f a' W i o ho hsel hpre hbel hrest
                      match i, ho, hsel with
                      | 0, ho, _ =>
                        cases ho
                        have q19 : a'.tmps.getD 19 undef = .int .i64 kx := (hrest 19 (by intro i hi; have hi : i < 33 := hi; show 158 + min i 32 ≠ _; omega))
                        have e19 := rg_ev q19
                        exact rg_same (.int .i64 kx) (by unfold Oper.wp execOp; go_simp; all_goals ((try simp only [e19]); (try go_simp); (try rw [if_pos (by omega)]); (try rw [if_neg (by omega)]); first | done | rfl | exact ⟨rfl, rfl⟩ | trivial)) rfl
                      | 1, ho, _ =>
                        cases ho
                        have q158 : a'.tmps.getD 158 undef = .int .i64 kx := (hpre { on := 0, ground := .data } (by simp) rfl)
                        have e158 := rg_ev q158
                        exact rg_same (.bool false) (by unfold Oper.wp execOp; go_simp; all_goals ((try simp only [e158, n1]); (try go_simp); (try simp only [n1]); (try go_simp); first | done | rfl | exact ⟨rfl, rfl⟩ | trivial)) rfl
                      | 2, ho, _ =>
                        cases ho
                        have q159 : a'.tmps.getD 159 undef = .bool false := (hpre { on := 1, ground := .data } (by simp) rfl)
                        have e159 := rg_ev q159
                        exact rg_same (.bool false) (by unfold Oper.wp execOp; go_simp; all_goals ((try simp only [e159]); (try go_simp); (try rw [if_pos (by omega)]); (try rw [if_neg (by omega)]); first | done | rfl | exact ⟨rfl, rfl⟩ | trivial)) rfl
                      | 3, ho, _ =>
                        cases ho
                        have q19 : a'.tmps.getD 19 undef = .int .i64 kx := (hrest 19 (by intro i hi; have hi : i < 33 := hi; show 158 + min i 32 ≠ _; omega))
                        have e19 := rg_ev q19
                        exact rg_same (.int .i64 kx) (by unfold Oper.wp execOp; go_simp; all_goals ((try simp only [e19]); (try go_simp); (try rw [if_pos (by omega)]); (try rw [if_neg (by omega)]); first | done | rfl | exact ⟨rfl, rfl⟩ | trivial)) rfl
                      | 4, ho, _ =>
                        cases ho
                        have q18 : a'.tmps.getD 18 undef = .int .i64 ix := (hrest 18 (by intro i hi; have hi : i < 33 := hi; show 158 + min i 32 ≠ _; omega))
                        have e18 := rg_ev q18
                        exact rg_same (.int .i64 ix) (by unfold Oper.wp execOp; go_simp; all_goals ((try simp only [e18]); (try go_simp); (try rw [if_pos (by omega)]); (try rw [if_neg (by omega)]); first | done | rfl | exact ⟨rfl, rfl⟩ | trivial)) rfl
                      | 5, ho, _ =>
                        cases ho
                        have q161 : a'.tmps.getD 161 undef = .int .i64 kx := (hpre { on := 3, ground := .data } (by simp) rfl)
                        have q162 : a'.tmps.getD 162 undef = .int .i64 ix := (hpre { on := 4, ground := .data } (by simp) rfl)
                        have e161 := rg_ev q161
                        have e162 := rg_ev q162
                        exact rg_same (.bool false) (by unfold Oper.wp execOp; go_simp; all_goals ((try simp only [e161, e162, n2]); (try go_simp); (try simp only [n2]); (try go_simp); first | done | rfl | exact ⟨rfl, rfl⟩ | trivial)) rfl
                      | 6, ho, _ =>
                        cases ho
                        have q160 : a'.tmps.getD 160 undef = .bool false := (hpre { on := 2, ground := .data } (by simp) rfl)
                        have q163 : a'.tmps.getD 163 undef = .bool false := (hpre { on := 5, ground := .data } (by simp) rfl)
                        have e160 := rg_ev q160
                        have e163 := rg_ev q163
                        exact rg_same (.bool false) (by unfold Oper.wp execOp; go_simp; all_goals ((try simp only [e160, e163]); (try go_simp); (try rw [if_pos (by omega)]); (try rw [if_neg (by omega)]); first | done | rfl | exact ⟨rfl, rfl⟩ | trivial)) rfl
                      | 7, ho, _ =>
                        cases ho
                        have q164 : a'.tmps.getD 164 undef = .bool false := (hpre { on := 6, ground := .data } (by simp) rfl)
                        have e164 := rg_ev q164
                        exact rg_same (.bool false) (by unfold Oper.wp execOp; go_simp; all_goals ((try simp only [e164]); (try go_simp); (try rw [if_pos (by omega)]); (try rw [if_neg (by omega)]); first | done | rfl | exact ⟨rfl, rfl⟩ | trivial)) rfl
                      | 8, ho, _ =>
                        cases ho
                        have q18 : a'.tmps.getD 18 undef = .int .i64 ix := (hrest 18 (by intro i hi; have hi : i < 33 := hi; show 158 + min i 32 ≠ _; omega))
                        have e18 := rg_ev q18
                        exact rg_same (.int .i64 ix) (by unfold Oper.wp execOp; go_simp; all_goals ((try simp only [e18]); (try go_simp); (try rw [if_pos (by omega)]); (try rw [if_neg (by omega)]); first | done | rfl | exact ⟨rfl, rfl⟩ | trivial)) rfl
                      | 9, ho, _ =>
                        cases ho
                        have q7 : a'.tmps.getD 7 undef = .pointer (some ⟨H, 0, none⟩) := (hrest 7 (by intro i hi; have hi : i < 33 := hi; show 158 + min i 32 ≠ _; omega))
                        have x0 := (HBOX.out W (HBXV.out.trans (hbel.mono HBXV.out.size))).1
                        have e7 := rg_ev q7
                        exact rg_same (.slice (some ⟨bh, oh, none⟩) nh c11) (by unfold Oper.wp execOp; go_simp; all_goals ((try simp only [e7]); (try go_simp); (try rw [if_pos (by omega)]); (try rw [if_neg (by omega)]); first | done | rfl | exact ⟨rfl, rfl⟩ | trivial)) rfl
                      | 10, ho, _ =>
                        cases ho
                        have q167 : a'.tmps.getD 167 undef = .slice (some ⟨bh, oh, none⟩) nh c11 := (hpre { on := 9, ground := .data } (by simp) rfl)
                        have e167 := rg_ev q167
                        exact rg_same (.int .i64 nh) (by unfold Oper.wp execOp; go_simp; all_goals ((try simp only [e167]); (try go_simp); (try rw [if_pos (by omega)]); (try rw [if_neg (by omega)]); first | done | rfl | exact ⟨rfl, rfl⟩ | trivial)) rfl
                      | 11, ho, _ =>
                        cases ho
                        have q166 : a'.tmps.getD 166 undef = .int .i64 ix := (hpre { on := 8, ground := .data } (by simp) rfl)
                        have q168 : a'.tmps.getD 168 undef = .int .i64 nh := (hpre { on := 10, ground := .data } (by simp) rfl)
                        have e166 := rg_ev q166
                        have e168 := rg_ev q168
                        exact rg_same (.bool false) (by unfold Oper.wp execOp; go_simp; all_goals ((try simp only [e166, e168, n3]); (try go_simp); (try simp only [n3]); (try go_simp); first | done | rfl | exact ⟨rfl, rfl⟩ | trivial)) rfl
                      | 12, ho, _ =>
                        cases ho
                        have q165 : a'.tmps.getD 165 undef = .bool false := (hpre { on := 7, ground := .data } (by simp) rfl)
                        have q169 : a'.tmps.getD 169 undef = .bool false := (hpre { on := 11, ground := .data } (by simp) rfl)
                        have e165 := rg_ev q165
                        have e169 := rg_ev q169
                        exact rg_same (.bool false) (by unfold Oper.wp execOp; go_simp; all_goals ((try simp only [e165, e169]); (try go_simp); (try rw [if_pos (by omega)]); (try rw [if_neg (by omega)]); first | done | rfl | exact ⟨rfl, rfl⟩ | trivial)) rfl
                      | 13, ho, _ =>
                        cases ho
                        have q170 : a'.tmps.getD 170 undef = .bool false := (hpre { on := 12, ground := .data } (by simp) rfl)
                        have e170 := rg_ev q170
                        exact rg_same (.bool false) (by unfold Oper.wp execOp; go_simp; all_goals ((try simp only [e170]); (try go_simp); (try rw [if_pos (by omega)]); (try rw [if_neg (by omega)]); first | done | rfl | exact ⟨rfl, rfl⟩ | trivial)) rfl
                      | 14, ho, _ =>
                        cases ho
                        have q7 : a'.tmps.getD 7 undef = .pointer (some ⟨H, 0, none⟩) := (hrest 7 (by intro i hi; have hi : i < 33 := hi; show 158 + min i 32 ≠ _; omega))
                        have x0 := (HBOX.out W (HBXV.out.trans (hbel.mono HBXV.out.size))).1
                        have e7 := rg_ev q7
                        exact rg_same (.slice (some ⟨bh, oh, none⟩) nh c11) (by unfold Oper.wp execOp; go_simp; all_goals ((try simp only [e7]); (try go_simp); (try rw [if_pos (by omega)]); (try rw [if_neg (by omega)]); first | done | rfl | exact ⟨rfl, rfl⟩ | trivial)) rfl
                      | 15, ho, _ =>
                        cases ho
                        have q19 : a'.tmps.getD 19 undef = .int .i64 kx := (hrest 19 (by intro i hi; have hi : i < 33 := hi; show 158 + min i 32 ≠ _; omega))
                        have e19 := rg_ev q19
                        exact rg_same (.int .i64 kx) (by unfold Oper.wp execOp; go_simp; all_goals ((try simp only [e19]); (try go_simp); (try rw [if_pos (by omega)]); (try rw [if_neg (by omega)]); first | done | rfl | exact ⟨rfl, rfl⟩ | trivial)) rfl
                      | 16, ho, _ =>
                        cases ho
                        have q172 : a'.tmps.getD 172 undef = .slice (some ⟨bh, oh, none⟩) nh c11 := (hpre { on := 14, ground := .data } (by simp) rfl)
                        have q173 : a'.tmps.getD 173 undef = .int .i64 kx := (hpre { on := 15, ground := .data } (by simp) rfl)
                        have e172 := rg_ev q172
                        have e173 := rg_ev q173
                        exact rg_same (.pointer (some ⟨bh, oh + kx, none⟩)) (by unfold Oper.wp execOp; go_simp; all_goals ((try simp only [e172, e173]); (try go_simp); (try rw [if_pos (by omega)]); (try rw [if_neg (by omega)]); first | done | rfl | exact ⟨rfl, rfl⟩ | trivial)) rfl
                      | 17, ho, _ =>
                        cases ho
                        have q174 : a'.tmps.getD 174 undef = .pointer (some ⟨bh, oh + kx, none⟩) := (hpre { on := 16, ground := .data } (by simp) rfl)
                        have x0 := HTK2.out.2.2.2 W (HBXV.out.trans (hbel.mono HBXV.out.size))
                        have e174 := rg_ev q174
                        exact rg_same (.string tk) (by unfold Oper.wp execOp; go_simp; all_goals ((try simp only [e174]); (try go_simp); (try rw [if_pos (by omega)]); (try rw [if_neg (by omega)]); first | done | rfl | exact ⟨rfl, rfl⟩ | trivial)) rfl
                      | 18, ho, _ =>
                        cases ho
                        have q7 : a'.tmps.getD 7 undef = .pointer (some ⟨H, 0, none⟩) := (hrest 7 (by intro i hi; have hi : i < 33 := hi; show 158 + min i 32 ≠ _; omega))
                        have x0 := (HBOX.out W (HBXV.out.trans (hbel.mono HBXV.out.size))).1
                        have e7 := rg_ev q7
                        exact rg_same (.slice (some ⟨bh, oh, none⟩) nh c11) (by unfold Oper.wp execOp; go_simp; all_goals ((try simp only [e7]); (try go_simp); (try rw [if_pos (by omega)]); (try rw [if_neg (by omega)]); first | done | rfl | exact ⟨rfl, rfl⟩ | trivial)) rfl
                      | 19, ho, _ =>
                        cases ho
                        have q18 : a'.tmps.getD 18 undef = .int .i64 ix := (hrest 18 (by intro i hi; have hi : i < 33 := hi; show 158 + min i 32 ≠ _; omega))
                        have e18 := rg_ev q18
                        exact rg_same (.int .i64 ix) (by unfold Oper.wp execOp; go_simp; all_goals ((try simp only [e18]); (try go_simp); (try rw [if_pos (by omega)]); (try rw [if_neg (by omega)]); first | done | rfl | exact ⟨rfl, rfl⟩ | trivial)) rfl
                      | 20, ho, _ =>
                        cases ho
                        have q176 : a'.tmps.getD 176 undef = .slice (some ⟨bh, oh, none⟩) nh c11 := (hpre { on := 18, ground := .data } (by simp) rfl)
                        have q177 : a'.tmps.getD 177 undef = .int .i64 ix := (hpre { on := 19, ground := .data } (by simp) rfl)
                        have e176 := rg_ev q176
                        have e177 := rg_ev q177
                        exact rg_same (.pointer (some ⟨bh, oh + ix, none⟩)) (by unfold Oper.wp execOp; go_simp; all_goals ((try simp only [e176, e177]); (try go_simp); (try rw [if_pos (by omega)]); (try rw [if_neg (by omega)]); first | done | rfl | exact ⟨rfl, rfl⟩ | trivial)) rfl
                      | 21, ho, _ =>
                        cases ho
                        have q178 : a'.tmps.getD 178 undef = .pointer (some ⟨bh, oh + ix, none⟩) := (hpre { on := 20, ground := .data } (by simp) rfl)
                        have x0 := HTI.out.2.2.2 W (HBXV.out.trans (hbel.mono HBXV.out.size))
                        have e178 := rg_ev q178
                        exact rg_same (.string ti) (by unfold Oper.wp execOp; go_simp; all_goals ((try simp only [e178]); (try go_simp); (try rw [if_pos (by omega)]); (try rw [if_neg (by omega)]); first | done | rfl | exact ⟨rfl, rfl⟩ | trivial)) rfl
                      | 22, ho, _ =>
                        cases ho
                        have q175 : a'.tmps.getD 175 undef = .string tk := (hpre { on := 17, ground := .data } (by simp) rfl)
                        have q179 : a'.tmps.getD 179 undef = .string ti := (hpre { on := 21, ground := .data } (by simp) rfl)
                        exact rg_call2 175 179 22 _ _ _ _ rfl q175 q179 (enters_of Tryz.func22 (by kernel_rfl) rfl) (KC1.out W (HBXV.out.trans (hbel.mono HBXV.out.size))) (fun e w' h => by
                          obtain ⟨rfl, hb⟩ := h
                          exact ⟨_, rfl, _, rfl, rfl, hb⟩)
                      | 23, ho, _ =>
                        cases ho
                        have q180 : a'.tmps.getD 180 undef = .bool true := (hpre { on := 22, ground := .data } (by simp) rfl)
                        have e180 := rg_ev q180
                        exact rg_same (.bool false) (by unfold Oper.wp execOp; go_simp; all_goals ((try simp only [e180]); (try go_simp); (try rw [if_pos (by omega)]); (try rw [if_neg (by omega)]); first | done | rfl | exact ⟨rfl, rfl⟩ | trivial)) rfl
                      | 24, ho, _ =>
                        cases ho
                        have q171 : a'.tmps.getD 171 undef = .bool false := (hpre { on := 13, ground := .data } (by simp) rfl)
                        have q181 : a'.tmps.getD 181 undef = .bool false := (hpre { on := 23, ground := .data } (by simp) rfl)
                        have e171 := rg_ev q171
                        have e181 := rg_ev q181
                        exact rg_same (.bool false) (by unfold Oper.wp execOp; go_simp; all_goals ((try simp only [e171, e181]); (try go_simp); (try rw [if_pos (by omega)]); (try rw [if_neg (by omega)]); first | done | rfl | exact ⟨rfl, rfl⟩ | trivial)) rfl
                      | 25, ho, _ =>
                        cases ho
                        have q182 : a'.tmps.getD 182 undef = .bool false := (hpre { on := 24, ground := .data } (by simp) rfl)
                        have e182 := rg_ev q182
                        exact rg_same (.bool false) (by unfold Oper.wp execOp; go_simp; all_goals ((try simp only [e182]); (try go_simp); (try rw [if_pos (by omega)]); (try rw [if_neg (by omega)]); first | done | rfl | exact ⟨rfl, rfl⟩ | trivial)) rfl
                      | 26, ho, _ =>
                        cases ho
                        have q12 : a'.tmps.getD 12 undef = .pointer (some ⟨A + 1, 0, none⟩) := (hrest 12 (by intro i hi; have hi : i < 33 := hi; show 158 + min i 32 ≠ _; omega))
                        have x0 := (HBOX.out W (HBXV.out.trans (hbel.mono HBXV.out.size))).2.2
                        have e12 := rg_ev q12
                        exact rg_same (.bool true) (by unfold Oper.wp execOp; go_simp; all_goals ((try simp only [e12]); (try go_simp); (try rw [if_pos (by omega)]); (try rw [if_neg (by omega)]); first | done | rfl | exact ⟨rfl, rfl⟩ | trivial)) rfl
                      | 27, ho, _ =>
                        cases ho
                        have q184 : a'.tmps.getD 184 undef = .bool true := (hpre { on := 26, ground := .data } (by simp) rfl)
                        have e184 := rg_ev q184
                        exact rg_same (.bool true) (by unfold Oper.wp execOp; go_simp; all_goals ((try simp only [e184]); (try go_simp); (try rw [if_pos (by omega)]); (try rw [if_neg (by omega)]); first | done | rfl | exact ⟨rfl, rfl⟩ | trivial)) rfl
                      | 28, ho, _ =>
                        cases ho
                        have q11 : a'.tmps.getD 11 undef = .pointer (some ⟨A, 0, none⟩) := (hrest 11 (by intro i hi; have hi : i < 33 := hi; show 158 + min i 32 ≠ _; omega))
                        have x0 := (HBOX.out W (HBXV.out.trans (hbel.mono HBXV.out.size))).2.1
                        have e11 := rg_ev q11
                        exact rg_same (.int .i64 f1) (by unfold Oper.wp execOp; go_simp; all_goals ((try simp only [e11]); (try go_simp); (try rw [if_pos (by omega)]); (try rw [if_neg (by omega)]); first | done | rfl | exact ⟨rfl, rfl⟩ | trivial)) rfl
                      | 29, ho, _ =>
                        cases ho
                        have q18 : a'.tmps.getD 18 undef = .int .i64 ix := (hrest 18 (by intro i hi; have hi : i < 33 := hi; show 158 + min i 32 ≠ _; omega))
                        have e18 := rg_ev q18
                        exact rg_same (.int .i64 ix) (by unfold Oper.wp execOp; go_simp; all_goals ((try simp only [e18]); (try go_simp); (try rw [if_pos (by omega)]); (try rw [if_neg (by omega)]); first | done | rfl | exact ⟨rfl, rfl⟩ | trivial)) rfl
                      | 30, ho, _ =>
                        cases ho
                        have q186 : a'.tmps.getD 186 undef = .int .i64 f1 := (hpre { on := 28, ground := .data } (by simp) rfl)
                        have q187 : a'.tmps.getD 187 undef = .int .i64 ix := (hpre { on := 29, ground := .data } (by simp) rfl)
                        have e186 := rg_ev q186
                        have e187 := rg_ev q187
                        exact rg_same (.bool false) (by unfold Oper.wp execOp; go_simp; all_goals ((try simp only [e186, e187, n4]); (try go_simp); (try simp only [n4]); (try go_simp); first | done | rfl | exact ⟨rfl, rfl⟩ | trivial)) rfl
                      | 31, ho, _ =>
                        cases ho
                        have q185 : a'.tmps.getD 185 undef = .bool true := (hpre { on := 27, ground := .data } (by simp) rfl)
                        have q188 : a'.tmps.getD 188 undef = .bool false := (hpre { on := 30, ground := .data } (by simp) rfl)
                        have e185 := rg_ev q185
                        have e188 := rg_ev q188
                        exact rg_same (.bool false) (by unfold Oper.wp execOp; go_simp; all_goals ((try simp only [e185, e188]); (try go_simp); (try rw [if_pos (by omega)]); (try rw [if_neg (by omega)]); first | done | rfl | exact ⟨rfl, rfl⟩ | trivial)) rfl
                      | 32, ho, _ =>
                        cases ho
                        have q183 : a'.tmps.getD 183 undef = .bool false := (hpre { on := 25, ground := .data } (by simp) rfl)
                        have q189 : a'.tmps.getD 189 undef = .bool false := (hpre { on := 31, ground := .data } (by simp) rfl)
                        have e183 := rg_ev q183
                        have e189 := rg_ev q189
                        exact rg_same (.bool false) (by unfold Oper.wp execOp; go_simp; all_goals ((try simp only [e183, e189]); (try go_simp); (try rw [if_pos (by omega)]); (try rw [if_neg (by omega)]); first | done | rfl | exact ⟨rfl, rfl⟩ | trivial)) rfl
                      | n + 33, ho, _ => exact absurd ho (by simp)
                    case done =>
                      intro vs W hbel hvs
                      have v0 : vs 0 = .int .i64 kx := hvs 0 (by decide)
                      have v1 : vs 1 = .bool false := hvs 1 (by decide)
                      have v2 : vs 2 = .bool false := hvs 2 (by decide)
                      have v3 : vs 3 = .int .i64 kx := hvs 3 (by decide)
                      have v4 : vs 4 = .int .i64 ix := hvs 4 (by decide)
                      have v5 : vs 5 = .bool false := hvs 5 (by decide)
                      have v6 : vs 6 = .bool false := hvs 6 (by decide)
                      have v7 : vs 7 = .bool false := hvs 7 (by decide)
                      have v8 : vs 8 = .int .i64 ix := hvs 8 (by decide)
                      have v9 : vs 9 = .slice (some ⟨bh, oh, none⟩) nh c11 := hvs 9 (by decide)
                      have v10 : vs 10 = .int .i64 nh := hvs 10 (by decide)
                      have v11 : vs 11 = .bool false := hvs 11 (by decide)
                      have v12 : vs 12 = .bool false := hvs 12 (by decide)
                      have v13 : vs 13 = .bool false := hvs 13 (by decide)
                      have v14 : vs 14 = .slice (some ⟨bh, oh, none⟩) nh c11 := hvs 14 (by decide)
                      have v15 : vs 15 = .int .i64 kx := hvs 15 (by decide)
                      have v16 : vs 16 = .pointer (some ⟨bh, oh + kx, none⟩) := hvs 16 (by decide)
                      have v17 : vs 17 = .string tk := hvs 17 (by decide)
                      have v18 : vs 18 = .slice (some ⟨bh, oh, none⟩) nh c11 := hvs 18 (by decide)
                      have v19 : vs 19 = .int .i64 ix := hvs 19 (by decide)
                      have v20 : vs 20 = .pointer (some ⟨bh, oh + ix, none⟩) := hvs 20 (by decide)
                      have v21 : vs 21 = .string ti := hvs 21 (by decide)
                      have v22 : vs 22 = .bool true := hvs 22 (by decide)
                      have v23 : vs 23 = .bool false := hvs 23 (by decide)
                      have v24 : vs 24 = .bool false := hvs 24 (by decide)
                      have v25 : vs 25 = .bool false := hvs 25 (by decide)
                      have v26 : vs 26 = .bool true := hvs 26 (by decide)
                      have v27 : vs 27 = .bool true := hvs 27 (by decide)
                      have v28 : vs 28 = .int .i64 f1 := hvs 28 (by decide)
                      have v29 : vs 29 = .int .i64 ix := hvs 29 (by decide)
                      have v30 : vs 30 = .bool false := hvs 30 (by decide)
                      have v31 : vs 31 = .bool false := hvs 31 (by decide)
                      have v32 : vs 32 = .bool false := hvs 32 (by decide)
                      have HBR := Lib.hid hbel
                      simp only [fillN, List.size_toArray, List.length_cons, List.length_nil, Nat.reduceAdd, show List.range 33 = [0, 1, 2, 3, 4, 5, 6, 7, 8, 9, 10, 11, 12, 13, 14, 15, 16, 17, 18, 19, 20, 21, 22, 23, 24, 25, 26, 27, 28, 29, 30, 31, 32] from rfl, List.foldl_cons, List.foldl_nil, show 158 + min 0 32 = 158 from rfl, show 158 + min 1 32 = 159 from rfl, show 158 + min 2 32 = 160 from rfl, show 158 + min 3 32 = 161 from rfl, show 158 + min 4 32 = 162 from rfl, show 158 + min 5 32 = 163 from rfl, show 158 + min 6 32 = 164 from rfl, show 158 + min 7 32 = 165 from rfl, show 158 + min 8 32 = 166 from rfl, show 158 + min 9 32 = 167 from rfl, show 158 + min 10 32 = 168 from rfl, show 158 + min 11 32 = 169 from rfl, show 158 + min 12 32 = 170 from rfl, show 158 + min 13 32 = 171 from rfl, show 158 + min 14 32 = 172 from rfl, show 158 + min 15 32 = 173 from rfl, show 158 + min 16 32 = 174 from rfl, show 158 + min 17 32 = 175 from rfl, show 158 + min 18 32 = 176 from rfl, show 158 + min 19 32 = 177 from rfl, show 158 + min 20 32 = 178 from rfl, show 158 + min 21 32 = 179 from rfl, show 158 + min 22 32 = 180 from rfl, show 158 + min 23 32 = 181 from rfl, show 158 + min 24 32 = 182 from rfl, show 158 + min 25 32 = 183 from rfl, show 158 + min 26 32 = 184 from rfl, show 158 + min 27 32 = 185 from rfl, show 158 + min 28 32 = 186 from rfl, show 158 + min 29 32 = 187 from rfl, show 158 + min 30 32 = 188 from rfl, show 158 + min 31 32 = 189 from rfl, show 158 + min 32 32 = 190 from rfl, v0, v1, v2, v3, v4, v5, v6, v7, v8, v9, v10, v11, v12, v13, v14, v15, v16, v17, v18, v19, v20, v21, v22, v23, v24, v25, v26, v27, v28, v29, v30, v31, v32]
                      clear v0 v1 v2 v3 v4 v5 v6 v7 v8 v9 v10 v11 v12 v13 v14 v15 v16 v17 v18 v19 v20 v21 v22 v23 v24 v25 v26 v27 v28 v29 v30 v31 v32 hvs hbel
                      go_simp
                      gi_wp2_with fail
                      change KeepsFrom _ _ _ ∧ _ ∧ _
                      exact ⟨⟨HBR.out.size, fun k o _ h1 _ => (HBR.out.block k (Array.getElem?_eq_some_iff.1 h1).1).trans h1⟩, KeepB.below HBR.out, HBX7.out.trans (HBR.out.mono HBX7.out.size)⟩
                  | false =>
                    gi_wp2_with fail
                    refine region_slotsR (fun i => 158 + min i 32) (rmB bh oh nh c11 ix kx f1 ti tk) (fun i => ([true, true, true, true, true, true, true, true, true, true, true, true, true, true, true, true, true, true, true, true, true, true, true, true, true, true, true, true, false, false, false, true, true] : List Bool).getD i true) (by kernel_rfl) (by kernel_rfl) (by kernel_rfl) (fun i => by show 158 + min i 32 < _; simp; omega) (fun i j hi hj h => by have hi : i < 33 := hi; have hj : j < 33 := hj; omega) ?mono ?dst ?gu ?ng ?skip ?step ?done
                    case mono =>
                      intro i W W' v h hbw
                      match i, h with
                      | 0, h | 1, h | 2, h | 3, h | 4, h | 5, h | 6, h | 7, h | 8, h | 9, h | 10, h | 11, h | 12, h | 13, h | 14, h | 15, h | 16, h | 17, h | 18, h | 19, h | 20, h | 21, h | 22, h | 23, h | 24, h | 25, h | 26, h | 27, h | 28, h | 29, h | 30, h | 31, h | 32, h => exact h
                      | n + 33, h => exact h.elim
                    case dst =>
                      intro i o ho
                      match i, ho with
                      | 0, ho | 1, ho | 2, ho | 3, ho | 4, ho | 5, ho | 6, ho | 7, ho | 8, ho | 9, ho | 10, ho | 11, ho | 12, ho | 13, ho | 14, ho | 15, ho | 16, ho | 17, ho | 18, ho | 19, ho | 20, ho | 21, ho | 22, ho | 23, ho | 24, ho | 25, ho | 26, ho | 27, ho | 28, ho | 29, ho | 30, ho | 31, ho | 32, ho => cases ho; rfl
                      | n + 33, ho => exact absurd ho (by simp)
                    case gu =>
                      intro i o g b ho hgd W v hv
                      match i, ho with
                      | 0, ho => cases ho; cases hgd
                      | 1, ho => cases ho; cases hgd
                      | 2, ho => cases ho; cases hgd
                      | 3, ho => cases ho; cases hgd; first | exact .inl hv | exact .inr ⟨rfl, hv⟩
                      | 4, ho => cases ho; cases hgd; first | exact .inl hv | exact .inr ⟨rfl, hv⟩
                      | 5, ho => cases ho; cases hgd; first | exact .inl hv | exact .inr ⟨rfl, hv⟩
                      | 6, ho => cases ho; cases hgd
                      | 7, ho => cases ho; cases hgd
                      | 8, ho => cases ho; cases hgd; first | exact .inl hv | exact .inr ⟨rfl, hv⟩
                      | 9, ho => cases ho; cases hgd; first | exact .inl hv | exact .inr ⟨rfl, hv⟩
                      | 10, ho => cases ho; cases hgd; first | exact .inl hv | exact .inr ⟨rfl, hv⟩
                      | 11, ho => cases ho; cases hgd; first | exact .inl hv | exact .inr ⟨rfl, hv⟩
                      | 12, ho => cases ho; cases hgd
                      | 13, ho => cases ho; cases hgd
                      | 14, ho => cases ho; cases hgd; first | exact .inl hv | exact .inr ⟨rfl, hv⟩
                      | 15, ho => cases ho; cases hgd; first | exact .inl hv | exact .inr ⟨rfl, hv⟩
                      | 16, ho => cases ho; cases hgd; first | exact .inl hv | exact .inr ⟨rfl, hv⟩
                      | 17, ho => cases ho; cases hgd; first | exact .inl hv | exact .inr ⟨rfl, hv⟩
                      | 18, ho => cases ho; cases hgd; first | exact .inl hv | exact .inr ⟨rfl, hv⟩
                      | 19, ho => cases ho; cases hgd; first | exact .inl hv | exact .inr ⟨rfl, hv⟩
                      | 20, ho => cases ho; cases hgd; first | exact .inl hv | exact .inr ⟨rfl, hv⟩
                      | 21, ho => cases ho; cases hgd; first | exact .inl hv | exact .inr ⟨rfl, hv⟩
                      | 22, ho => cases ho; cases hgd; first | exact .inl hv | exact .inr ⟨rfl, hv⟩
                      | 23, ho => cases ho; cases hgd; first | exact .inl hv | exact .inr ⟨rfl, hv⟩
                      | 24, ho => cases ho; cases hgd
                      | 25, ho => cases ho; cases hgd
                      | 26, ho => cases ho; cases hgd; first | exact .inl hv | exact .inr ⟨rfl, hv⟩
                      | 27, ho => cases ho; cases hgd; first | exact .inl hv | exact .inr ⟨rfl, hv⟩
                      | 28, ho => cases ho; cases hgd; first | exact .inl hv | exact .inr ⟨rfl, hv⟩
                      | 29, ho => cases ho; cases hgd; first | exact .inl hv | exact .inr ⟨rfl, hv⟩
                      | 30, ho => cases ho; cases hgd; first | exact .inl hv | exact .inr ⟨rfl, hv⟩
                      | 31, ho => cases ho; cases hgd; first | exact .inl hv | exact .inr ⟨rfl, hv⟩
                      | 32, ho => cases ho; cases hgd
                      | n + 33, ho => exact absurd ho (by simp)
                    case ng =>
                      intro i o ho hgd
                      match i, ho with
                      | 0, ho => cases ho; first | rfl | cases hgd
                      | 1, ho => cases ho; first | rfl | cases hgd
                      | 2, ho => cases ho; first | rfl | cases hgd
                      | 3, ho => cases ho; first | rfl | cases hgd
                      | 4, ho => cases ho; first | rfl | cases hgd
                      | 5, ho => cases ho; first | rfl | cases hgd
                      | 6, ho => cases ho; first | rfl | cases hgd
                      | 7, ho => cases ho; first | rfl | cases hgd
                      | 8, ho => cases ho; first | rfl | cases hgd
                      | 9, ho => cases ho; first | rfl | cases hgd
                      | 10, ho => cases ho; first | rfl | cases hgd
                      | 11, ho => cases ho; first | rfl | cases hgd
                      | 12, ho => cases ho; first | rfl | cases hgd
                      | 13, ho => cases ho; first | rfl | cases hgd
                      | 14, ho => cases ho; first | rfl | cases hgd
                      | 15, ho => cases ho; first | rfl | cases hgd
                      | 16, ho => cases ho; first | rfl | cases hgd
                      | 17, ho => cases ho; first | rfl | cases hgd
                      | 18, ho => cases ho; first | rfl | cases hgd
                      | 19, ho => cases ho; first | rfl | cases hgd
                      | 20, ho => cases ho; first | rfl | cases hgd
                      | 21, ho => cases ho; first | rfl | cases hgd
                      | 22, ho => cases ho; first | rfl | cases hgd
                      | 23, ho => cases ho; first | rfl | cases hgd
                      | 24, ho => cases ho; first | rfl | cases hgd
                      | 25, ho => cases ho; first | rfl | cases hgd
                      | 26, ho => cases ho; first | rfl | cases hgd
                      | 27, ho => cases ho; first | rfl | cases hgd
                      | 28, ho => cases ho; first | rfl | cases hgd
                      | 29, ho => cases ho; first | rfl | cases hgd
                      | 30, ho => cases ho; first | rfl | cases hgd
                      | 31, ho => cases ho; first | rfl | cases hgd
                      | 32, ho => cases ho; first | rfl | cases hgd
                      | n + 33, ho => exact absurd ho (by simp)
                    case skip =>
                      intro i W hi hsel
                      match i, hi, hsel with
                      | 0, _, hsel => first | exact absurd hsel (by decide) | rfl
                      | 1, _, hsel => first | exact absurd hsel (by decide) | rfl
                      | 2, _, hsel => first | exact absurd hsel (by decide) | rfl
                      | 3, _, hsel => first | exact absurd hsel (by decide) | rfl
                      | 4, _, hsel => first | exact absurd hsel (by decide) | rfl
                      | 5, _, hsel => first | exact absurd hsel (by decide) | rfl
                      | 6, _, hsel => first | exact absurd hsel (by decide) | rfl
                      | 7, _, hsel => first | exact absurd hsel (by decide) | rfl
                      | 8, _, hsel => first | exact absurd hsel (by decide) | rfl
                      | 9, _, hsel => first | exact absurd hsel (by decide) | rfl
                      | 10, _, hsel => first | exact absurd hsel (by decide) | rfl
                      | 11, _, hsel => first | exact absurd hsel (by decide) | rfl
                      | 12, _, hsel => first | exact absurd hsel (by decide) | rfl
                      | 13, _, hsel => first | exact absurd hsel (by decide) | rfl
                      | 14, _, hsel => first | exact absurd hsel (by decide) | rfl
                      | 15, _, hsel => first | exact absurd hsel (by decide) | rfl
                      | 16, _, hsel => first | exact absurd hsel (by decide) | rfl
                      | 17, _, hsel => first | exact absurd hsel (by decide) | rfl
                      | 18, _, hsel => first | exact absurd hsel (by decide) | rfl
                      | 19, _, hsel => first | exact absurd hsel (by decide) | rfl
                      | 20, _, hsel => first | exact absurd hsel (by decide) | rfl
                      | 21, _, hsel => first | exact absurd hsel (by decide) | rfl
                      | 22, _, hsel => first | exact absurd hsel (by decide) | rfl
                      | 23, _, hsel => first | exact absurd hsel (by decide) | rfl
                      | 24, _, hsel => first | exact absurd hsel (by decide) | rfl
                      | 25, _, hsel => first | exact absurd hsel (by decide) | rfl
                      | 26, _, hsel => first | exact absurd hsel (by decide) | rfl
                      | 27, _, hsel => first | exact absurd hsel (by decide) | rfl
                      | 28, _, hsel => first | exact absurd hsel (by decide) | rfl
                      | 29, _, hsel => first | exact absurd hsel (by decide) | rfl
                      | 30, _, hsel => first | exact absurd hsel (by decide) | rfl
                      | 31, _, hsel => first | exact absurd hsel (by decide) | rfl
                      | 32, _, hsel => first | exact absurd hsel (by decide) | rfl
                      | n + 33, hi, _ => exact absurd hi (by simp)
                    case step =>
                      intro f a' W i o ho hsel hpre hbel hrest
                      match i, ho, hsel with
                      | 0, ho, _ =>
                        cases ho
                        have q19 : a'.tmps.getD 19 undef = .int .i64 kx := (hrest 19 (by intro i hi; have hi : i < 33 := hi; show 158 + min i 32 ≠ _; omega))
                        have e19 := rg_ev q19
                        exact rg_same (.int .i64 kx) (by unfold Oper.wp execOp; go_simp; all_goals ((try simp only [e19]); (try go_simp); (try rw [if_pos (by omega)]); (try rw [if_neg (by omega)]); first | done | rfl | exact ⟨rfl, rfl⟩ | trivial)) rfl
                      | 1, ho, _ =>
                        cases ho
                        have q158 : a'.tmps.getD 158 undef = .int .i64 kx := (hpre { on := 0, ground := .data } (by simp) rfl)
                        have e158 := rg_ev q158
                        exact rg_same (.bool false) (by unfold Oper.wp execOp; go_simp; all_goals ((try simp only [e158, n1]); (try go_simp); (try simp only [n1]); (try go_simp); first | done | rfl | exact ⟨rfl, rfl⟩ | trivial)) rfl
                      | 2, ho, _ =>
                        cases ho
                        have q159 : a'.tmps.getD 159 undef = .bool false := (hpre { on := 1, ground := .data } (by simp) rfl)
                        have e159 := rg_ev q159
                        exact rg_same (.bool false) (by unfold Oper.wp execOp; go_simp; all_goals ((try simp only [e159]); (try go_simp); (try rw [if_pos (by omega)]); (try rw [if_neg (by omega)]); first | done | rfl | exact ⟨rfl, rfl⟩ | trivial)) rfl
                      | 3, ho, _ =>
                        cases ho
                        have q19 : a'.tmps.getD 19 undef = .int .i64 kx := (hrest 19 (by intro i hi; have hi : i < 33 := hi; show 158 + min i 32 ≠ _; omega))
                        have e19 := rg_ev q19
                        exact rg_same (.int .i64 kx) (by unfold Oper.wp execOp; go_simp; all_goals ((try simp only [e19]); (try go_simp); (try rw [if_pos (by omega)]); (try rw [if_neg (by omega)]); first | done | rfl | exact ⟨rfl, rfl⟩ | trivial)) rfl
                      | 4, ho, _ =>
                        cases ho
                        have q18 : a'.tmps.getD 18 undef = .int .i64 ix := (hrest 18 (by intro i hi; have hi : i < 33 := hi; show 158 + min i 32 ≠ _; omega))
                        have e18 := rg_ev q18
                        exact rg_same (.int .i64 ix) (by unfold Oper.wp execOp; go_simp; all_goals ((try simp only [e18]); (try go_simp); (try rw [if_pos (by omega)]); (try rw [if_neg (by omega)]); first | done | rfl | exact ⟨rfl, rfl⟩ | trivial)) rfl
                      | 5, ho, _ =>
                        cases ho
                        have q161 : a'.tmps.getD 161 undef = .int .i64 kx := (hpre { on := 3, ground := .data } (by simp) rfl)
                        have q162 : a'.tmps.getD 162 undef = .int .i64 ix := (hpre { on := 4, ground := .data } (by simp) rfl)
                        have e161 := rg_ev q161
                        have e162 := rg_ev q162
                        exact rg_same (.bool false) (by unfold Oper.wp execOp; go_simp; all_goals ((try simp only [e161, e162, n2]); (try go_simp); (try simp only [n2]); (try go_simp); first | done | rfl | exact ⟨rfl, rfl⟩ | trivial)) rfl
                      | 6, ho, _ =>
                        cases ho
                        have q160 : a'.tmps.getD 160 undef = .bool false := (hpre { on := 2, ground := .data } (by simp) rfl)
                        have q163 : a'.tmps.getD 163 undef = .bool false := (hpre { on := 5, ground := .data } (by simp) rfl)
                        have e160 := rg_ev q160
                        have e163 := rg_ev q163
                        exact rg_same (.bool false) (by unfold Oper.wp execOp; go_simp; all_goals ((try simp only [e160, e163]); (try go_simp); (try rw [if_pos (by omega)]); (try rw [if_neg (by omega)]); first | done | rfl | exact ⟨rfl, rfl⟩ | trivial)) rfl
                      | 7, ho, _ =>
                        cases ho
                        have q164 : a'.tmps.getD 164 undef = .bool false := (hpre { on := 6, ground := .data } (by simp) rfl)
                        have e164 := rg_ev q164
                        exact rg_same (.bool false) (by unfold Oper.wp execOp; go_simp; all_goals ((try simp only [e164]); (try go_simp); (try rw [if_pos (by omega)]); (try rw [if_neg (by omega)]); first | done | rfl | exact ⟨rfl, rfl⟩ | trivial)) rfl
                      | 8, ho, _ =>
                        cases ho
                        have q18 : a'.tmps.getD 18 undef = .int .i64 ix := (hrest 18 (by intro i hi; have hi : i < 33 := hi; show 158 + min i 32 ≠ _; omega))
                        have e18 := rg_ev q18
                        exact rg_same (.int .i64 ix) (by unfold Oper.wp execOp; go_simp; all_goals ((try simp only [e18]); (try go_simp); (try rw [if_pos (by omega)]); (try rw [if_neg (by omega)]); first | done | rfl | exact ⟨rfl, rfl⟩ | trivial)) rfl
                      | 9, ho, _ =>
                        cases ho
                        have q7 : a'.tmps.getD 7 undef = .pointer (some ⟨H, 0, none⟩) := (hrest 7 (by intro i hi; have hi : i < 33 := hi; show 158 + min i 32 ≠ _; omega))
                        have x0 := (HBOX.out W (HBXV.out.trans (hbel.mono HBXV.out.size))).1
                        have e7 := rg_ev q7
                        exact rg_same (.slice (some ⟨bh, oh, none⟩) nh c11) (by unfold Oper.wp execOp; go_simp; all_goals ((try simp only [e7]); (try go_simp); (try rw [if_pos (by omega)]); (try rw [if_neg (by omega)]); first | done | rfl | exact ⟨rfl, rfl⟩ | trivial)) rfl
                      | 10, ho, _ =>
                        cases ho
                        have q167 : a'.tmps.getD 167 undef = .slice (some ⟨bh, oh, none⟩) nh c11 := (hpre { on := 9, ground := .data } (by simp) rfl)
                        have e167 := rg_ev q167
                        exact rg_same (.int .i64 nh) (by unfold Oper.wp execOp; go_simp; all_goals ((try simp only [e167]); (try go_simp); (try rw [if_pos (by omega)]); (try rw [if_neg (by omega)]); first | done | rfl | exact ⟨rfl, rfl⟩ | trivial)) rfl
                      | 11, ho, _ =>
                        cases ho
                        have q166 : a'.tmps.getD 166 undef = .int .i64 ix := (hpre { on := 8, ground := .data } (by simp) rfl)
                        have q168 : a'.tmps.getD 168 undef = .int .i64 nh := (hpre { on := 10, ground := .data } (by simp) rfl)
                        have e166 := rg_ev q166
                        have e168 := rg_ev q168
                        exact rg_same (.bool false) (by unfold Oper.wp execOp; go_simp; all_goals ((try simp only [e166, e168, n3]); (try go_simp); (try simp only [n3]); (try go_simp); first | done | rfl | exact ⟨rfl, rfl⟩ | trivial)) rfl
                      | 12, ho, _ =>
                        cases ho
                        have q165 : a'.tmps.getD 165 undef = .bool false := (hpre { on := 7, ground := .data } (by simp) rfl)
                        have q169 : a'.tmps.getD 169 undef = .bool false := (hpre { on := 11, ground := .data } (by simp) rfl)
                        have e165 := rg_ev q165
                        have e169 := rg_ev q169
                        exact rg_same (.bool false) (by unfold Oper.wp execOp; go_simp; all_goals ((try simp only [e165, e169]); (try go_simp); (try rw [if_pos (by omega)]); (try rw [if_neg (by omega)]); first | done | rfl | exact ⟨rfl, rfl⟩ | trivial)) rfl
                      | 13, ho, _ =>
                        cases ho
                        have q170 : a'.tmps.getD 170 undef = .bool false := (hpre { on := 12, ground := .data } (by simp) rfl)
                        have e170 := rg_ev q170
                        exact rg_same (.bool false) (by unfold Oper.wp execOp; go_simp; all_goals ((try simp only [e170]); (try go_simp); (try rw [if_pos (by omega)]); (try rw [if_neg (by omega)]); first | done | rfl | exact ⟨rfl, rfl⟩ | trivial)) rfl
                      | 14, ho, _ =>
                        cases ho
                        have q7 : a'.tmps.getD 7 undef = .pointer (some ⟨H, 0, none⟩) := (hrest 7 (by intro i hi; have hi : i < 33 := hi; show 158 + min i 32 ≠ _; omega))
                        have x0 := (HBOX.out W (HBXV.out.trans (hbel.mono HBXV.out.size))).1
                        have e7 := rg_ev q7
                        exact rg_same (.slice (some ⟨bh, oh, none⟩) nh c11) (by unfold Oper.wp execOp; go_simp; all_goals ((try simp only [e7]); (try go_simp); (try rw [if_pos (by omega)]); (try rw [if_neg (by omega)]); first | done | rfl | exact ⟨rfl, rfl⟩ | trivial)) rfl
                      | 15, ho, _ =>
                        cases ho
                        have q19 : a'.tmps.getD 19 undef = .int .i64 kx := (hrest 19 (by intro i hi; have hi : i < 33 := hi; show 158 + min i 32 ≠ _; omega))
                        have e19 := rg_ev q19
                        exact rg_same (.int .i64 kx) (by unfold Oper.wp execOp; go_simp; all_goals ((try simp only [e19]); (try go_simp); (try rw [if_pos (by omega)]); (try rw [if_neg (by omega)]); first | done | rfl | exact ⟨rfl, rfl⟩ | trivial)) rfl
                      | 16, ho, _ =>
                        cases ho
                        have q172 : a'.tmps.getD 172 undef = .slice (some ⟨bh, oh, none⟩) nh c11 := (hpre { on := 14, ground := .data } (by simp) rfl)
                        have q173 : a'.tmps.getD 173 undef = .int .i64 kx := (hpre { on := 15, ground := .data } (by simp) rfl)
                        have e172 := rg_ev q172
                        have e173 := rg_ev q173
                        exact rg_same (.pointer (some ⟨bh, oh + kx, none⟩)) (by unfold Oper.wp execOp; go_simp; all_goals ((try simp only [e172, e173]); (try go_simp); (try rw [if_pos (by omega)]); (try rw [if_neg (by omega)]); first | done | rfl | exact ⟨rfl, rfl⟩ | trivial)) rfl
                      | 17, ho, _ =>
                        cases ho
                        have q174 : a'.tmps.getD 174 undef = .pointer (some ⟨bh, oh + kx, none⟩) := (hpre { on := 16, ground := .data } (by simp) rfl)
                        have x0 := HTK2.out.2.2.2 W (HBXV.out.trans (hbel.mono HBXV.out.size))
                        have e174 := rg_ev q174
                        exact rg_same (.string tk) (by unfold Oper.wp execOp; go_simp; all_goals ((try simp only [e174]); (try go_simp); (try rw [if_pos (by omega)]); (try rw [if_neg (by omega)]); first | done | rfl | exact ⟨rfl, rfl⟩ | trivial)) rfl
                      | 18, ho, _ =>
                        cases ho
                        have q7 : a'.tmps.getD 7 undef = .pointer (some ⟨H, 0, none⟩) := (hrest 7 (by intro i hi; have hi : i < 33 := hi; show 158 + min i 32 ≠ _; omega))
                        have x0 := (HBOX.out W (HBXV.out.trans (hbel.mono HBXV.out.size))).1
                        have e7 := rg_ev q7
                        exact rg_same (.slice (some ⟨bh, oh, none⟩) nh c11) (by unfold Oper.wp execOp; go_simp; all_goals ((try simp only [e7]); (try go_simp); (try rw [if_pos (by omega)]); (try rw [if_neg (by omega)]); first | done | rfl | exact ⟨rfl, rfl⟩ | trivial)) rfl
                      | 19, ho, _ =>
                        cases ho
                        have q18 : a'.tmps.getD 18 undef = .int .i64 ix := (hrest 18 (by intro i hi; have hi : i < 33 := hi; show 158 + min i 32 ≠ _; omega))
                        have e18 := rg_ev q18
                        exact rg_same (.int .i64 ix) (by unfold Oper.wp execOp; go_simp; all_goals ((try simp only [e18]); (try go_simp); (try rw [if_pos (by omega)]); (try rw [if_neg (by omega)]); first | done | rfl | exact ⟨rfl, rfl⟩ | trivial)) rfl
                      | 20, ho, _ =>
                        cases ho
                        have q176 : a'.tmps.getD 176 undef = .slice (some ⟨bh, oh, none⟩) nh c11 := (hpre { on := 18, ground := .data } (by simp) rfl)
                        have q177 : a'.tmps.getD 177 undef = .int .i64 ix := (hpre { on := 19, ground := .data } (by simp) rfl)
                        have e176 := rg_ev q176
                        have e177 := rg_ev q177
                        exact rg_same (.pointer (some ⟨bh, oh + ix, none⟩)) (by unfold Oper.wp execOp; go_simp; all_goals ((try simp only [e176, e177]); (try go_simp); (try rw [if_pos (by omega)]); (try rw [if_neg (by omega)]); first | done | rfl | exact ⟨rfl, rfl⟩ | trivial)) rfl
                      | 21, ho, _ =>
                        cases ho
                        have q178 : a'.tmps.getD 178 undef = .pointer (some ⟨bh, oh + ix, none⟩) := (hpre { on := 20, ground := .data } (by simp) rfl)
                        have x0 := HTI.out.2.2.2 W (HBXV.out.trans (hbel.mono HBXV.out.size))
                        have e178 := rg_ev q178
                        exact rg_same (.string ti) (by unfold Oper.wp execOp; go_simp; all_goals ((try simp only [e178]); (try go_simp); (try rw [if_pos (by omega)]); (try rw [if_neg (by omega)]); first | done | rfl | exact ⟨rfl, rfl⟩ | trivial)) rfl
                      | 22, ho, _ =>
                        cases ho
                        have q175 : a'.tmps.getD 175 undef = .string tk := (hpre { on := 17, ground := .data } (by simp) rfl)
                        have q179 : a'.tmps.getD 179 undef = .string ti := (hpre { on := 21, ground := .data } (by simp) rfl)
                        exact rg_call2 175 179 22 _ _ _ _ rfl q175 q179 (enters_of Tryz.func22 (by kernel_rfl) rfl) (KC1.out W (HBXV.out.trans (hbel.mono HBXV.out.size))) (fun e w' h => by
                          obtain ⟨rfl, hb⟩ := h
                          exact ⟨_, rfl, _, rfl, rfl, hb⟩)
                      | 23, ho, _ =>
                        cases ho
                        have q180 : a'.tmps.getD 180 undef = .bool true := (hpre { on := 22, ground := .data } (by simp) rfl)
                        have e180 := rg_ev q180
                        exact rg_same (.bool false) (by unfold Oper.wp execOp; go_simp; all_goals ((try simp only [e180]); (try go_simp); (try rw [if_pos (by omega)]); (try rw [if_neg (by omega)]); first | done | rfl | exact ⟨rfl, rfl⟩ | trivial)) rfl
                      | 24, ho, _ =>
                        cases ho
                        have q171 : a'.tmps.getD 171 undef = .bool false := (hpre { on := 13, ground := .data } (by simp) rfl)
                        have q181 : a'.tmps.getD 181 undef = .bool false := (hpre { on := 23, ground := .data } (by simp) rfl)
                        have e171 := rg_ev q171
                        have e181 := rg_ev q181
                        exact rg_same (.bool false) (by unfold Oper.wp execOp; go_simp; all_goals ((try simp only [e171, e181]); (try go_simp); (try rw [if_pos (by omega)]); (try rw [if_neg (by omega)]); first | done | rfl | exact ⟨rfl, rfl⟩ | trivial)) rfl
                      | 25, ho, _ =>
                        cases ho
                        have q182 : a'.tmps.getD 182 undef = .bool false := (hpre { on := 24, ground := .data } (by simp) rfl)
                        have e182 := rg_ev q182
                        exact rg_same (.bool false) (by unfold Oper.wp execOp; go_simp; all_goals ((try simp only [e182]); (try go_simp); (try rw [if_pos (by omega)]); (try rw [if_neg (by omega)]); first | done | rfl | exact ⟨rfl, rfl⟩ | trivial)) rfl
                      | 26, ho, _ =>
                        cases ho
                        have q12 : a'.tmps.getD 12 undef = .pointer (some ⟨A + 1, 0, none⟩) := (hrest 12 (by intro i hi; have hi : i < 33 := hi; show 158 + min i 32 ≠ _; omega))
                        have x0 := (HBOX.out W (HBXV.out.trans (hbel.mono HBXV.out.size))).2.2
                        have e12 := rg_ev q12
                        exact rg_same (.bool false) (by unfold Oper.wp execOp; go_simp; all_goals ((try simp only [e12]); (try go_simp); (try rw [if_pos (by omega)]); (try rw [if_neg (by omega)]); first | done | rfl | exact ⟨rfl, rfl⟩ | trivial)) rfl
                      | 27, ho, _ =>
                        cases ho
                        have q184 : a'.tmps.getD 184 undef = .bool false := (hpre { on := 26, ground := .data } (by simp) rfl)
                        have e184 := rg_ev q184
                        exact rg_same (.bool false) (by unfold Oper.wp execOp; go_simp; all_goals ((try simp only [e184]); (try go_simp); (try rw [if_pos (by omega)]); (try rw [if_neg (by omega)]); first | done | rfl | exact ⟨rfl, rfl⟩ | trivial)) rfl
                      | 28, ho, hsel => exact absurd hsel (by decide)
                      | 29, ho, hsel => exact absurd hsel (by decide)
                      | 30, ho, hsel => exact absurd hsel (by decide)
                      | 31, ho, _ =>
                        cases ho
                        have q185 : a'.tmps.getD 185 undef = .bool false := (hpre { on := 27, ground := .data } (by simp) rfl)
                        have q188 : a'.tmps.getD 188 undef = undef := (hpre { on := 30, ground := .data } (by simp) rfl)
                        have e185 := rg_ev q185
                        have e188 := rg_ev q188
                        exact rg_same (.bool false) (by unfold Oper.wp execOp; go_simp; all_goals ((try simp only [e185, e188]); (try go_simp); (try rw [if_pos (by omega)]); (try rw [if_neg (by omega)]); first | done | rfl | exact ⟨rfl, rfl⟩ | trivial)) rfl
                      | 32, ho, _ =>
                        cases ho
                        have q183 : a'.tmps.getD 183 undef = .bool false := (hpre { on := 25, ground := .data } (by simp) rfl)
                        have q189 : a'.tmps.getD 189 undef = .bool false := (hpre { on := 31, ground := .data } (by simp) rfl)
                        have e183 := rg_ev q183
                        have e189 := rg_ev q189
                        exact rg_same (.bool false) (by unfold Oper.wp execOp; go_simp; all_goals ((try simp only [e183, e189]); (try go_simp); (try rw [if_pos (by omega)]); (try rw [if_neg (by omega)]); first | done | rfl | exact ⟨rfl, rfl⟩ | trivial)) rfl
                      | n + 33, ho, _ => exact absurd ho (by simp)
                    case done =>
                      intro vs W hbel hvs
                      have v0 : vs 0 = .int .i64 kx := hvs 0 (by decide)
                      have v1 : vs 1 = .bool false := hvs 1 (by decide)
                      have v2 : vs 2 = .bool false := hvs 2 (by decide)
                      have v3 : vs 3 = .int .i64 kx := hvs 3 (by decide)
                      have v4 : vs 4 = .int .i64 ix := hvs 4 (by decide)
                      have v5 : vs 5 = .bool false := hvs 5 (by decide)
                      have v6 : vs 6 = .bool false := hvs 6 (by decide)
                      have v7 : vs 7 = .bool false := hvs 7 (by decide)
                      have v8 : vs 8 = .int .i64 ix := hvs 8 (by decide)
                      have v9 : vs 9 = .slice (some ⟨bh, oh, none⟩) nh c11 := hvs 9 (by decide)
                      have v10 : vs 10 = .int .i64 nh := hvs 10 (by decide)
                      have v11 : vs 11 = .bool false := hvs 11 (by decide)
                      have v12 : vs 12 = .bool false := hvs 12 (by decide)
                      have v13 : vs 13 = .bool false := hvs 13 (by decide)
                      have v14 : vs 14 = .slice (some ⟨bh, oh, none⟩) nh c11 := hvs 14 (by decide)
                      have v15 : vs 15 = .int .i64 kx := hvs 15 (by decide)
                      have v16 : vs 16 = .pointer (some ⟨bh, oh + kx, none⟩) := hvs 16 (by decide)
                      have v17 : vs 17 = .string tk := hvs 17 (by decide)
                      have v18 : vs 18 = .slice (some ⟨bh, oh, none⟩) nh c11 := hvs 18 (by decide)
                      have v19 : vs 19 = .int .i64 ix := hvs 19 (by decide)
                      have v20 : vs 20 = .pointer (some ⟨bh, oh + ix, none⟩) := hvs 20 (by decide)
                      have v21 : vs 21 = .string ti := hvs 21 (by decide)
                      have v22 : vs 22 = .bool true := hvs 22 (by decide)
                      have v23 : vs 23 = .bool false := hvs 23 (by decide)
                      have v24 : vs 24 = .bool false := hvs 24 (by decide)
                      have v25 : vs 25 = .bool false := hvs 25 (by decide)
                      have v26 : vs 26 = .bool false := hvs 26 (by decide)
                      have v27 : vs 27 = .bool false := hvs 27 (by decide)
                      have v28 : vs 28 = undef := hvs 28 (by decide)
                      have v29 : vs 29 = undef := hvs 29 (by decide)
                      have v30 : vs 30 = undef := hvs 30 (by decide)
                      have v31 : vs 31 = .bool false := hvs 31 (by decide)
                      have v32 : vs 32 = .bool false := hvs 32 (by decide)
                      have HBR := Lib.hid hbel
                      simp only [fillN, List.size_toArray, List.length_cons, List.length_nil, Nat.reduceAdd, show List.range 33 = [0, 1, 2, 3, 4, 5, 6, 7, 8, 9, 10, 11, 12, 13, 14, 15, 16, 17, 18, 19, 20, 21, 22, 23, 24, 25, 26, 27, 28, 29, 30, 31, 32] from rfl, List.foldl_cons, List.foldl_nil, show 158 + min 0 32 = 158 from rfl, show 158 + min 1 32 = 159 from rfl, show 158 + min 2 32 = 160 from rfl, show 158 + min 3 32 = 161 from rfl, show 158 + min 4 32 = 162 from rfl, show 158 + min 5 32 = 163 from rfl, show 158 + min 6 32 = 164 from rfl, show 158 + min 7 32 = 165 from rfl, show 158 + min 8 32 = 166 from rfl, show 158 + min 9 32 = 167 from rfl, show 158 + min 10 32 = 168 from rfl, show 158 + min 11 32 = 169 from rfl, show 158 + min 12 32 = 170 from rfl, show 158 + min 13 32 = 171 from rfl, show 158 + min 14 32 = 172 from rfl, show 158 + min 15 32 = 173 from rfl, show 158 + min 16 32 = 174 from rfl, show 158 + min 17 32 = 175 from rfl, show 158 + min 18 32 = 176 from rfl, show 158 + min 19 32 = 177 from rfl, show 158 + min 20 32 = 178 from rfl, show 158 + min 21 32 = 179 from rfl, show 158 + min 22 32 = 180 from rfl, show 158 + min 23 32 = 181 from rfl, show 158 + min 24 32 = 182 from rfl, show 158 + min 25 32 = 183 from rfl, show 158 + min 26 32 = 184 from rfl, show 158 + min 27 32 = 185 from rfl, show 158 + min 28 32 = 186 from rfl, show 158 + min 29 32 = 187 from rfl, show 158 + min 30 32 = 188 from rfl, show 158 + min 31 32 = 189 from rfl, show 158 + min 32 32 = 190 from rfl, v0, v1, v2, v3, v4, v5, v6, v7, v8, v9, v10, v11, v12, v13, v14, v15, v16, v17, v18, v19, v20, v21, v22, v23, v24, v25, v26, v27, v28, v29, v30, v31, v32]
                      clear v0 v1 v2 v3 v4 v5 v6 v7 v8 v9 v10 v11 v12 v13 v14 v15 v16 v17 v18 v19 v20 v21 v22 v23 v24 v25 v26 v27 v28 v29 v30 v31 v32 hvs hbel
                      go_simp
                      gi_wp2_with fail
                      change KeepsFrom _ _ _ ∧ _ ∧ _
                      exact ⟨⟨HBR.out.size, fun k o _ h1 _ => (HBR.out.block k (Array.getElem?_eq_some_iff.1 h1).1).trans h1⟩, KeepB.below HBR.out, HBX7.out.trans (HBR.out.mono HBX7.out.size)⟩
                case don =>
                  rintro D w8 hD hb hKD
                  have HB8 := Lib.hid (HB70.out.trans (hb.mono HB70.out.size))
                  have HR8 : Hid (Boxed w8 B 4 (.bool false)) := Lib.hid ((hb.block _ HR7.out.lt).trans HR7.out)
                  have HKD := Lib.hid (show KD w8 D from hKD)
                  have HBD := Lib.hid (show B < D by have h1 := HR7.out.lt; omega)
                  clear hb hKD
                  go_wp2_with fail
                  refine (WK.out _ (HK.out.below HB8.out)).mono ?_
                  rintro e w9 ⟨rfl, hb⟩
                  have HKD := Lib.hid (HKD.out.below hb)
                  have HR9 : Hid (Boxed w9 B 4 (.bool false)) := Lib.hid ((hb.block _ HR8.out.lt).trans HR8.out)
                  have HB9 := Lib.hid (HB8.out.trans (hb.mono HB8.out.size))
                  clear hb
                  have cR := HR9.out.cell
                  have fR := HR9.out.frozen
                  first | go_wp2_with fail | skip
                  have hBw := HBB.out
                  have hBD := HBD.out
                  have L9 : (w9.setCell ⟨B, 0, none⟩ (.bool true)).heap[D]? = some (.deferred (some [])) := (Below.heap_setCell _ _ _ _ (by show D ≠ B; omega)).trans HKD.out
                  have L0 : Boxed ((w9.setCell ⟨B, 0, none⟩ (.bool true)).putObj D (.deferred none)) B 4 (.bool true) := (World.putObj_heap_other (by omega)).trans (HR9.out.set _)
                  have c0 := L0.cell
                  refine ⟨by simp, .inl ⟨_, _, rfl, run_takeDeferred L9, ?_⟩⟩
                  refine ⟨.bool true, ?_, rfl, ?_⟩
                  · simp [results, Tryz.results7, go_sem, c0]
                  · refine (HB9.out.setCell (p := ⟨B, 0, none⟩) (by show w.heap.size ≤ B; omega) _).trans (belowK_b (w := w) (Nat.le_refl _) _ D _ _ (by omega) L9 rfl rfl)
end Go.Proofs.YtgfammlmbjmkoaaGreatDoor
