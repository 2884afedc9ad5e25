/- ChunkCuts returns true for any slice of bytes and any two numbers: the walk. The tables of the library read as they are laid. -/
import Derived.Test.YtoidopdpnnogaaaDoorCkI
import Derived.Test.YtoidopdpnnogaaaDoorCkG
import Derived.Sort.CutIn
import Derived.BigFrameIn
namespace Go.Proofs.YtoidopdpnnogaaaDoor
set_option linter.unusedVariables false
set_option linter.unusedSimpArgs false
open Go.RowKit Go.Shelf
attribute [local go_sem] Oper.semAt_some
set_option maxHeartbeats 2000000
theorem pien_ex2 (len M : Nat) (h : 1 ≤ M) : ∃ N, PieN len M N := by
  refine ⟨(len + M - 1) / M, fun k => ?_⟩
  rw [show k < (len + M - 1) / M ↔ k + 1 ≤ (len + M - 1) / M from Iff.rfl, Nat.le_div_iff_mul_le (by omega), Nat.add_mul]
  omega
theorem encs_take_le (L : List (List UInt8)) (k : Nat) : (encs (L.take k)).length ≤ (encs L).length := by
  unfold encs
  rw [List.map_take]
  exact cat_len _ _
set_option maxRecDepth 100000 in
theorem ck_each (v : Value) (most : Int) (no : Int) (L : List (List UInt8)) (w : World) (hcut : ∀ W, Below w.heap.size w W → Calls Tryd.prog 13 #[v, .int .i64 most] W fun e w' => ∃ r, e = .returned (.tuple #[r, .int .i64 no]) ∧ BRows w' r L ∧ Below W.heap.size W w') :
    Calls Tryd.prog 16 #[v, .int .i64 most] w fun e w' => ∃ B r, e = .returned (.func (.func 57) #[] #[.pointer (some ⟨B, 0, none⟩)]) ∧ Boxed w' B 24 r ∧ BRows w' r L ∧ w.heap.size ≤ B ∧ Below w.heap.size w w' := by
  have K := Lib.hid (hcut w (Below.refl _ _))
  clear hcut
  go_enter Tryd.func16, Tryd.ntmps16
  go_wp2_with fail
  refine K.out.mono ?_
  rintro e w1 ⟨r, rfl, hr, hb1⟩
  have HR := Lib.hid hr
  have HB1 := Lib.hid hb1
  obtain ⟨p, c, rfl, _, _⟩ := hr
  clear hb1
  go_wp2_with fail
  go_ret
  refine ⟨_, _, rfl, Boxed.new _ _ _, HR.out.below ((Below.refl _ _).alloc (Nat.le_refl _) _), HB1.out.size, HB1.out.alloc HB1.out.size _⟩
theorem cc_nil (fn : Fn) (f c : Array Value) (W : World) : (binOp BinOp.eql 33 (.func fn f c) .nilFunc).run Tryd.prog W = .ok (.bool false) W := by kernel_rfl
/-- what the law's calls find -/
structure CutFind (w : World) (v : Value) (most : Int) (L : List (List UInt8)) (no : Int) : Prop where
  no_ : no = 0 ∨ no = 2
  len : L.length ≤ 300
  each : ∀ p ∈ L, p.length ≤ 300
  tot : (encs L).length ≤ 7000
  cut : ∀ W, Below w.heap.size w W → Calls Tryd.prog 13 #[v, .int .i64 most] W fun e w' => ∃ r, e = .returned (.tuple #[r, .int .i64 no]) ∧ BRows w' r L ∧ Below W.heap.size W w'
  rcut : ∀ W, Below w.heap.size w W → Calls Tryd.prog 14 #[v, .int .i64 most] W fun e w' => ∃ r, e = .returned (.tuple #[r, .int .i64 no]) ∧ BRows w' r L ∧ Below W.heap.size W w'
  all : ∀ W, Below w.heap.size w W → Calls Tryd.prog 15 #[v, .int .i64 most] W fun e w' => ∃ r, e = .returned (.tuple #[r, .int .i64 no]) ∧ BRow w' r (encs L ++ if no = 0 then [48, 13, 10, 13, 10] else []) ∧ Below W.heap.size W w'
theorem cut_find (ao : Option Addr) (n cap : Nat) (l : List UInt8) (most : Int) (w : World) (h : BRow w (.slice ao n cap) l) (hn : n ≤ 300) (ht : Tabs w) : ∃ L no, CutFind w (.slice ao n cap) most L no := by
  by_cases hm : most < 1
  · refine ⟨[], 2, .inr rfl, by simp, by simp, by simp [encs, cat], fun W hb => ?_, fun W hb => ?_, fun W hb => ?_⟩
    · exact (ck_cut_wrong _ most W hm).mono fun e w' ⟨h1, h2⟩ => ⟨_, h1, brows_none _, h2⟩
    · exact (rch_cut_wrong _ most W hm).mono fun e w' ⟨h1, h2⟩ => ⟨_, h1, brows_none _, by rw [h2]; exact Below.refl _ _⟩
    · exact (ck_all_wrong _ most W hm).mono fun e w' ⟨h1, h2⟩ => ⟨_, h1, BRow.nil _, h2⟩
  · obtain ⟨M, hM⟩ : ∃ M : Nat, min most ((n : Int) + 1) = M := ⟨(min most ((n : Int) + 1)).toNat, by omega⟩
    have hM1 : 1 ≤ M := by omega
    obtain ⟨N, hN⟩ := pien_ex2 n M hM1
    have hln : l.length = n := by obtain ⟨_, _, e, _⟩ := h; cases e; rfl
    have hcat : cat (pies M N l) = l := pies_cat (by rw [hln]; exact hN)
    have hNn : N ≤ n := by
      rcases Nat.eq_zero_or_pos N with h0 | h0
      · omega
      · have h1 := (hN (N - 1)).2 (by omega)
        have h2 : N - 1 ≤ (N - 1) * M := Nat.le_mul_of_pos_right _ (by omega)
        omega
    have hea : ∀ p ∈ pies M N l, p.length ≤ 300 := by
      intro p hp
      obtain ⟨k, hk, rfl⟩ := List.mem_map.1 hp
      rw [List.length_take, List.length_drop]; omega
    have hlen : (encs (pies M N l)).length ≤ 7000 := by
      have := encs_len (pies M N l) (fun x hx => by have := hea x hx; omega)
      rw [hcat, pies_len] at this
      omega
    refine ⟨pies M N l, 0, .inl rfl, by rw [pies_len]; omega, hea, hlen, fun W hb => ?_, fun W hb => ?_, fun W hb => ?_⟩
    · exact ck_cut ao n cap M N l most W (h.below hb) (by omega) hm hM hN
    · exact rch_cut ao n cap M N l most W (h.below hb) (by omega) hm hM hN
    · exact ck_all ao n cap M N l most W (h.below hb) hn hm hM hN (by rw [hcat]; omega) (by omega) hea (ht.below hb)


set_option maxRecDepth 100000 in
theorem walkCC (a : Option Addr) (la ca : Nat) (za : List Int) (most many : Int) (w : World) (ha : IsBytes .u8 w a la ca za) (hm : (Lit.int .i64 most).wf = true) (hy : (Lit.int .i64 many).wf = true) (ht : Tabs w) :
    Calls Tryd.prog 3 #[.slice a la ca, .int .i64 most, .int .i64 many] w fun e w' => e = .returned (.bool true) ∧ Below w.heap.size w w' := by
  have WK := Lib.hid (fun W (h : Tabs W) => law16_works W h)
  have HT := Lib.hid ht
  obtain ⟨A, hA, hAl⟩ := ha.brow
  clear ha hm hy
  refine callsIn_wide.1 (callsIn_of_wp_marks (F := Fence.wide) (n := 9) Tryd.func3 rfl trivial ?_ rfl)
  simp only [Tryd.ntmps3, List.size_toArray, List.length_cons, List.length_nil, Nat.reduceAdd, Nat.reduceSub, Array.replicate_succ, Array.replicate_zero, List.push_toArray, List.append_toArray, List.nil_append, List.cons_append]
  obtain ⟨B, hB⟩ : ∃ B, w.heap.size = B := ⟨_, rfl⟩
  have HB := Lib.hid hB
  obtain ⟨W0, hW0⟩ : ∃ W0, (w.alloc (.cells #[.int .i64 many] 3)).alloc (.cells #[.bool false] 4) = W0 := ⟨_, rfl⟩
  have HB0 : Hid (Below w.heap.size w W0) := Lib.hid (by rw [← hW0]; exact ((Below.refl _ w).alloc (Nat.le_refl _) _).alloc (by simp) _)
  have HM0 : Hid (Boxed W0 B 3 (.int .i64 many)) := Lib.hid (by rw [← hW0, ← hB]; exact (Boxed.new w _ _).alloc _)
  have HR0 : Hid (Boxed W0 (B + 1) 4 (.bool false)) := Lib.hid (by rw [← hW0, ← hB]; have := Boxed.new (w.alloc (.cells #[.int .i64 many] 3)) 4 (.bool false); rwa [World.size_alloc] at this)
  by_cases hla : la ≤ 300
  · obtain ⟨L, no, hF⟩ := cut_find a la ca A most w hA hla ht
    have HF := Lib.hid hF
    clear hF ht hA hAl
    obtain ⟨N, hN⟩ : ∃ N, L.length = N := ⟨_, rfl⟩
    have HN := Lib.hid hN
    clear hN
    have K1 := Lib.hid (HF.out.cut W0 HB0.out)
    gi_wp2_with fail
    clear hW0
    refine ⟨trivial, (callsIn_wide.2 K1.out).mono ?_⟩
    rintro e w1 ⟨r1, rfl, hr1, hb1⟩
    have HR1 := Lib.hid hr1
    have HB1 : Hid (Below w.heap.size w w1) := Lib.hid (HB0.out.trans (hb1.mono HB0.out.size))
    have HW01 := Lib.hid hb1
    obtain ⟨p1, c1, rfl, _, hr1⟩ := hr1
    rw [HN.out] at HR1 ⊢
    have HRR := Lib.hid hr1
    clear hb1 hr1 K1
    have K2 := Lib.hid (HF.out.rcut w1 HB1.out)
    gi_wp2_with fail
    refine ⟨trivial, (callsIn_wide.2 K2.out).mono ?_⟩
    rintro e w2 ⟨r2, rfl, hr2, hb2⟩
    have HR2 := Lib.hid hr2
    have HB2 : Hid (Below w.heap.size w w2) := Lib.hid (HB1.out.trans (hb2.mono HB1.out.size))
    have HW12 := Lib.hid hb2
    obtain ⟨p2, c2, rfl, _, hr2⟩ := hr2
    rw [HN.out] at HR2 ⊢
    clear hb2 hr2 K2
    obtain ⟨G, hG⟩ : ∃ G, w2.heap.size = G := ⟨_, rfl⟩
    obtain ⟨W3, hW3⟩ : ∃ W3, w2.alloc (.cells #[.slice p2 N c2] 24) = W3 := ⟨_, rfl⟩
    have HB3 : Hid (Below w.heap.size w W3) := Lib.hid (by rw [← hW3]; exact HB2.out.alloc HB2.out.size _)
    have HW23 : Hid (Below w2.heap.size w2 W3) := Lib.hid (by rw [← hW3]; exact (Below.refl _ _).alloc (Nat.le_refl _) _)
    have HG3 : Hid (Boxed W3 G 24 (.slice p2 N c2)) := Lib.hid (by rw [← hW3, ← hG]; exact Boxed.new _ _ _)
    have K3 := Lib.hid (HF.out.all W3 HB3.out)
    have HGG := Lib.hid hG
    gi_wp2_with fail
    clear hW3 hG
    refine ⟨trivial, (callsIn_wide.2 K3.out).mono ?_⟩
    rintro e w4 ⟨r3, rfl, hr3, hb4⟩
    obtain ⟨X, hX⟩ : ∃ X, (encs L ++ if no = 0 then [48, 13, 10, 13, 10] else []) = X := ⟨_, rfl⟩
    rw [hX] at hr3
    have HX := Lib.hid hX
    have HR3 := Lib.hid hr3
    have HB4 : Hid (Below w.heap.size w w4) := Lib.hid (HB3.out.trans (hb4.mono HB3.out.size))
    have HW34 := Lib.hid hb4
    obtain ⟨p3, c3, rfl, _, _⟩ := hr3
    obtain ⟨qX, hqX⟩ : ∃ q, X.length = q := ⟨_, rfl⟩
    rw [hqX] at HR3 ⊢
    have HQX := Lib.hid hqX
    clear hb4 K3 hX hqX
    have K4 := Lib.hid (ck_each (.slice a la ca) most no L w4 (fun W hb => HF.out.cut W (HB4.out.trans (hb.mono HB4.out.size))))
    gi_wp2_with fail
    refine ⟨trivial, (callsIn_wide.2 K4.out).mono ?_⟩
    rintro e w5 ⟨P, r5, rfl, hbx5, hr5, hP5, hb5⟩
    have HR5 := Lib.hid hr5
    have HX5 := Lib.hid hbx5
    have HP5 := Lib.hid hP5
    have HB5 : Hid (Below w.heap.size w w5) := Lib.hid (HB4.out.trans (hb5.mono HB4.out.size))
    have HW45 := Lib.hid hb5
    have hcG : w5.cell? ⟨G, 0, none⟩ = some (.slice p2 N c2) := cell_below HW45.out (cell_below HW34.out HG3.out.cell)
    clear hb5 K4 hr5 hbx5 hP5
    have hnn : (no != no) = false := by simp
    have hnil := cc_nil
    gi_wp2_with fail
    refine ⟨trivial, (callsIn_wide.2 (ck_num no _)).mono ?_⟩
    rintro e w6 ⟨rfl, rfl⟩
    gi_wp2_with fail
    refine ⟨trivial, (callsIn_wide.2 (ck_num no _)).mono ?_⟩
    rintro e w7 ⟨rfl, rfl⟩
    gi_wp2_with fail
    clear hnn hnil hcG
    have HRX : Hid (∀ Y, Below w7.heap.size w7 Y → ∀ k, k < N → ∃ (g1 o1 g2 o2 : Nat) (x1 x2 : Value), p1 = some ⟨g1, o1, none⟩ ∧ p2 = some ⟨g2, o2, none⟩ ∧ Y.cell? ⟨g1, o1 + k, none⟩ = some x1 ∧ Y.cell? ⟨g2, o2 + k, none⟩ = some x2 ∧ BRow Y x1 (L.getD k []) ∧ BRow Y x2 (L.getD k [])) := Lib.hid (fun Y hY k hk => by
      have b15 : Below w1.heap.size w1 w7 := HW12.out.trans (((HW23.out.trans (HW34.out.mono HW23.out.size)).trans (HW45.out.mono (Nat.le_trans HW23.out.size HW34.out.size))).mono HW12.out.size)
      have b25 : Below w2.heap.size w2 w7 := (HW23.out.trans (HW34.out.mono HW23.out.size)).trans (HW45.out.mono (Nat.le_trans HW23.out.size HW34.out.size))
      obtain ⟨g1, o1, rfl, h1⟩ := HRR.out.resolve_left (by rintro ⟨_, e, _⟩; have := HN.out; rw [e] at this; simp at this; omega)
      obtain ⟨p2', _, e2, _, h2a⟩ := HR2.out
      have e3 : p2' = p2 := by injection e2 with e2 _ _; exact e2.symm
      subst e3
      obtain ⟨g2, o2, rfl, h2⟩ := h2a.resolve_left (by rintro ⟨_, e, _⟩; have := HN.out; rw [e] at this; simp at this; omega)
      obtain ⟨x1, c1, r1⟩ := h1 k (by rw [HN.out]; exact hk)
      obtain ⟨x2, c2, r2⟩ := h2 k (by rw [HN.out]; exact hk)
      have z1 : Below w1.heap.size w1 Y := b15.trans (hY.mono b15.size)
      have z2 : Below w2.heap.size w2 Y := b25.trans (hY.mono b25.size)
      exact ⟨g1, o1, g2, o2, x1, x2, rfl, rfl, cell_below z1 c1, cell_below z2 c2, r1.below z1, r2.below z2⟩)
    have HG5 : Hid (∀ Y, Below w7.heap.size w7 Y → Boxed Y G 24 (.slice p2 N c2)) := Lib.hid (fun Y hY => by
      have h1 : Boxed w4 G 24 (.slice p2 N c2) := (HW34.out.block _ HG3.out.lt).trans HG3.out
      have h2 : Boxed w7 G 24 (.slice p2 N c2) := (HW45.out.block _ h1.lt).trans h1
      exact (hY.block _ h2.lt).trans h2)
    have hN3 : N ≤ 300 := by have := HF.out.len; have := HN.out; omega
    gi_loopw [14, 15] (fun s i wr => ∃ k : Nat, k ≤ N ∧ i = .int .i64 k ∧ s = .string ⟨(encs (L.take k)).toArray⟩ ∧ Below w7.heap.size w7 wr) (fun _ i _ => N - (intOf i).toNat)
    case atStart => exact ⟨0, Nat.zero_le _, rfl, rfl, Below.refl _ _⟩
    case round =>
      obtain ⟨k, hk, rfl, rfl, hb⟩ := hrel
      have HBW := Lib.hid hb
      clear hb
      obtain ⟨T, hT⟩ : ∃ T, encs (L.take k) = T := ⟨_, rfl⟩
      have HTT := Lib.hid hT
      rw [hT]
      clear hT
      by_cases hlt : k < N
      · obtain ⟨g1, o1, g2, o2, x1, x2, rfl, rfl, hc1, hc2, hx1, hx2⟩ := HRX.out wr HBW.out k hlt
        obtain ⟨q, hq⟩ : ∃ q, L.getD k [] = q := ⟨_, rfl⟩
        have HTK : Hid (encs (L.take (k + 1)) = T ++ enc q) := Lib.hid (by rw [encs_take L k (by rw [HN.out]; exact hlt), HTT.out, hq])
        have hTP : ¬ 9223372036854775807 < T.length + (enc q).length := by
          have h1 := encs_take_le L (k + 1)
          have h2 := HF.out.tot
          rw [HTK.out, List.length_append] at h1
          omega
        have hql : q.length ≤ 300 := by
          have hkL : k < L.length := by rw [HN.out]; exact hlt
          rw [← hq, List.getD_eq_getElem?_getD, List.getElem?_eq_getElem hkL]
          exact HF.out.each _ (List.getElem_mem hkL)
        rw [hq] at hx1 hx2
        have HX1 := Lib.hid hx1
        have HX2 := Lib.hid hx2
        have hcv1 := fun n => conv_brow (w := wr.drewN n) (hx1.below ⟨rfl, rfl, rfl, Nat.le_refl _, fun _ _ => rfl⟩)
        have hcv2 := fun n => conv_brow (w := wr.drewN n) (hx2.below ⟨rfl, rfl, rfl, Nat.le_refl _, fun _ _ => rfl⟩)
        have hg := (HG5.out wr HBW.out).cell
        obtain ⟨a1, d1, rfl, _, _⟩ := hx1
        obtain ⟨a2, d2, rfl, _, _⟩ := hx2
        obtain ⟨m, hm⟩ : ∃ m, q.length = m := ⟨_, rfl⟩
        rw [hm] at hc1 hc2 hcv1 hcv2
        clear hq
        gi_wp2_with fail
        refine wpIn_wide.2 ?_
        go_quiet (fail)
        have HBQ : Hid (Below w7.heap.size w7 (wr.drewN nq)) := Lib.hid (below_drewN HBW.out nq)
        obtain ⟨V, hV⟩ : ∃ V, wr.drewN nq = V := ⟨_, rfl⟩
        rw [hV] at HBQ ⊢
        have hx2v : BRow V (.slice a2 q.length d2) q := by rw [← hV]; exact HX2.out.below (below_drewN (Below.refl _ _) nq)
        rw [hm] at hx2v
        have KE := Lib.hid (rch_encode _ q V hx2v (by omega))
        have hg := (HG5.out V HBQ.out).cell
        have hc2 : V.cell? ⟨g2, o2 + k, none⟩ = some (.slice a2 m d2) := by rw [← hV]; exact hc2
        clear hcv1 hcv2 hc1 hV hx2v
        gi_wp2_with fail
        refine ⟨trivial, (callsIn_wide.2 KE.out).mono ?_⟩
        rintro e V2 ⟨rfl, hb2⟩
        have HBV : Hid (Below w7.heap.size w7 V2) := Lib.hid (HBQ.out.trans (hb2.mono HBQ.out.size))
        clear hb2 hc2 hg
        gi_wp2
        go_roundw
        case rel => exact ⟨k + 1, by omega, by go_num, by rw [bytes_app, HTK.out], HBV.out⟩
        case measure => simp [intOf]; omega
      · obtain rfl : N = k := by omega
        have hTE : T = encs L := by rw [← HTT.out, List.take_of_length_le (by rw [HN.out]; exact Nat.le_refl _)]
        subst hTE
        clear HTT HRX
        gi_upto_if 91 with (fail)
        gi_cut [14] from 20 (fun s wy => s = .string ⟨X.toArray⟩ ∧ wy = wr)
        case first =>
          rcases HF.out.no_ with h0 | h0
          · have hn0 : (no == 0) = true := by rw [h0]; rfl
            have hXX : X = encs L ++ [48, 13, 10, 13, 10] := by rw [← HX.out, if_pos h0]
            have hTP : ¬ 9223372036854775807 < (encs L).length + 5 := by have := HF.out.tot; omega
            rw [hn0]
            clear h0 hn0
            gi_wp2_with fail
            gi_meet
            exact ⟨by rw [hXX, ← bytes_app], rfl⟩
          · have hn0 : (no == 0) = false := by rw [h0]; rfl
            have hXX : X = encs L := by rw [← HX.out, if_neg (by rw [h0]; decide), List.append_nil]
            rw [hn0]
            clear h0 hn0
            gi_wp2_with fail
            gi_meet
            exact ⟨by rw [hXX], rfl⟩
        case rest =>
          obtain ⟨rfl, rfl⟩ := hcut
          obtain ⟨V, hV⟩ : ∃ V, wc = V := ⟨_, rfl⟩
          rw [hV] at HBW ⊢
          clear hV
          have h47 : Below w4.heap.size w4 V := HW45.out.trans (HBW.out.mono HW45.out.size)
          have h37 : Below W3.heap.size W3 V := HW34.out.trans (h47.mono HW34.out.size)
          have h27 : Below w2.heap.size w2 V := HW23.out.trans (h37.mono HW23.out.size)
          have h07 : Below W0.heap.size W0 V := (HW01.out.trans (HW12.out.mono HW01.out.size)).trans (h27.mono (Nat.le_trans HW01.out.size HW12.out.size))
          have HVW : Hid (Below w.heap.size w V) := Lib.hid (HB0.out.trans (h07.mono HB0.out.size))
          have HVM : Hid (Boxed V B 3 (.int .i64 many)) := Lib.hid ((h07.block _ HM0.out.lt).trans HM0.out)
          have HVR : Hid (Boxed V (B + 1) 4 (.bool false)) := Lib.hid ((h07.block _ HR0.out.lt).trans HR0.out)
          have HVG : Hid (Boxed V G 24 (.slice p2 N c2)) := Lib.hid ((h37.block _ HG3.out.lt).trans HG3.out)
          have HVP : Hid (Boxed V P 24 r5) := Lib.hid ((HBW.out.block _ HX5.out.lt).trans HX5.out)
          have HV5 : Hid (BRows V r5 L) := Lib.hid (HR5.out.below HBW.out)
          have HVT : Hid (Tabs V) := Lib.hid (HT.out.below HVW.out)
          have HROW : Hid (∀ k, k < N → ∃ g2 o2, p2 = some ⟨g2, o2, none⟩ ∧ ∃ x2, V.cell? ⟨g2, o2 + k, none⟩ = some x2 ∧ BRow V x2 (L.getD k [])) := Lib.hid (fun k hk => by
            obtain ⟨p2', _, e2, _, h2a⟩ := (HR2.out.below h27)
            have e3 : p2' = p2 := by injection e2 with e2 _ _; exact e2.symm
            subst e3
            obtain ⟨g2, o2, rfl, h2⟩ := h2a.resolve_left (by rintro ⟨_, e, _⟩; have := HN.out; rw [e] at this; simp at this; omega)
            obtain ⟨x2, c2, r2⟩ := h2 k (by rw [HN.out]; exact hk)
            exact ⟨g2, o2, rfl, x2, c2, r2⟩)
          have hcv : (convert 22 9 (.slice p3 qX c3)).run Tryd.prog V = .ok (.string ⟨X.toArray⟩) V := by
            have h := conv_brow (HR3.out.below h47)
            exact h
          gi_wp2_with fail
          obtain ⟨T, hT⟩ : ∃ T, V.heap.size = T := ⟨_, rfl⟩
          obtain ⟨V0, hV0⟩ : ∃ V0, V.alloc (.cells #[.int .i64 0] 3) = V0 := ⟨_, rfl⟩
          have hbV0 : Below V.heap.size V V0 := by rw [← hV0]; exact (Below.refl _ _).alloc (Nat.le_refl _) _
          have bT0 : Boxed V0 T 3 (.int .i64 0) := by rw [← hV0, ← hT]; exact Boxed.new _ _ _
          have hs0 : V0.heap.size = T + 1 := by rw [← hV0]; simp; exact hT
          have HTV := Lib.hid hT
          have hBT : B + 1 < T := by rw [← hT]; exact HVR.out.lt
          clear h47 h37 h27 h07
          rw [hT, hV0]
          clear hT hV0 hcv
          refine wpIn_loop_rounds 3 ?_
          rw [roundsIn_succ]
          have cT := bT0.cell
          obtain ⟨C, hC⟩ : ∃ C, V0.heap.size = C := ⟨_, rfl⟩
          obtain ⟨V1, hV1⟩ : ∃ V1, V0.alloc (.cells #[.int .i64 0] 3) = V1 := ⟨_, rfl⟩
          have hbV1 : Below V.heap.size V V1 := by rw [← hV1]; exact hbV0.alloc hbV0.size _
          have bT1 : Boxed V1 T 3 (.int .i64 0) := by rw [← hV1]; exact bT0.alloc _
          have bn1 : Boxed V1 C 3 (.int .i64 0) := by rw [← hV1, ← hC]; exact Boxed.new _ _ _
          have hs1 : V1.heap.size = C + 1 := by rw [← hV1, ← hC]; simp
          have hTC : C = T + 1 := by rw [← hC, hs0]
          have HC := Lib.hid hC
          have HV1 := Lib.hid hV1
          clear hC hV1
          gi_wp2_with fail
          rw [HV1.out, ← hTC]
          clear cT
          have hVT : V.heap.size ≤ T ∧ T ≤ V.heap.size := by have := HTV.out; omega
          have hTC2 : T < C ∧ C ≤ T + 1 := by omega
          clear hTC
          refine rg_break (N := N) (own := fun _ => False) (Kp := KeepB V.heap.size (C + 3)) (Enc := fun k args X => ∃ x, args = #[.int .i64 k, x] ∧ BRow X x (enc (L.getD k []))) rfl (by omega) (gf := 57) (lb := #[.pointer (some ⟨P, 0, none⟩)]) rfl trivial (enters_of Tryd.func57 (by kernel_rfl) rfl)
            (fun k a X h => by obtain ⟨x, rfl, _⟩ := h; rfl) (fun b hb => hb.elim)
            (fun Y hY hs => by
              have h := ckeach1_it L r5 P (C + 3) (KeepB V.heap.size (C + 3)) V (fun _ _ h => h) Y (by omega) (Agree.of (hbV1.trans (hY.mono (by omega)))) (by have := HF.out.len; omega) (fun p hp => by have := HF.out.each p hp; omega) HVP.out HV5.out HVT.out
              rw [HN.out] at h
              exact h.any _)
            KeepB.trans (fun X o o' h2 h3 => KeepB.putObj _ _ (by omega))
            (fun k Y => Below V.heap.size V Y ∧ Boxed Y T 3 (.int .i64 0) ∧ Boxed Y C 3 (.int .i64 (k : Int)) ∧ (1 ≤ k → (k : Int) < many))
            (fun Y => ∃ k : Nat, k ≤ N ∧ (k = 0 → N = 0) ∧ (k = N ∨ many ≤ (k : Int)) ∧ (2 ≤ k → (k : Int) - 1 < many) ∧ Below V.heap.size V Y ∧ Boxed Y T 3 (.int .i64 0) ∧ Boxed Y C 3 (.int .i64 (k : Int)))
            (fun k X Y hs ht => ⟨hs.1.trans (ht.below (by omega) hs.1.size (fun b hb => hb.elim)), ht.boxed hs.2.1 id, ht.boxed hs.2.2.1 id, hs.2.2.2⟩)
            (fun X Y hs ht => by
              obtain ⟨k, h1, h2, h3, h4, h5, h6, h7⟩ := hs
              exact ⟨k, h1, h2, h3, h4, h5.trans (ht.below (by omega) h5.size (fun b hb => hb.elim)), ht.boxed h6 id, ht.boxed h7 id⟩)
            ⟨hbV1, bT1, bn1, by omega⟩
            (fun k b Y => ∃ x, b = { tmps := #[.slice a la ca, .int .i64 most, .int .i64 many, undef, undef, .pointer (some ⟨B, 0, none⟩), .pointer (some ⟨B + 1, 0, none⟩), .slice p1 N c1, .int .i64 no, .pointer (some ⟨G, 0, none⟩), .int .i64 no, .slice p3 qX c3, .int .i64 no, .func (.func 57) #[] #[.pointer (some ⟨P, 0, none⟩)], .string ⟨X.toArray⟩, .int .i64 (N : Int), .pointer (some ⟨T, 0, none⟩), .pointer (some ⟨C, 0, none⟩), .int .i64 (k : Int), x, u20, u21, u22, u23, u24, u25, u26, u27, u28, u29, u30, u31, u32, u33, u34, u35, u36, u37, u38, u39, u40, u41, u42, u43, u44, u45, u46, u47, u48, u49, u50, u51, u52, u53, u54, u55, u56, u57, u58, u59, u60, u61, u62, u63, u64, u65, u66, u67, u68, u69, u70, u71, u72, u73, u74, u75, u76, u77, u78, u79, u80, u81, u82, u83, u84, u85, u86, u87, u88, u89, u90, u91, u92, u93, .slice p3 qX c3, .string ⟨X.toArray⟩, .string ⟨X.toArray⟩, .bool false, .int .i64 0, .bool true, u100, u101, .func (.func 57) #[] #[.pointer (some ⟨P, 0, none⟩)], .int .i64 (k : Int), x, u105, u106, u107, u108, u109, u110, u111, u112, u113, u114, u115, u116, u117, u118, u119, u120, u121, u122, u123, u124, u125, u126, u127, u128, u129, u130, u131, u132, u133, u134, u135, u136, u137, u138, u139, u140, u141, u142, u143, u144, u145, u146, u147, u148, u149, u150, u151, u152, u153, u154, u155], defers := [] } ∧ BRow Y x (enc (L.getD k [])))
            (fun k b X Y hs ht => by obtain ⟨x, h1, h2⟩ := hs; exact ⟨x, h1, turn_brow ht h2 (fun _ h => h)⟩) ?assign ?body ?all ?fin
          case assign =>
            rintro l' k args Y K hk hi ⟨x, rfl, hx⟩ hK
            gi_wp2
            exact hK _ _ (KeepsFrom.refl _ _) (KeepB.refl _ _ _) hi ⟨x, rfl, hx⟩
          case body =>
            rintro l' k b Y hl' ⟨r, hr⟩ hk ⟨hbl, bT, bn, hkm⟩ hax
            obtain ⟨x, hb, hxe⟩ := hax
            subst hb
            obtain ⟨g2, o2, hp2, x2, hc2, hx2⟩ := HROW.out k hk
            have hX := hbl
            have hkI : ¬ (N : Int) ≤ (k : Int) := by omega
            have hkI2 : (k : Int) < (N : Int) := by omega
            have hkd : decide ((N : Int) ≤ (k : Int)) = false := decide_eq_false hkI
            have hkd2 : decide (N ≤ k) = false := decide_eq_false (by omega)
            have hk63 : (k : Int) + 1 ≤ 9223372036854775807 := by omega
            have BWX := fun d os => below_regrown Y d os
            have hcC : ∀ d os, (Go.Sort.grow (redrawn Y d) os).cell? ⟨C, 0, none⟩ = some (.int .i64 (k : Int)) := fun d os => cell_regrown bn.cell d os
            have hcG : ∀ d os, (Go.Sort.grow (redrawn Y d) os).cell? ⟨G, 0, none⟩ = some (.slice p2 N c2) := fun d os => cell_regrown (show Boxed Y G 24 (.slice p2 N c2) from (hX.block _ HVG.out.lt).trans HVG.out).cell d os
            have hx2Y := hx2.below hX
            have hc2Y := cell_below hX hc2
            subst hp2
            obtain ⟨q, hq⟩ : ∃ q, L.getD k [] = q := ⟨_, rfl⟩
            rw [hq] at hxe hx2Y
            have hql : q.length ≤ 300 := by
              have hkL : k < L.length := by rw [HN.out]; exact hk
              rw [← hq, List.getD_eq_getElem?_getD, List.getElem?_eq_getElem hkL]
              exact HF.out.each _ (List.getElem_mem hkL)
            have cvx : ∀ d os, (convert 22 9 x).run Tryd.prog (Go.Sort.grow (redrawn Y d) os) = .ok (.string ⟨(enc q).toArray⟩) (Go.Sort.grow (redrawn Y d) os) := fun d os => conv_brow (hxe.below (BWX d os))
            have C1 := Lib.hid (fun d os => Calls.regrown_of (rch_encode x2 q (Go.Sort.grow (redrawn Y d) os) (hx2Y.below (BWX d os)) (by omega)))
            obtain ⟨Zq, hZq⟩ : ∃ Z, enc q = Z := ⟨_, rfl⟩
            rw [hZq] at cvx C1
            obtain ⟨a2, d2, hx2s, -, -⟩ := hx2Y
            subst hx2s
            obtain ⟨ax, dx, hxs, -, -⟩ := hxe
            subst hxs
            obtain ⟨eq, heq⟩ : ∃ e, (enc q).length = e := ⟨_, rfl⟩
            obtain ⟨lq, hlq⟩ : ∃ e, q.length = e := ⟨_, rfl⟩
            rw [heq] at cvx ⊢
            rw [hlq] at C1 hc2Y
            have hc2g : ∀ d os, (Go.Sort.grow (redrawn Y d) os).cell? ⟨g2, o2 + k, none⟩ = some (.slice a2 lq d2) := fun d os => cell_regrown hc2Y d os
            have HBN := Lib.hid bn
            have HBT := Lib.hid bT
            have HY := Lib.hid hX
            clear hc2Y hc2 hx2 hq hZq heq hlq hX bn bT hbl
            gi_wp2_with fail
            refine wpR_region_below (by kernel_rfl) (by kernel_rfl) (by kernel_rfl) ?_
            repeat (go_big_quiet_step (first | exact C1.out _ _ | fail))
            refine wpQuiet_nil ?_
            intro _ hw'
            obtain ⟨⟨dq, osq⟩, hw''⟩ := hw'
            subst hw''
            have hbY := below_regrown Y dq osq
            obtain ⟨Y1, hY1⟩ : ∃ Y1, Go.Sort.grow (redrawn Y dq) osq = Y1 := ⟨_, rfl⟩
            rw [hY1] at hbY ⊢
            have bn1 : Boxed Y1 C 3 (.int .i64 (k : Int)) := (hbY.block _ HBN.out.lt).trans HBN.out
            have bT1 : Boxed Y1 T 3 (.int .i64 0) := (hbY.block _ HBT.out.lt).trans HBT.out
            have hb1 : Below V.heap.size V Y1 := HY.out.trans (hbY.mono HY.out.size)
            have bm1 : Boxed Y1 B 3 (.int .i64 many) := (hb1.block _ HVM.out.lt).trans HVM.out
            have cn := bn1.cell
            have fn := bn1.frozen
            have cT := bT1.cell
            have cm := bm1.cell
            have HB1 := Lib.hid hb1
            have Hbn1 := Lib.hid bn1
            have HbT1 := Lib.hid bT1
            have HbY := Lib.hid hbY
            have KP : Hid (∀ v, KeepB V.heap.size (C + 3) Y (Y1.setCell ⟨C, 0, none⟩ v)) := Lib.hid (fun v => (KeepB.below HbY.out).trans (KeepB.setCell _ _ (by omega)))
            clear hkI hkI2 hkd hkd2 hcC hcG cvx C1 hc2g BWX hY1 bn1 bT1 bm1 hb1 hbY
            have HKM := Lib.hid hkm
            clear hkm
            gi_upto_if 132 with (fail)
            by_cases h1 : many ≤ (k : Int) + 1
            · refine wpIn_cond (t := true) (by simp [Act.eval, h1]) ?_
              refine wpIn_exit ?_
              change KeepsFrom _ _ _ ∧ _ ∧ _
              exact ⟨(keeps_of_below HbY.out).trans ((KeepsOthers.setCell _ _ _).from _), rfl, k + 1, by omega, by omega, .inr (by omega), fun h => by have := HKM.out (by omega); omega, HB1.out.setCell (p := ⟨C, 0, none⟩) (by show _ ≤ C; omega) _, HbT1.out.other (by omega) _, Hbn1.out.set _⟩
            · refine wpIn_cond (t := false) (by simp [Act.eval, h1]) ?_
              refine wpIn_skip ?_
              change KeepsFrom _ _ _ ∧ _ ∧ _
              exact ⟨(keeps_of_below HbY.out).trans ((KeepsOthers.setCell _ _ _).from _), KP.out _, HB1.out.setCell (p := ⟨C, 0, none⟩) (by show _ ≤ C; omega) _, HbT1.out.other (by omega) _, Hbn1.out.set _, fun _ => by omega⟩
          case all =>
            rintro Y ⟨h1, h2, h3, h4⟩
            exact ⟨N, Nat.le_refl _, id, .inl rfl, fun h => by have := h4 (by omega); omega, h1, h2, h3⟩
          case fin =>
            rintro D1 Y hD1 ⟨k1, hkN, hk0, hkm, hkl, hbl, bT, bn⟩ hK1
            have cn := bn.cell
            have cT := bT.cell
            have fT := bT.frozen
            have cG := (show Boxed Y G 24 (.slice p2 N c2) from (hbl.block _ HVG.out.lt).trans HVG.out).cell
            have cm := (show Boxed Y B 3 (.int .i64 many) from (hbl.block _ HVM.out.lt).trans HVM.out).cell
            have HbT := Lib.hid bT
            have Hbn := Lib.hid bn
            have HK1 := Lib.hid hK1
            have HBL := Lib.hid hbl
            obtain ⟨mx, hmx, hmi⟩ : ∃ mx : Int, (∀ W, (Builtin.max_ #[3, 3] 3 #[.int .i64 1, .int .i64 many]).run Tryd.prog W = .ok (.int .i64 mx) W) ∧ (∀ W, (Builtin.min_ #[3, 3] 3 #[.int .i64 (N : Int), .int .i64 mx]).run Tryd.prog W = .ok (.int .i64 (k1 : Int)) W) := by
              refine ⟨if many > 1 then many else 1, fun W => ck_max _ _ _ _ W, fun W => ?_⟩
              rw [ck_min]
              congr 2
              split <;> split <;> omega
            clear bT bn hkm hK1 hkl hk0 hbl
            gi_wp2_with fail
            rw [roundsIn_succ]
            clear cm cG hmx hmi cn
            obtain ⟨T2, hT2⟩ : ∃ T2, Y.heap.size = T2 := ⟨_, rfl⟩
            obtain ⟨V2, hV2⟩ : ∃ V2, Y.alloc (.cells #[.int .i64 1] 3) = V2 := ⟨_, rfl⟩
            have bT2 : Boxed V2 T2 3 (.int .i64 1) := by rw [← hV2, ← hT2]; exact Boxed.new _ _ _
            have hs2 : V2.heap.size = T2 + 1 := by rw [← hV2, ← hT2]; simp
            have hbV2 : Below V.heap.size V V2 := by rw [← hV2]; exact HBL.out.alloc HBL.out.size _
            have K2 : V2.heap[D1]? = some (.deferred (some [])) := by
              rw [← hV2]
              exact (Below.heap_alloc _ _ _ (Array.getElem?_eq_some_iff.1 HK1.out).1).trans HK1.out
            have hCT2 : C < T2 := by rw [← hT2]; exact Hbn.out.lt
            have hDT2 : D1 < T2 := by rw [← hT2]; exact (Array.getElem?_eq_some_iff.1 HK1.out).1
            have cT2 := bT2.cell
            have fT2 := bT2.frozen
            rw [hT2, hV2]
            obtain ⟨C2, hC2⟩ : ∃ C2, V2.heap.size = C2 := ⟨_, rfl⟩
            obtain ⟨V3, hV3⟩ : ∃ V3, V2.alloc (.cells #[.int .i64 0] 3) = V3 := ⟨_, rfl⟩
            have hbV3 : Below V.heap.size V V3 := by rw [← hV3]; exact hbV2.alloc hbV2.size _
            have bT3 : Boxed V3 T2 3 (.int .i64 1) := by rw [← hV3]; exact bT2.alloc _
            have bn3 : Boxed V3 C2 3 (.int .i64 0) := by rw [← hV3, ← hC2]; exact Boxed.new _ _ _
            have hs3 : V3.heap.size = C2 + 1 := by rw [← hV3, ← hC2]; simp
            have K3 : V3.heap[D1]? = some (.deferred (some [])) := by
              rw [← hV3]
              exact (Below.heap_alloc _ _ _ (Array.getElem?_eq_some_iff.1 K2).1).trans K2
            have hTC : C2 = T2 + 1 := by rw [← hC2, hs2]
            have HV3 := Lib.hid hV3
            clear hC2 hV3 hT2 hV2 cT fT
            gi_wp2_with fail
            rw [HV3.out, ← hTC]
            have hTC3 : T2 < C2 ∧ C2 ≤ T2 + 1 := by omega
            clear hTC cT2 fT2
            refine rg_break (N := N) (own := fun _ => False) (Kp := KeepB V.heap.size (C2 + 3)) (Enc := fun k args X => ∃ x, args = #[.int .i64 k, x] ∧ BRow X x (enc (L.getD k []))) rfl (by omega) (gf := 57) (lb := #[.pointer (some ⟨P, 0, none⟩)]) rfl trivial (enters_of Tryd.func57 (by kernel_rfl) rfl)
              (fun k a X h => by obtain ⟨x, rfl, _⟩ := h; rfl) (fun b hb => hb.elim)
              (fun Y hY hs => by
                have h := ckeach1_it L r5 P (C2 + 3) (KeepB V.heap.size (C2 + 3)) V (fun _ _ h => h) Y (by omega) (Agree.of (hbV3.trans (hY.mono (by omega)))) (by have := HF.out.len; omega) (fun p hp => by have := HF.out.each p hp; omega) HVP.out HV5.out HVT.out
                rw [HN.out] at h
                exact h.any _)
              KeepB.trans (fun X o o' h2 h3 => KeepB.putObj _ _ (by omega))
              (fun k Y => Below V.heap.size V Y ∧ Boxed Y T2 3 (.int .i64 1) ∧ Boxed Y C2 3 (.int .i64 (k : Int)) ∧ Y.heap[D1]? = some (.deferred (some [])))
              (fun Y => Below V.heap.size V Y ∧ Boxed Y T2 3 (.int .i64 1) ∧ Boxed Y C2 3 (.int .i64 (N : Int)) ∧ Y.heap[D1]? = some (.deferred (some [])))
              (fun k X Y hs ht => ⟨hs.1.trans (ht.below (by omega) hs.1.size (fun b hb => hb.elim)), ht.boxed hs.2.1 id, ht.boxed hs.2.2.1 id, ht.low hs.2.2.2 (by omega) id⟩)
              (fun X Y hs ht => ⟨hs.1.trans (ht.below (by omega) hs.1.size (fun b hb => hb.elim)), ht.boxed hs.2.1 id, ht.boxed hs.2.2.1 id, ht.low hs.2.2.2 (by omega) id⟩)
              ⟨hbV3, bT3, bn3, K3⟩
              (fun k b Y => ∃ x, b = { tmps := #[.slice a la ca, .int .i64 most, .int .i64 many, undef, undef, .pointer (some ⟨B, 0, none⟩), .pointer (some ⟨B + 1, 0, none⟩), .slice p1 N c1, .int .i64 no, .pointer (some ⟨G, 0, none⟩), .int .i64 no, .slice p3 qX c3, .int .i64 no, .func (.func 57) #[] #[.pointer (some ⟨P, 0, none⟩)], .string ⟨X.toArray⟩, .int .i64 (N : Int), .pointer (some ⟨T2, 0, none⟩), .pointer (some ⟨C2, 0, none⟩), .int .i64 (k : Int), x, u20, u21, u22, u23, u24, u25, u26, u27, u28, u29, u30, u31, u32, u33, u34, u35, u36, u37, u38, u39, u40, u41, u42, u43, u44, u45, u46, u47, u48, u49, u50, u51, u52, u53, u54, u55, u56, u57, u58, u59, u60, u61, u62, u63, u64, u65, u66, u67, u68, u69, u70, u71, u72, u73, u74, u75, u76, u77, u78, u79, u80, u81, u82, u83, u84, u85, u86, u87, u88, u89, u90, u91, u92, u93, .slice p3 qX c3, .string ⟨X.toArray⟩, .string ⟨X.toArray⟩, .bool false, .int .i64 1, .bool true, .int .i64 0, .int .i64 1, .func (.func 57) #[] #[.pointer (some ⟨P, 0, none⟩)], .int .i64 (k : Int), x, u105, u106, u107, u108, u109, u110, u111, u112, u113, u114, u115, u116, u117, u118, u119, u120, u121, u122, u123, u124, u125, u126, u127, u128, u129, u130, u131, u132, .int .i64 0, .bool true, .bool true, .int .i64 (k1 : Int), .slice p2 N c2, .int .i64 (N : Int), .int .i64 many, .int .i64 mx, .int .i64 (k1 : Int), .bool false, .bool false, .bool false, .int .i64 0, .bool false, .bool false, undef, undef, undef, undef, .bool false, .bool false, .int .i64 0, u155], defers := [] } ∧ BRow Y x (enc (L.getD k [])))
              (fun k b X Y hs ht => by obtain ⟨x, h1, h2⟩ := hs; exact ⟨x, h1, turn_brow ht h2 (fun _ h => h)⟩) ?assign2 ?body2 ?all2 ?fin2
            case assign2 =>
              rintro l' k args Y K hk hi ⟨x, rfl, hx⟩ hK
              gi_wp2
              exact hK _ _ (KeepsFrom.refl _ _) (KeepB.refl _ _ _) hi ⟨x, rfl, hx⟩
            case body2 =>
              rintro l' k b Y hl' ⟨r, hr⟩ hk ⟨hbl, bT, bn, K4⟩ hax
              have HK4 := Lib.hid K4
              clear K4
              obtain ⟨x, hb, hxe⟩ := hax
              subst hb
              obtain ⟨g2, o2, hp2, x2, hc2, hx2⟩ := HROW.out k hk
              have hX := hbl
              have hkI : ¬ (N : Int) ≤ (k : Int) := by omega
              have hkI2 : (k : Int) < (N : Int) := by omega
              have hkd : decide ((N : Int) ≤ (k : Int)) = false := decide_eq_false hkI
              have hkd2 : decide (N ≤ k) = false := decide_eq_false (by omega)
              have hk63 : (k : Int) + 1 ≤ 9223372036854775807 := by omega
              have BWX := fun d os => below_regrown Y d os
              have hcC : ∀ d os, (Go.Sort.grow (redrawn Y d) os).cell? ⟨C2, 0, none⟩ = some (.int .i64 (k : Int)) := fun d os => cell_regrown bn.cell d os
              have hcG : ∀ d os, (Go.Sort.grow (redrawn Y d) os).cell? ⟨G, 0, none⟩ = some (.slice p2 N c2) := fun d os => cell_regrown (show Boxed Y G 24 (.slice p2 N c2) from (hX.block _ HVG.out.lt).trans HVG.out).cell d os
              have hx2Y := hx2.below hX
              have hc2Y := cell_below hX hc2
              subst hp2
              obtain ⟨q, hq⟩ : ∃ q, L.getD k [] = q := ⟨_, rfl⟩
              rw [hq] at hxe hx2Y
              have hql : q.length ≤ 300 := by
                have hkL : k < L.length := by rw [HN.out]; exact hk
                rw [← hq, List.getD_eq_getElem?_getD, List.getElem?_eq_getElem hkL]
                exact HF.out.each _ (List.getElem_mem hkL)
              have cvx : ∀ d os, (convert 22 9 x).run Tryd.prog (Go.Sort.grow (redrawn Y d) os) = .ok (.string ⟨(enc q).toArray⟩) (Go.Sort.grow (redrawn Y d) os) := fun d os => conv_brow (hxe.below (BWX d os))
              have C1 := Lib.hid (fun d os => Calls.regrown_of (rch_encode x2 q (Go.Sort.grow (redrawn Y d) os) (hx2Y.below (BWX d os)) (by omega)))
              obtain ⟨Zq, hZq⟩ : ∃ Z, enc q = Z := ⟨_, rfl⟩
              rw [hZq] at cvx C1
              obtain ⟨a2, d2, hx2s, -, -⟩ := hx2Y
              subst hx2s
              obtain ⟨ax, dx, hxs, -, -⟩ := hxe
              subst hxs
              obtain ⟨eq, heq⟩ : ∃ e, (enc q).length = e := ⟨_, rfl⟩
              obtain ⟨lq, hlq⟩ : ∃ e, q.length = e := ⟨_, rfl⟩
              rw [heq] at cvx ⊢
              rw [hlq] at C1 hc2Y
              have hc2g : ∀ d os, (Go.Sort.grow (redrawn Y d) os).cell? ⟨g2, o2 + k, none⟩ = some (.slice a2 lq d2) := fun d os => cell_regrown hc2Y d os
              have HBN := Lib.hid bn
              have HBT := Lib.hid bT
              have HY := Lib.hid hX
              clear hc2Y hc2 hx2 hq hZq heq hlq hX bn bT hbl
              gi_wp2_with fail
              refine wpR_region_below (by kernel_rfl) (by kernel_rfl) (by kernel_rfl) ?_
              repeat (go_big_quiet_step (first | exact C1.out _ _ | fail))
              refine wpQuiet_nil ?_
              intro _ hw'
              obtain ⟨⟨dq, osq⟩, hw''⟩ := hw'
              subst hw''
              have hbY := below_regrown Y dq osq
              obtain ⟨Y1, hY1⟩ : ∃ Y1, Go.Sort.grow (redrawn Y dq) osq = Y1 := ⟨_, rfl⟩
              rw [hY1] at hbY ⊢
              have bn1 : Boxed Y1 C2 3 (.int .i64 (k : Int)) := (hbY.block _ HBN.out.lt).trans HBN.out
              have bT1 : Boxed Y1 T2 3 (.int .i64 1) := (hbY.block _ HBT.out.lt).trans HBT.out
              have hb1 : Below V.heap.size V Y1 := HY.out.trans (hbY.mono HY.out.size)
              have bm1 : Boxed Y1 B 3 (.int .i64 many) := (hb1.block _ HVM.out.lt).trans HVM.out
              have cn := bn1.cell
              have fn := bn1.frozen
              have cT := bT1.cell
              have cm := bm1.cell
              have HB1 := Lib.hid hb1
              have Hbn1 := Lib.hid bn1
              have HbT1 := Lib.hid bT1
              have HbY := Lib.hid hbY
              have KP : Hid (∀ v, KeepB V.heap.size (C2 + 3) Y (Y1.setCell ⟨C2, 0, none⟩ v)) := Lib.hid (fun v => (KeepB.below HbY.out).trans (KeepB.setCell _ _ (by omega)))
              clear hkI hkI2 hkd hkd2 hcC hcG cvx C1 hc2g BWX hY1 bn1 bT1 bm1 hb1 hbY
              gi_upto_if 132 with (fail)
              refine wpIn_cond (t := false) (by simp [Act.eval]) ?_
              refine wpIn_skip ?_
              change KeepsFrom _ _ _ ∧ _ ∧ _
              exact ⟨(keeps_of_below HbY.out).trans ((KeepsOthers.setCell _ _ _).from _), KP.out _, HB1.out.setCell (p := ⟨C2, 0, none⟩) (by show _ ≤ C2; omega) _, HbT1.out.other (by omega) _, Hbn1.out.set _, (Below.heap_setCell _ _ _ _ (by show D1 ≠ C2; omega)).trans ((HbY.out.block _ (Array.getElem?_eq_some_iff.1 HK4.out).1).trans HK4.out)⟩
            case all2 =>
              rintro Y ⟨h1, h2, h3, h4⟩
              exact ⟨h1, h2, h3, h4⟩
            case fin2 =>
              rintro D2 Y hD2 ⟨hbl, bT, bn, K5⟩ hK2
              have cn := bn.cell
              have cT := bT.cell
              have cG := (show Boxed Y G 24 (.slice p2 N c2) from (hbl.block _ HVG.out.lt).trans HVG.out).cell
              have HBL2 := Lib.hid hbl
              have HK5 := Lib.hid K5
              have HK2 := Lib.hid hK2
              clear bn bT K5 hK2 hbl
              gi_wp2_with fail
              rw [roundsIn_succ]
              obtain ⟨Z, hZ⟩ : ∃ Z, Y.alloc (.cells #[.int .i64 2] 3) = Z := ⟨_, rfl⟩
              obtain ⟨T3, hT3⟩ : ∃ T3, Y.heap.size = T3 := ⟨_, rfl⟩
              have cZ : Z.cell? ⟨T3, 0, none⟩ = some (.int .i64 2) := by rw [← hZ, ← hT3]; exact (Boxed.new _ _ _).cell
              have hbZ : Below V.heap.size V Z := by rw [← hZ]; exact HBL2.out.alloc HBL2.out.size _
              have K6 : Z.heap[D1]? = some (.deferred (some [])) := by rw [← hZ]; exact (Below.heap_alloc _ _ _ (Array.getElem?_eq_some_iff.1 HK5.out).1).trans HK5.out
              have K7 : Z.heap[D2]? = some (.deferred (some [])) := by rw [← hZ]; exact (Below.heap_alloc _ _ _ (Array.getElem?_eq_some_iff.1 HK2.out).1).trans HK2.out
              rw [hT3, hZ]
              have HBZ := Lib.hid hbZ
              have HK6 := Lib.hid K6
              have HK7 := Lib.hid K7
              clear hT3 hZ K6 K7 cn cT cG hbZ
              gi_wp2_with fail
              refine ⟨trivial, (callsIn_wide.2 (WK.out _ (HVT.out.below HBZ.out))).mono ?_⟩
              rintro e U ⟨rfl, hbU⟩
              have hbVU : Below V.heap.size V U := HBZ.out.trans (hbU.mono HBZ.out.size)
              have bR : Boxed U (B + 1) 4 (.bool false) := (hbVU.block _ HVR.out.lt).trans HVR.out
              have K8 : U.heap[D1]? = some (.deferred (some [])) := (hbU.block _ (Array.getElem?_eq_some_iff.1 HK6.out).1).trans HK6.out
              have K9 : U.heap[D2]? = some (.deferred (some [])) := (hbU.block _ (Array.getElem?_eq_some_iff.1 HK7.out).1).trans HK7.out
              have bV : Below w.heap.size w U := HVW.out.trans (hbVU.mono HVW.out.size)
              have cR := bR.cell
              have fR := bR.frozen
              have HK8 := Lib.hid K8
              have HK9 := Lib.hid K9
              have HbR := Lib.hid bR
              have HbV := Lib.hid bV
              clear bR K8 K9 bV hbVU hbU
              gi_wp2
              have hBw := HB.out
              have d2 : B + 1 < D2 := by omega
              have d1 : B + 1 < D1 := by omega
              have d12 : D1 ≠ D2 := by omega
              have L9 : (U.setCell ⟨B + 1, 0, none⟩ (.bool true)).heap[D2]? = some (.deferred (some [])) := (Below.heap_setCell _ _ _ _ (by show D2 ≠ B + 1; omega)).trans HK9.out
              have L8 : ((U.setCell ⟨B + 1, 0, none⟩ (.bool true)).putObj D2 (.deferred none)).heap[D1]? = some (.deferred (some [])) := (World.putObj_heap_other d12).trans ((Below.heap_setCell _ _ _ _ (by show D1 ≠ B + 1; omega)).trans HK8.out)
              have L0 : Boxed (((U.setCell ⟨B + 1, 0, none⟩ (.bool true)).putObj D2 (.deferred none)).putObj D1 (.deferred none)) (B + 1) 4 (.bool true) := (World.putObj_heap_other (by omega)).trans ((World.putObj_heap_other (by omega)).trans (HbR.out.set _))
              have c0 := L0.cell
              refine ⟨by simp, .inl ⟨_, _, rfl, run_takeDeferred L9, ?_⟩⟩
              refine ⟨by simp, .inl ⟨_, _, rfl, run_takeDeferred L8, ?_⟩⟩
              refine ⟨.bool true, ?_, rfl, ?_⟩
              · simp [results, Tryd.results3, go_sem, c0]
              · refine (HbV.out.setCell (p := ⟨B + 1, 0, none⟩) (by show w.heap.size ≤ B + 1; omega) _).trans ((belowK_b (w := w) (Nat.le_refl _) _ D2 _ _ (by omega) L9 rfl rfl).trans (belowK_b (w := w) (Nat.le_refl _) _ D1 _ _ (by omega) L8 rfl rfl))
  · gi_wp2_with fail
    clear hW0
    refine ⟨trivial, (callsIn_wide.2 (WK.out _ (HT.out.below HB0.out))).mono ?_⟩
    rintro e w1 ⟨rfl, hb1⟩
    have hr1 : Boxed w1 (B + 1) 4 (.bool false) := (hb1.block _ HR0.out.lt).trans HR0.out
    have cr := hr1.cell
    have fr := hr1.frozen
    have HB1 : Hid (Below w.heap.size w w1) := Lib.hid (HB0.out.trans (hb1.mono HB0.out.size))
    have hBB : w.heap.size ≤ B + 1 := by have := HB.out; omega
    clear hb1
    gi_wp2
    have c0 := (hr1.set (.bool true)).cell
    refine ⟨.bool true, ?_, rfl, HB1.out.setCell (p := ⟨B + 1, 0, none⟩) hBB _⟩
    simp [results, Tryd.results3, go_sem, c0]
end Go.Proofs.YtoidopdpnnogaaaDoor
