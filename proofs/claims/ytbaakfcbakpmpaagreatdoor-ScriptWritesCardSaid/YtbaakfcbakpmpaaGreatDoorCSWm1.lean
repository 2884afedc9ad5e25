/- Texts of this claim, one behind the other: LSW. -/
import Derived.Test.YtbaakfcbakpmpaaGreatDoorUjm7
import Derived.Deep.Cut
import Derived.Deep.DeepCutAuto
/- ScriptWrites returns true for any steps: the walk. The tables of the library, and its cell of a bound, read as they are laid. Printed by genLSW.py. -/
namespace Go.Proofs.YtbaakfcbakpmpaaGreatDoor
set_option linter.unusedVariables false
set_option linter.unusedSimpArgs false
open Go.RowKit Go.Shelf
set_option maxHeartbeats 8000000
set_option maxRecDepth 100000
def swF (g o g4 o4 n k vc c4 : Nat) (x : Sc.St) (up up4 : Option Addr) (un uc un4 uc4 : Nat) : Nat → World → Value → Prop
  | 0, _, v => v = .slice (some ⟨g4, o4, none⟩) n c4
  | 1, _, v => v = .int .i64 (k : Int)
  | 2, _, v => v = .pointer (some ⟨g4, o4 + k * 6, none⟩)
  | 3, _, v => v = .agg #[.int .i64 x.kind, .int .u64 (x.conn : Int), .int .i64 x.topic, .int .u64 (x.n : Int), .int .u64 (x.draw : Int), .slice up4 un4 uc4]
  | 4, _, v => v = .slice (some ⟨g, o, none⟩) n vc
  | 5, _, v => v = .int .i64 (k : Int)
  | 6, _, v => v = .pointer (some ⟨g, o + k * 6, none⟩)
  | 7, _, v => v = .agg #[.int .i64 x.kind, .int .u64 (x.conn : Int), .int .i64 x.topic, .int .u64 (x.n : Int), .int .u64 (x.draw : Int), .slice up un uc]
  | 8, _, v => v = .bool true
  | 9, _, v => v = .bool false
  | _, _, _ => False
theorem cell_belowA {W w1 : World} (hb : Below W.heap.size W w1) {p : Addr} {v : Value} (h : W.cell? p = some v) : w1.cell? p = some v := by
  refine (hb.cell (p := p) ?_).trans h
  rcases Nat.lt_or_ge p.block W.heap.size with h' | h'
  · exact h'
  · simp [World.cell?, Array.getElem?_eq_none h'] at h
theorem wr_two (xs : List Sc.St) (hn : xs.length ≤ 4096) : ∃ (sb : ByteArray) (no : Int), wrOut xs = .tuple #[.string sb, .int .i64 no] ∧ ((no = 0 ∧ Sc.wr xs = some sb.data.toList) ∨ no ≠ 0) := by
  unfold wrOut
  rw [if_neg (by omega)]
  cases Sc.wr xs with
  | none => exact ⟨⟨#[]⟩, 2, rfl, .inr (by decide)⟩
  | some s => exact ⟨⟨s.toArray⟩, 0, rfl, .inl ⟨rfl, rfl⟩⟩
theorem walkSW (v : Value) (qs : List (Sc.St × Value)) (w : World) (hv : StsIn w v qs) (hq : ∀ q ∈ qs, q.1.ok ∧ q.1.bytes.length ≤ maxLen) (hn : qs.length ≤ maxLen) (hk : KX w) :
    Calls Tryz.prog 7 #[v] w fun e w' => e = .returned (.bool true) ∧ Below w.heap.size w w' := by
  obtain ⟨i0, hi, hz0, hz1, hz2⟩ := info_parts (show (Tryz.prog.info? 26).map (fun i => (i.zero, i.size, i.bytes)) = some (some (.agg #[.int .i64 0, .int .u64 0, .int .i64 0, .int .u64 0, .int .u64 0, .slice none 0 0]), 6, 64) by kernel_rfl)
  have HB := Lib.hid (Below.refl w.heap.size w)
  have HK := Lib.hid hk
  have HV := Lib.hid hv
  have KN := Lib.hid sc_num
  have KF := Lib.hid (sc_few v qs 20 100 w hv hn (by decide) (fun q hq2 => (hq q hq2).2))
  obtain ⟨vp, vc, rfl, hsrc⟩ := hv.src
  have HSRC := Lib.hid hsrc
  have HOK := Lib.hid (fun q hq2 => (hq q hq2).1)
  obtain ⟨n, hnn⟩ : ∃ z, qs.length = z := ⟨_, rfl⟩
  have HNN := Lib.hid hnn
  rw [hnn] at hn HSRC HV ⊢
  rw [hnn] at KF
  unfold maxLen at hn
  clear hk hv hq hnn hsrc
  go_enter Tryz.func7, Tryz.ntmps7
  go_wp2_with fail
  refine KF.out.mono ?_
  rintro e w' ⟨b, rfl, hfew, hw⟩
  subst w'
  cases b with
  | false =>
    clear hfew
    go_wp2_with fail
    refine (sc_works w HK.out.tabs HK.out.ml).mono ?_
    rintro e w2 ⟨rfl, hb⟩
    have HB := Lib.hid (HB.out.trans (hb.mono HB.out.size))
    clear hb
    go_wp2_with fail
    go_ret
    exact ⟨rfl, HB.out⟩
  | true =>
    obtain ⟨hn20, hb100⟩ := hfew rfl
    rw [HNN.out] at hn20
    clear hfew
    obtain ⟨xs, hxs⟩ : ∃ z, qs.map (·.1) = z := ⟨_, rfl⟩
    have hxl : xs.length = n := by rw [← hxs, List.length_map, HNN.out]
    obtain ⟨sb, no, hwo, hwr⟩ := wr_two xs (by omega)
    have hqx : ∀ q ∈ qs, q.1.ok ∧ q.1.bytes.length ≤ 10000 := fun q hq => ⟨HOK.out q hq, by have := hb100 q hq; omega⟩
    have hxx : ∀ x ∈ xs, x.ok ∧ x.bytes.length ≤ 100 := fun x hx => by
      rw [← hxs] at hx
      obtain ⟨q, hq, rfl⟩ := List.mem_map.1 hx
      exact ⟨HOK.out q hq, hb100 q hq⟩
    have hsz : ∀ k s, k ≤ 4096 → Sc.wr (xs.take k) = some s → s.length ≤ 900000 := fun k s _ h => by
      have h1 := Sc.wr_take 100 hxx (by decide) k s h
      have h2 : xs.length * (11 + 3 * (3 * 100 + 101)) ≤ 20 * (11 + 3 * (3 * 100 + 101)) := Nat.mul_le_mul_right _ (by omega)
      omega
    have hwl : ∀ s, Sc.wr xs = some s → s.length ≤ 30000 := fun s h => by
      have h1 := Sc.wr_take 100 hxx (by decide) xs.length s (by rw [List.take_length]; exact h)
      have h2 : xs.length * (11 + 3 * (3 * 100 + 101)) ≤ 20 * (11 + 3 * (3 * 100 + 101)) := Nat.mul_le_mul_right _ (by omega)
      omega
    have KW := Lib.hid (fun (v2 : Value) (W : World) (h : StsIn W v2 qs) (ht : Tabs W) => sc_Write v2 qs W h hqx (by rw [HNN.out]; omega) (by rw [hxs]; exact hsz) ht)
    have KR := Lib.hid (fun (W : World) (h : StsIn W (.slice vp n vc) qs) => rf_Write (.slice vp n vc) qs W h hqx (by rw [HNN.out]; omega) (by rw [hxs]; exact hsz))
    have HXS := Lib.hid hxs
    have HXL := Lib.hid hxl
    have HWL := Lib.hid hwl
    have HOKX := Lib.hid (fun x hx => (hxx x hx).1)
    rw [hxs, hwo] at KW KR
    have HSL := Lib.hid (show ∀ q ∈ qs, isSl q.2 from fun q hq => by
      obtain ⟨p, c, h1, h2, h3⟩ := HV.out
      exact (h3 q hq).sl)
    have HBR := Lib.hid (show ∀ q ∈ qs, BR w q.2 q.1.bytes from by
      obtain ⟨p, c, h1, h2, h3⟩ := HV.out
      exact h3)
    clear hxs hxl hqx hxx hsz hwl hwo hb100
    -- the steps, copied
    obtain ⟨G, hG⟩ : ∃ z, w.heap.size = z := ⟨_, rfl⟩
    have HG := Lib.hid hG
    have hown0 : (w.alloc (.cells #[] 26)).ownsRow G 26 6 (.slice (some ⟨G, 0, none⟩) 0 0) 0 [] :=
      ⟨rfl, .inr ⟨G, 0, #[], rfl, Nat.le_refl _, by rw [← hG]; exact World.alloc_heap_new _ _, Nat.le_refl _, by decide, rfl, rfl⟩⟩
    have HO0 := Lib.hid hown0
    clear hG hown0
    go_upto_region 3 with (fail)
    go_wp2_with (first
      | (at_builtin; (try rw [HG.out]); refine wpList_append_from rfl _ _ 53 rfl G 26 i0 (.agg #[.int .i64 0, .int .u64 0, .int .i64 0, .int .u64 0, .int .u64 0, .slice none 0 0]) 6 64 Tryz.underlying53 hi hz0 hz1 hz2 rfl (by decide) (.slice (some ⟨G, 0, none⟩) 0 0) 0 [] rfl HO0.out vp n vc (stCs qs) rfl (by rw [stCs_len, HNN.out]) ?c1 (stCs_one HSL.out) (by unfold maxLen; omega) (by omega) (by simp; have := HG.out; omega) ?_))
    case c1 => exact HSRC.out.imp id (fun ⟨ad, h1, h2⟩ => ⟨ad, h1, fun j u hj => cell_belowA ((Below.refl w.heap.size w).alloc (Nat.le_refl _) _) (h2 j u hj)⟩)
    intro v1 w1 hown1 hgrow1
    (try rw [List.nil_append] at hown1)
    (try rw [Nat.zero_add] at hown1)
    have hb1 : Below w.heap.size w w1 := by
      rw [HG.out]
      exact Below.grown ((Below.refl _ _).alloc (by have := HG.out; omega) _) hgrow1 (by simp; have := HG.out; omega) (fun g hg => by simp [Value.ownBlock] at hg; omega)
    have hst1 : StsIn w1 v1 qs := own_stsIn hown1 (fun q hq => (HBR.out q hq).below hb1)
    have HK := Lib.hid (HK.out.below hb1)
    have HV := Lib.hid (HV.out.below hb1)
    have HB := Lib.hid (HB.out.trans (hb1.mono HB.out.size))
    obtain ⟨p1, c1, rfl⟩ : ∃ p c, v1 = .slice p n c := by obtain ⟨p, c, h⟩ := own_slS hown1; exact ⟨p, c, h⟩
    have K := Lib.hid (KW.out _ w1 hst1 HK.out.tabs)
    clear hown1 hgrow1 hb1 hst1
    go_wp2_with fail
    refine K.out.mono ?_
    rintro e w2 ⟨rfl, hb2⟩
    have HK := Lib.hid (HK.out.below hb2)
    have HV := Lib.hid (HV.out.below hb2)
    have HB := Lib.hid (HB.out.trans (hb2.mono HB.out.size))
    have K := Lib.hid (KR.out w2 HV.out)
    clear hb2
    go_wp2_with fail
    refine K.out.mono ?_
    rintro e w3 ⟨rfl, hb3⟩
    have HK := Lib.hid (HK.out.below hb3)
    have HV := Lib.hid (HV.out.below hb3)
    have HB := Lib.hid (HB.out.trans (hb3.mono HB.out.size))
    have e1 : (sb.toList == sb.toList) = true := beq_self_eq_true _
    have e2 : (no != no) = false := by simp
    clear hb3
    rcases hwr with ⟨rfl, hwr⟩ | hno
    · have HWR := Lib.hid hwr
      have hsb : sb.size ≤ 30000 := by
        have h := HWL.out _ hwr
        simpa using h
      have HRD := Lib.hid (Sc.read_wr hwr HOKX.out (by rw [HXL.out]; omega))
      have hsb5 : sb.size ≤ 50000 := by omega
      clear hwr
      go_wp2_with fail
      refine (KN.out _ _).mono ?_
      rintro e w' ⟨rfl, hw⟩
      subst w'
      have K := sc_Read sb w3 hsb5 HK.out.tabs HK.out.ml
      rw [HRD.out] at K
      have K := Lib.hid K
      go_wp2_with fail
      refine K.out.mono ?_
      rintro e w4 ⟨v4, rfl, hrow, hb4⟩
      obtain ⟨rs, hrs, hst4, _⟩ := hrow.stsIn
      have hrl : rs.length = n := by rw [← HXL.out, ← hrs, List.length_map]
      obtain ⟨p4, c4, rfl⟩ : ∃ p c, v4 = .slice p n c := by obtain ⟨p, c, h, _⟩ := hst4; rw [hrl] at h; exact ⟨p, c, h⟩
      have HK := Lib.hid (HK.out.below hb4)
      have HV := Lib.hid (HV.out.below hb4)
      have HB := Lib.hid (HB.out.trans (hb4.mono HB.out.size))
      have HV4 := Lib.hid hst4
      have HRS := Lib.hid hrs
      have HRL := Lib.hid hrl
      have e3 : ((n : Int) != (n : Int)) = false := by simp
      clear hb4 hrow hst4 hrs hrl K
      go_wp2_with fail
      refine (KN.out _ _).mono ?_
      rintro e w' ⟨rfl, hw⟩
      subst w'
      go_wp2_with fail
      go_loopw [10] (fun i wr => ∃ k : Nat, k ≤ n ∧ i = .int .i64 k ∧ Below w4.heap.size w4 wr) (fun i _ => n - (intOf i).toNat)
      case atStart => exact ⟨0, Nat.zero_le _, rfl, Below.refl _ _⟩
      case round =>
        obtain ⟨k, hk, rfl, hbw⟩ := hrel
        have HBW := Lib.hid hbw
        clear hbw
        by_cases hlt : k < n
        · have hI : (k : Int) < (n : Int) := by omega
          obtain ⟨g, o, c, hsl, hsc, hbr⟩ := (HV.out.below HBW.out).at (j := k) (by rw [HNN.out]; exact hlt)
          obtain ⟨rfl, rfl⟩ : vp = some ⟨g, o, none⟩ ∧ vc = c := by
            simp only [Value.slice.injEq] at hsl
            exact ⟨hsl.1, hsl.2.2⟩
          obtain ⟨g4, o4, c', hsl4, hsc4, hbr4⟩ := (HV4.out.below HBW.out).at (j := k) (by rw [HRL.out]; exact hlt)
          obtain ⟨rfl, rfl⟩ : p4 = some ⟨g4, o4, none⟩ ∧ c4 = c' := by
            simp only [Value.slice.injEq] at hsl4
            exact ⟨hsl4.1, hsl4.2.2⟩
          have hsame : (rs.getD k (Sc.St.zero, undef)).1 = (qs.getD k (Sc.St.zero, undef)).1 := by rw [← getD_fst, ← getD_fst, HRS.out, HXS.out]
          rw [hsame] at hsc4 hbr4
          obtain ⟨x, hx⟩ : ∃ z, (qs.getD k (Sc.St.zero, undef)).1 = z := ⟨_, rfl⟩
          obtain ⟨u, hu⟩ : ∃ z, (qs.getD k (Sc.St.zero, undef)).2 = z := ⟨_, rfl⟩
          obtain ⟨u4, hu4⟩ : ∃ z, (rs.getD k (Sc.St.zero, undef)).2 = z := ⟨_, rfl⟩
          rw [hx, hu] at hsc hbr
          rw [hx, hu4] at hsc4 hbr4
          obtain ⟨up, un, uc, rfl⟩ := hbr.sl
          obtain ⟨up4, un4, uc4, rfl⟩ := hbr4.sl
          have HSC := Lib.hid hsc
          have HSC4 := Lib.hid hsc4
          have KS := Lib.hid (show ∀ W, Below wr.heap.size wr W → Calls Tryz.prog 21 #[.agg #[.int .i64 x.kind, .int .u64 (x.conn : Int), .int .i64 x.topic, .int .u64 (x.n : Int), .int .u64 (x.draw : Int), .slice up4 un4 uc4], .agg #[.int .i64 x.kind, .int .u64 (x.conn : Int), .int .i64 x.topic, .int .u64 (x.n : Int), .int .u64 (x.draw : Int), .slice up un uc]] W fun e w' => e = .returned (.bool true) ∧ Below W.heap.size W w' from fun W hb => by
            have h := rf_SameStep x.kind (x.conn : Int) x.topic (x.n : Int) (x.draw : Int) x.kind (x.conn : Int) x.topic (x.n : Int) (x.draw : Int) (.slice up4 un4 uc4) (.slice up un uc) x.bytes x.bytes W (hbr4.below hb) (hbr.below hb)
            rwa [decide_eq_true (show x.kind = x.kind ∧ (x.conn : Int) = (x.conn : Int) ∧ x.topic = x.topic ∧ (x.n : Int) = (x.n : Int) ∧ (x.draw : Int) = (x.draw : Int) ∧ x.bytes = x.bytes from ⟨rfl, rfl, rfl, rfl, rfl, rfl⟩)] at h)
          clear hsl hsl4 hsc hsc4 hbr hbr4 hsame hx hu hu4
          go_wp2_with fail
          refine region_slotsG (fun i => 65 + min i 9) (swF g o g4 o4 n k vc c4 x up up4 un uc un4 uc4) (fun _ => true) (by kernel_rfl) (by kernel_rfl) (fun i => by show 65 + min i 9 < _; simp; omega) (fun i j hi hj h => by have hi : i < 10 := hi; have hj : j < 10 := hj; omega) ?mono ?dst ?gu ?ng ?skip ?step ?done
          case mono =>
            intro i W W' v h hbw
            match i, h with
            | 0, h | 1, h | 2, h | 3, h | 4, h | 5, h | 6, h | 7, h | 8, h | 9, h => exact h
            | n + 10, h => exact h.elim
          case dst =>
            intro i o ho
            match i, ho with
            | 0, ho | 1, ho | 2, ho | 3, ho | 4, ho | 5, ho | 6, ho | 7, ho | 8, ho | 9, ho => cases ho; rfl
            | n + 10, ho => exact absurd ho (by simp)
          case gu =>
            intro i o g b ho hgd W v hv
            match i, ho with
            | 0, ho => cases ho; cases hgd
            | 1, ho => cases ho; cases hgd
            | 2, ho => cases ho; cases hgd
            | 3, ho => cases ho; cases hgd
            | 4, ho => cases ho; cases hgd
            | 5, ho => cases ho; cases hgd
            | 6, ho => cases ho; cases hgd
            | 7, ho => cases ho; cases hgd
            | 8, ho => cases ho; cases hgd
            | 9, ho => cases ho; cases hgd
            | n + 10, ho => exact absurd ho (by simp)
          case ng =>
            intro i o ho hgd
            match i, ho with
            | 0, ho => cases ho; first | rfl | cases hgd
            | 1, ho => cases ho; first | rfl | cases hgd
            | 2, ho => cases ho; first | rfl | cases hgd
            | 3, ho => cases ho; first | rfl | cases hgd
            | 4, ho => cases ho; first | rfl | cases hgd
            | 5, ho => cases ho; first | rfl | cases hgd
            | 6, ho => cases ho; first | rfl | cases hgd
            | 7, ho => cases ho; first | rfl | cases hgd
            | 8, ho => cases ho; first | rfl | cases hgd
            | 9, ho => cases ho; first | rfl | cases hgd
            | n + 10, ho => exact absurd ho (by simp)
          case skip =>
            intro i W hi hsel
            match i, hi, hsel with
            | 0, _, hsel => first | exact absurd hsel (by decide) | rfl
            | 1, _, hsel => first | exact absurd hsel (by decide) | rfl
            | 2, _, hsel => first | exact absurd hsel (by decide) | rfl
            | 3, _, hsel => first | exact absurd hsel (by decide) | rfl
            | 4, _, hsel => first | exact absurd hsel (by decide) | rfl
            | 5, _, hsel => first | exact absurd hsel (by decide) | rfl
            | 6, _, hsel => first | exact absurd hsel (by decide) | rfl
            | 7, _, hsel => first | exact absurd hsel (by decide) | rfl
            | 8, _, hsel => first | exact absurd hsel (by decide) | rfl
            | 9, _, hsel => first | exact absurd hsel (by decide) | rfl
            | n + 10, hi, _ => exact absurd hi (by simp)
          case step =>
            intro f a' W i o ho hsel hpre hbel hrest
            match i, ho, hsel with
            | 0, ho, _ =>
              cases ho
              have q7 : a'.tmps.getD 7 undef = .slice (some ⟨g4, o4, none⟩) n c4 := (hrest 7 (by intro i hi; have hi : i < 10 := hi; show 65 + min i 9 ≠ _; omega))
              have e7 := rg_ev q7
              exact rg_same (.slice (some ⟨g4, o4, none⟩) n c4) (by unfold Oper.wp execOp; go_simp; all_goals ((try simp only [e7]); (try go_simp); (try rw [if_pos (by omega)]); (try rw [if_neg (by omega)]); first | done | rfl | exact ⟨rfl, rfl⟩ | trivial)) rfl
            | 1, ho, _ =>
              cases ho
              have q10 : a'.tmps.getD 10 undef = .int .i64 (k : Int) := (hrest 10 (by intro i hi; have hi : i < 10 := hi; show 65 + min i 9 ≠ _; omega))
              have e10 := rg_ev q10
              exact rg_same (.int .i64 (k : Int)) (by unfold Oper.wp execOp; go_simp; all_goals ((try simp only [e10]); (try go_simp); (try rw [if_pos (by omega)]); (try rw [if_neg (by omega)]); first | done | rfl | exact ⟨rfl, rfl⟩ | trivial)) rfl
            | 2, ho, _ =>
              cases ho
              have q65 : a'.tmps.getD 65 undef = .slice (some ⟨g4, o4, none⟩) n c4 := (hpre { on := 0, ground := .data } (by simp) rfl)
              have q66 : a'.tmps.getD 66 undef = .int .i64 (k : Int) := (hpre { on := 1, ground := .data } (by simp) rfl)
              have e65 := rg_ev q65
              have e66 := rg_ev q66
              exact rg_same (.pointer (some ⟨g4, o4 + k * 6, none⟩)) (by unfold Oper.wp execOp; go_simp; all_goals ((try simp only [e65, e66]); (try go_simp); (try rw [if_pos (by omega)]); (try rw [if_neg (by omega)]); first | done | rfl | exact ⟨rfl, rfl⟩ | trivial)) rfl
            | 3, ho, _ =>
              cases ho
              have q67 : a'.tmps.getD 67 undef = .pointer (some ⟨g4, o4 + k * 6, none⟩) := (hpre { on := 2, ground := .data } (by simp) rfl)
              obtain ⟨y0, y1, y2, y3, y4, y5⟩ := HSC4.out.below hbel
              have e67 := rg_ev q67
              exact rg_same (.agg #[.int .i64 x.kind, .int .u64 (x.conn : Int), .int .i64 x.topic, .int .u64 (x.n : Int), .int .u64 (x.draw : Int), .slice up4 un4 uc4]) (by unfold Oper.wp execOp; go_simp; all_goals ((try simp only [e67]); (try go_simp); (try rw [if_pos (by omega)]); (try rw [if_neg (by omega)]); first | done | rfl | exact ⟨rfl, rfl⟩ | trivial)) rfl
            | 4, ho, _ =>
              cases ho
              have q0 : a'.tmps.getD 0 undef = .slice (some ⟨g, o, none⟩) n vc := (hrest 0 (by intro i hi; have hi : i < 10 := hi; show 65 + min i 9 ≠ _; omega))
              have e0 := rg_ev q0
              exact rg_same (.slice (some ⟨g, o, none⟩) n vc) (by unfold Oper.wp execOp; go_simp; all_goals ((try simp only [e0]); (try go_simp); (try rw [if_pos (by omega)]); (try rw [if_neg (by omega)]); first | done | rfl | exact ⟨rfl, rfl⟩ | trivial)) rfl
            | 5, ho, _ =>
              cases ho
              have q10 : a'.tmps.getD 10 undef = .int .i64 (k : Int) := (hrest 10 (by intro i hi; have hi : i < 10 := hi; show 65 + min i 9 ≠ _; omega))
              have e10 := rg_ev q10
              exact rg_same (.int .i64 (k : Int)) (by unfold Oper.wp execOp; go_simp; all_goals ((try simp only [e10]); (try go_simp); (try rw [if_pos (by omega)]); (try rw [if_neg (by omega)]); first | done | rfl | exact ⟨rfl, rfl⟩ | trivial)) rfl
            | 6, ho, _ =>
              cases ho
              have q69 : a'.tmps.getD 69 undef = .slice (some ⟨g, o, none⟩) n vc := (hpre { on := 4, ground := .data } (by simp) rfl)
              have q70 : a'.tmps.getD 70 undef = .int .i64 (k : Int) := (hpre { on := 5, ground := .data } (by simp) rfl)
              have e69 := rg_ev q69
              have e70 := rg_ev q70
              exact rg_same (.pointer (some ⟨g, o + k * 6, none⟩)) (by unfold Oper.wp execOp; go_simp; all_goals ((try simp only [e69, e70]); (try go_simp); (try rw [if_pos (by omega)]); (try rw [if_neg (by omega)]); first | done | rfl | exact ⟨rfl, rfl⟩ | trivial)) rfl
            | 7, ho, _ =>
              cases ho
              have q71 : a'.tmps.getD 71 undef = .pointer (some ⟨g, o + k * 6, none⟩) := (hpre { on := 6, ground := .data } (by simp) rfl)
              obtain ⟨y0, y1, y2, y3, y4, y5⟩ := HSC.out.below hbel
              have e71 := rg_ev q71
              exact rg_same (.agg #[.int .i64 x.kind, .int .u64 (x.conn : Int), .int .i64 x.topic, .int .u64 (x.n : Int), .int .u64 (x.draw : Int), .slice up un uc]) (by unfold Oper.wp execOp; go_simp; all_goals ((try simp only [e71]); (try go_simp); (try rw [if_pos (by omega)]); (try rw [if_neg (by omega)]); first | done | rfl | exact ⟨rfl, rfl⟩ | trivial)) rfl
            | 8, ho, _ =>
              cases ho
              have q68 : a'.tmps.getD 68 undef = .agg #[.int .i64 x.kind, .int .u64 (x.conn : Int), .int .i64 x.topic, .int .u64 (x.n : Int), .int .u64 (x.draw : Int), .slice up4 un4 uc4] := (hpre { on := 3, ground := .data } (by simp) rfl)
              have q72 : a'.tmps.getD 72 undef = .agg #[.int .i64 x.kind, .int .u64 (x.conn : Int), .int .i64 x.topic, .int .u64 (x.n : Int), .int .u64 (x.draw : Int), .slice up un uc] := (hpre { on := 7, ground := .data } (by simp) rfl)
              exact rg_call2 68 72 21 _ _ _ _ rfl q68 q72 (enters_of Tryz.func21 (by kernel_rfl) rfl) (KS.out W hbel) (fun e w' h => ⟨_, h.1, _, rfl, rfl, h.2⟩)
            | 9, ho, _ =>
              cases ho
              have q73 : a'.tmps.getD 73 undef = .bool true := (hpre { on := 8, ground := .data } (by simp) rfl)
              have e73 := rg_ev q73
              exact rg_same (.bool false) (by unfold Oper.wp execOp; go_simp; all_goals ((try simp only [e73]); (try go_simp); (try rw [if_pos (by omega)]); (try rw [if_neg (by omega)]); first | done | rfl | exact ⟨rfl, rfl⟩ | trivial)) rfl
            | n + 10, ho, _ => exact absurd ho (by simp)
          case done =>
            intro vs W hbel hvs
            have v0 : vs 0 = .slice (some ⟨g4, o4, none⟩) n c4 := hvs 0 (by decide)
            have v1 : vs 1 = .int .i64 (k : Int) := hvs 1 (by decide)
            have v2 : vs 2 = .pointer (some ⟨g4, o4 + k * 6, none⟩) := hvs 2 (by decide)
            have v3 : vs 3 = .agg #[.int .i64 x.kind, .int .u64 (x.conn : Int), .int .i64 x.topic, .int .u64 (x.n : Int), .int .u64 (x.draw : Int), .slice up4 un4 uc4] := hvs 3 (by decide)
            have v4 : vs 4 = .slice (some ⟨g, o, none⟩) n vc := hvs 4 (by decide)
            have v5 : vs 5 = .int .i64 (k : Int) := hvs 5 (by decide)
            have v6 : vs 6 = .pointer (some ⟨g, o + k * 6, none⟩) := hvs 6 (by decide)
            have v7 : vs 7 = .agg #[.int .i64 x.kind, .int .u64 (x.conn : Int), .int .i64 x.topic, .int .u64 (x.n : Int), .int .u64 (x.draw : Int), .slice up un uc] := hvs 7 (by decide)
            have v8 : vs 8 = .bool true := hvs 8 (by decide)
            have v9 : vs 9 = .bool false := hvs 9 (by decide)
            have HBR := Lib.hid hbel
            simp only [fillN, List.size_toArray, List.length_cons, List.length_nil, Nat.reduceAdd, show List.range 10 = [0, 1, 2, 3, 4, 5, 6, 7, 8, 9] from rfl, List.foldl_cons, List.foldl_nil, show 65 + min 0 9 = 65 from rfl, show 65 + min 1 9 = 66 from rfl, show 65 + min 2 9 = 67 from rfl, show 65 + min 3 9 = 68 from rfl, show 65 + min 4 9 = 69 from rfl, show 65 + min 5 9 = 70 from rfl, show 65 + min 6 9 = 71 from rfl, show 65 + min 7 9 = 72 from rfl, show 65 + min 8 9 = 73 from rfl, show 65 + min 9 9 = 74 from rfl, v0, v1, v2, v3, v4, v5, v6, v7, v8, v9]
            clear v0 v1 v2 v3 v4 v5 v6 v7 v8 v9 hvs hbel
            go_simp
            have HBW2 := Lib.hid (HBW.out.trans (HBR.out.mono HBW.out.size))
            clear HBR
            go_wp2_with fail
            go_roundw
            case rel => exact ⟨k + 1, hlt, by go_num, HBW2.out⟩
            case measure => simp [intOf]; omega
        · have hI : ¬ (k : Int) < (n : Int) := by omega
          have HKW := Lib.hid (HK.out.below HBW.out)
          have KWK := Lib.hid (sc_works wr HKW.out.tabs HKW.out.ml)
          go_wp2_with fail
          refine KWK.out.mono ?_
          rintro e w5 ⟨rfl, hb⟩
          have HB := Lib.hid ((HB.out.trans (HBW.out.mono HB.out.size)).trans (hb.mono (Nat.le_trans HB.out.size HBW.out.size)))
          clear hb
          go_wp2_with fail
          go_ret
          exact ⟨rfl, HB.out⟩
    · have q1 : (no != 0) = true := by rw [bne_iff_ne]; exact hno
      clear hno
      have KWK := Lib.hid (sc_works w3 HK.out.tabs HK.out.ml)
      go_wp2_with fail
      refine (KN.out _ _).mono ?_
      rintro e w' ⟨rfl, hw⟩
      subst w'
      go_wp2_with fail
      refine KWK.out.mono ?_
      rintro e w5 ⟨rfl, hb⟩
      have HB := Lib.hid (HB.out.trans (hb.mono HB.out.size))
      clear hb
      go_wp2_with fail
      go_ret
      exact ⟨rfl, HB.out⟩
end Go.Proofs.YtbaakfcbakpmpaaGreatDoor
