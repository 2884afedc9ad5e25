/- Texts of this claim, one behind the other: LRH. -/
import Derived.Test.YtgfammlmbjmkoaaGreatDoorOwm4
import Derived.Deep.Cut
/- RouteHolds returns true: the walk. -/
namespace Go.Proofs.YtgfammlmbjmkoaaGreatDoor
set_option linter.unusedVariables false
set_option linter.unusedSimpArgs false
open Go.RowKit Go.Shelf
attribute [local go_sem] Oper.semAt_some
set_option maxHeartbeats 8000000
set_option maxRecDepth 100000
namespace Ro
theorem one_app (f : List UInt8) (a b : List Pt) : one f (a ++ b) = one f a ++ one f b := by unfold one; rw [List.filter_append, List.map_append]
theorem open_app (a b : List Pt) : isOpen (a ++ b) = (isOpen a || isOpen b) := by unfold isOpen; rw [List.any_append]
theorem take_more {l : List Pt} {k : Nat} (h : k < l.length) : l.take (k + 1) = l.take k ++ [l[k]] := by rw [List.take_add_one, List.getElem?_eq_getElem h]; rfl
theorem one_is1 (f x : List UInt8) : one f [(1, x)] = [x] := rfl
theorem one_is2 (f x : List UInt8) : one f [(2, x)] = [f] := rfl
theorem one_is3 (f x : List UInt8) : one f [(3, x)] = [] := rfl
theorem one_len (f : List UInt8) (l : List Pt) : (one f l).length ≤ l.length := by unfold one; rw [List.length_map]; exact List.length_filter_le _ _
end Ro
theorem zeros_by8 (n : Nat) : (madeCells (Value.int .u8 0).cells (n * 1)).toList = (List.replicate n (0 : UInt8)).map by8 := by
  rw [Nat.mul_one, List.map_replicate]
  exact toList_madeCells_one _ _
theorem XS.of {w : World} {B n : Nat} {v : Value} {L : List (List UInt8)} (h : w.ownsRow B 9 1 v n (L.map sv)) (hn : n = L.length) : XS w v L := by
  subst hn
  obtain ⟨hl, h⟩ := h
  rcases h with ⟨rfl, h0⟩ | ⟨g, cap, cur, rfl, _, hg, hc, hm, hs, ht⟩
  · exact .inl ⟨none, 0, rfl, List.length_eq_zero_iff.1 h0⟩
  · refine .inr ⟨g, 0, cap, rfl, fun j hj => ?_⟩
    have h1 : (cur.toList.take (L.length * 1))[j]? = (L.map sv)[j]? := by rw [ht]
    rw [List.getElem?_take_of_lt (by omega)] at h1
    rw [Nat.zero_add]
    simp only [World.cell?, hg, Option.isSome_none, Bool.false_eq_true, if_false]
    rw [← Array.getElem?_toList, h1, List.getElem?_map, List.getElem?_eq_getElem hj, getD_is L [] j hj]
    rfl
theorem own_sl {w : World} {B : Nat} {e : TypeId} {s : Nat} {v : Value} {n : Nat} {xs : List Value} (h : w.ownsRow B e s v n xs) : ∃ p c, v = .slice p n c := by
  rcases h.2 with ⟨rfl, h0⟩ | ⟨g, cap, cur, rfl, _⟩
  · exact ⟨none, 0, by rw [h0]⟩
  · exact ⟨_, _, rfl⟩
theorem walkRH (s t : ByteArray) (v : Value) (P : List (List UInt8)) (v0 : World) (hs : s.size ≤ maxLen) (ht : t.size ≤ maxLen) (hv : XS v0 v P) (hP : P.length ≤ maxLen) (hk : KX v0) :
    Calls Tryz.prog 6 #[.string s, .string t, v] v0 fun e w' => e = .returned (.bool true) ∧ Below v0.heap.size v0 w' := by
  obtain ⟨i0, hi, hz0, hz1, hz2⟩ := info_parts (show (Tryz.prog.info? 9).map (fun i => (i.zero, i.size, i.bytes)) = some (some (.string ByteArray.empty), 1, 16) by kernel_rfl)
  obtain ⟨j0, hj, hjz, hj1, hj2⟩ := info_parts (show (Tryz.prog.info? 5).map (fun i => (i.zero, i.size, i.bytes)) = some (some (.int .u8 0), 1, 1) by kernel_rfl)
  have WK := Lib.hid (fun W (h : KX W) => lw_works W h)
  have HK := Lib.hid hk
  have KS := Lib.hid (lw_short v P 12 40 v0 hv hP (by omega) (by omega))
  have HN0 := Lib.hid (fun W => lw_num 0 W (by omega))
  have HN3 := Lib.hid (fun W => lw_num 360 W (by omega))
  obtain ⟨p, c, rfl⟩ := hv.slice
  have HSH := Lib.hid (show isShort P 12 40 = true → P.length ≤ 100000 from fun h => by have := (of_decide_eq_true h).1; omega)
  obtain ⟨q, hq⟩ : ∃ q, isShort P 12 40 = q := ⟨_, rfl⟩
  obtain ⟨n, hn⟩ : ∃ n, P.length = n := ⟨_, rfl⟩
  have HN := Lib.hid hn
  have HV : Hid (XS v0 (.slice p n c) P) := Lib.hid (by rw [← hn]; exact hv)
  rw [hq] at KS HSH
  rw [hn] at KS ⊢
  clear hk hv hq hn hP
  by_cases h1 : s.size ≤ 100
  · by_cases h2 : t.size ≤ 100
    · cases q with
      | true =>
        have HPL := Lib.hid (HSH.out rfl)
        clear hs ht HSH
        obtain ⟨oa, hoa⟩ : ∃ o, Ro.parse s.data.toList = o := ⟨_, rfl⟩
        have HOA := Lib.hid hoa
        obtain ⟨ob, hob⟩ : ∃ o, Ro.parse t.data.toList = o := ⟨_, rfl⟩
        have HOB := Lib.hid hob
        clear hoa hob
        cases oa with
        | none =>
          have HB0 : Hid (Below v0.heap.size v0 v0) := Lib.hid (Below.refl _ _)
          go_enter Tryz.func6, Tryz.ntmps6
          go_wp2_with fail
          refine KS.out.mono ?_
          rintro e wx ⟨rfl, hwx⟩
          subst wx
          have C1 := Lib.hid (fun W h => rt_Check s W (by omega) h)
          have C2 := Lib.hid (fun W h => rt_Covers s t W (by omega) (by omega) h)
          rw [HOA.out] at C1
          rw [Ro.coversT_none HOA.out] at C2
          simp only [rtErr, Option.isSome_none, Option.isSome_some, if_true, Bool.false_eq_true, if_false] at C1
          go_wp2_with fail
          refine (C1.out _ (HK.out.below HB0.out)).mono ?_
          rintro e v1 ⟨rfl, hb⟩
          have HB1 := Lib.hid (HB0.out.trans (hb.mono HB0.out.size))
          clear hb
          go_wp2_with fail
          refine (HN3.out _).mono ?_
          rintro e v2 ⟨rfl, hwx⟩
          subst v2
          go_wp2_with fail
          refine (C2.out _ (HK.out.below HB1.out)).mono ?_
          rintro e v2 ⟨rfl, hb⟩
          have HB2 := Lib.hid (HB1.out.trans (hb.mono HB1.out.size))
          clear hb
          go_wp2_with fail
          refine (WK.out _ (HK.out.below HB2.out)).mono ?_
          rintro e v3 ⟨rfl, hb⟩
          have HB3 := Lib.hid (HB2.out.trans (hb.mono HB2.out.size))
          clear hb
          go_wp2_with fail
          go_ret
          exact ⟨rfl, HB3.out⟩
        | some A =>
          cases ob with
          | none =>
            have HB0 : Hid (Below v0.heap.size v0 v0) := Lib.hid (Below.refl _ _)
            go_enter Tryz.func6, Tryz.ntmps6
            go_wp2_with fail
            refine KS.out.mono ?_
            rintro e wx ⟨rfl, hwx⟩
            subst wx
            have C1 := Lib.hid (fun W h => rt_Check s W (by omega) h)
            have C3 := Lib.hid (fun W h => rt_Check t W (by omega) h)
            have C2 := Lib.hid (fun W h => rt_Covers s t W (by omega) (by omega) h)
            rw [HOA.out] at C1
            rw [HOB.out] at C3
            rw [Ro.coversT_none2 HOB.out] at C2
            simp only [rtErr, Option.isSome_none, Option.isSome_some, if_true, Bool.false_eq_true, if_false] at C1 C3
            go_wp2_with fail
            refine (C1.out _ (HK.out.below HB0.out)).mono ?_
            rintro e v1 ⟨rfl, hb⟩
            have HB1 := Lib.hid (HB0.out.trans (hb.mono HB0.out.size))
            clear hb
            go_wp2_with fail
            refine (HN0.out _).mono ?_
            rintro e v2 ⟨rfl, hwx⟩
            subst v2
            go_wp2_with fail
            refine (C3.out _ (HK.out.below HB1.out)).mono ?_
            rintro e v2 ⟨rfl, hb⟩
            have HB2 := Lib.hid (HB1.out.trans (hb.mono HB1.out.size))
            clear hb
            go_wp2_with fail
            refine (HN3.out _).mono ?_
            rintro e v3 ⟨rfl, hwx⟩
            subst v3
            go_wp2_with fail
            refine (C2.out _ (HK.out.below HB2.out)).mono ?_
            rintro e v3 ⟨rfl, hb⟩
            have HB3 := Lib.hid (HB2.out.trans (hb.mono HB2.out.size))
            clear hb
            go_wp2_with fail
            refine (WK.out _ (HK.out.below HB3.out)).mono ?_
            rintro e v4 ⟨rfl, hb⟩
            have HB4 := Lib.hid (HB3.out.trans (hb.mono HB3.out.size))
            clear hb
            go_wp2_with fail
            go_ret
            exact ⟨rfl, HB4.out⟩
          | some B =>
            have HSL := Lib.hid (show t.data.toList.length = t.size from rfl)
            have HBL := Lib.hid (show B.length ≤ 101 by have := (Ro.parse_many HOB.out).1; have := HSL.out; omega)
            have HBT := Lib.hid (show ∀ p ∈ B, p.2.length ≤ 30000 from fun p hp => by
              have h := Ro.parse_kinds HOB.out p hp
              have := HSL.out
              rcases h with rfl | rfl | h
              · simp
              · simp
              · omega)
            have HTX : Hid (txOut (Ro.text B) = .returned (.tuple #[.string t, .int .i64 0])) := Lib.hid (by rw [Ro.text_parse HOB.out]; rfl)
            have HB0 : Hid (Below v0.heap.size v0 v0) := Lib.hid (Below.refl _ _)
            go_enter Tryz.func6, Tryz.ntmps6
            go_wp2_with fail
            refine KS.out.mono ?_
            rintro e wx ⟨rfl, hwx⟩
            subst wx
            have C1 := Lib.hid (fun W h => rt_Check s W (by omega) h)
            have C3 := Lib.hid (fun W h => rt_Check t W (by omega) h)
            have C4 := Lib.hid (fun W h => rt_Parse t W (by omega) h)
            rw [HOA.out] at C1
            rw [HOB.out] at C3 C4
            simp only [rtErr, Option.isSome_none, Option.isSome_some, if_true, Bool.false_eq_true, if_false] at C1 C3
            go_wp2_with fail
            refine (C1.out _ (HK.out.below HB0.out)).mono ?_
            rintro e v1 ⟨rfl, hb⟩
            have HB1 := Lib.hid (HB0.out.trans (hb.mono HB0.out.size))
            clear hb
            go_wp2_with fail
            refine (HN0.out _).mono ?_
            rintro e v2 ⟨rfl, hwx⟩
            subst v2
            go_wp2_with fail
            refine (C3.out _ (HK.out.below HB1.out)).mono ?_
            rintro e v2 ⟨rfl, hb⟩
            have HB2 := Lib.hid (HB1.out.trans (hb.mono HB1.out.size))
            clear hb
            go_wp2_with fail
            refine (HN0.out _).mono ?_
            rintro e v3 ⟨rfl, hwx⟩
            subst v3
            go_wp2_with fail
            refine (C4.out _ (HK.out.below HB2.out)).mono ?_
            rintro e v3 ⟨⟨r1, rfl, hp1⟩, hb⟩
            have HB3 := Lib.hid (HB2.out.trans (hb.mono HB2.out.size))
            clear hb
            have HP3 := Lib.hid hp1
            obtain ⟨lp, lc, rfl⟩ := hp1.slice
            have C5 := Lib.hid (rt_Text _ B _ HP3.out (by have := HBL.out; omega) HBT.out (HK.out.below HB3.out))
            rw [HTX.out] at C5
            clear hp1
            go_wp2_with fail
            refine (C5.out).mono ?_
            rintro e v4 ⟨rfl, hb⟩
            have HB4 := Lib.hid (HB3.out.trans (hb.mono HB3.out.size))
            have hbx := hb
            clear hb
            have HP4 := Lib.hid (HP3.out.below (show Below v3.heap.size v3 v4 from hbx))
            clear hbx C5
            have hss : (t.toList == t.toList) = true := beq_self_eq_true _
            have hss2 : (t.toList != t.toList) = false := by unfold bne; rw [hss]; rfl
            go_upto_region 7 with (fail)
            go_cut [89] from 16 (fun s89 wx => s89 = .bool false ∧ Below v4.heap.size v4 wx)
            case first =>
              have HC4 : Hid (Below v4.heap.size v4 v4) := Lib.hid (Below.refl _ _)
              go_wp2_with fail
              refine (HN0.out _).mono ?_
              rintro e v5 ⟨rfl, hwx⟩
              subst v5
              go_wp2_with fail
              refine (HN0.out _).mono ?_
              rintro e v5 ⟨rfl, hwx⟩
              subst v5
              have D1 := Lib.hid (fun W h => rt_Covers s s W (by omega) (by omega) h)
              rw [Ro.coversT_some HOA.out HOA.out, Ro.covers_self (.inl (Ro.parse_inv HOA.out).2.2)] at D1
              go_wp2_with fail
              refine (D1.out _ (HK.out.below (HB4.out.trans (HC4.out.mono HB4.out.size)))).mono ?_
              rintro e v5 ⟨rfl, hb⟩
              have HC5 := Lib.hid (HC4.out.trans (hb.mono HC4.out.size))
              clear hb
              have D2 := Lib.hid (fun W h => rt_Covers s t W (by omega) (by omega) h)
              rw [Ro.coversT_some HOA.out HOB.out] at D2
              obtain ⟨y, hy⟩ : ∃ y, Ro.covers A B = y := ⟨_, rfl⟩
              have HY := Lib.hid hy
              rw [hy] at D2
              clear hy
              cases y with
              | false =>
                go_wp2_with fail
                refine (D2.out _ (HK.out.below (HB4.out.trans (HC5.out.mono HB4.out.size)))).mono ?_
                rintro e v6 ⟨rfl, hb⟩
                have HC6 := Lib.hid (HC5.out.trans (hb.mono HC5.out.size))
                clear hb
                go_wp2_with fail
                go_meet
                exact ⟨rfl, HC6.out⟩
              | true =>
                go_wp2_with fail
                refine (D2.out _ (HK.out.below (HB4.out.trans (HC5.out.mono HB4.out.size)))).mono ?_
                rintro e v6 ⟨rfl, hb⟩
                have HC6 := Lib.hid (HC5.out.trans (hb.mono HC5.out.size))
                clear hb
                have D3 := Lib.hid (fun W h1 h2 => rt_Fits t (.slice p n c) P W (by omega) h1 HPL.out h2)
                rw [Ro.fitsT_some HOB.out] at D3
                obtain ⟨x, hx⟩ : ∃ x, Ro.fits B P = x := ⟨_, rfl⟩
                have HX := Lib.hid hx
                rw [hx] at D3
                clear hx
                cases x with
                | false =>
                  go_wp2_with fail
                  refine (D3.out _ (HV.out.below (HB4.out.trans (HC6.out.mono HB4.out.size))) (HK.out.below (HB4.out.trans (HC6.out.mono HB4.out.size)))).mono ?_
                  rintro e v7 ⟨rfl, hb⟩
                  have HC7 := Lib.hid (HC6.out.trans (hb.mono HC6.out.size))
                  clear hb
                  go_wp2_with fail
                  go_meet
                  exact ⟨rfl, HC7.out⟩
                | true =>
                  go_wp2_with fail
                  refine (D3.out _ (HV.out.below (HB4.out.trans (HC6.out.mono HB4.out.size))) (HK.out.below (HB4.out.trans (HC6.out.mono HB4.out.size)))).mono ?_
                  rintro e v7 ⟨rfl, hb⟩
                  have HC7 := Lib.hid (HC6.out.trans (hb.mono HC6.out.size))
                  clear hb
                  have D4 := Lib.hid (fun W h1 h2 => rt_Fits s (.slice p n c) P W (by omega) h1 HPL.out h2)
                  rw [Ro.fitsT_some HOA.out, Ro.fits_covers (.inl (Ro.parse_inv HOB.out).2.2) HY.out HX.out] at D4
                  go_wp2_with fail
                  refine (D4.out _ (HV.out.below (HB4.out.trans (HC7.out.mono HB4.out.size))) (HK.out.below (HB4.out.trans (HC7.out.mono HB4.out.size)))).mono ?_
                  rintro e v8 ⟨rfl, hb⟩
                  have HC8 := Lib.hid (HC7.out.trans (hb.mono HC7.out.size))
                  clear hb
                  go_wp2_with fail
                  go_meet
                  exact ⟨rfl, HC8.out⟩
            case rest =>
              obtain ⟨rfl, hbc⟩ := hcut
              have HBC := Lib.hid (HB4.out.trans (hbc.mono HB4.out.size))
              have HPC := Lib.hid (HP4.out.below hbc)
              clear hbc
              obtain ⟨F, hF⟩ : ∃ F, List.replicate (s.size + 1) (0 : UInt8) = F := ⟨_, rfl⟩
              have HF := Lib.hid hF
              have HFL := Lib.hid (show F.length = s.size + 1 by rw [← hF]; simp)
              obtain ⟨fb, hfb, hfd⟩ := sv_is F
              have HFB := Lib.hid hfb
              have HFS := Lib.hid (show fb.size = s.size + 1 by rw [← HFL.out, ← hfd]; rfl)
              obtain ⟨wm, hmk, hown, hgrow⟩ := run_make_full (P := Tryz.prog) wc wc.heap.size 46 5 j0 (.int .u8 0) 1 Tryz.underlying46 hj hjz hj1 .i64 .i64 (s.size + 1) (by rw [hj2]; omega) (by unfold maxLen; omega) (Nat.le_refl _)
              rw [zeros_by8, HF.out] at hown
              have hcv : (convert 46 9 (.slice (some ⟨wc.heap.size, 0, none⟩) (s.size + 1) (s.size + 1))).run Tryz.prog wm = .ok (.string fb) wm := by
                have h := conv_brow (BRow.of_own hown)
                rw [show Value.string ⟨F.toArray⟩ = .string fb from hfb] at h
                exact h
              have HBM := Lib.hid (show Below wc.heap.size wc wm from (Below.refl _ _).grown hgrow (Nat.le_refl _) (fun k hk => by simp at hk))
              rw [show ((s.size + 1 : Nat) : Int) = (s.size : Int) + 1 by push_cast; rfl] at hmk
              clear hF hfb hfd hown hgrow
              have hI200 : (s.size : Int) ≤ 200 := by omega
              have HBW := Lib.hid (show Below v0.heap.size v0 wm from HBC.out.trans (HBM.out.mono HBC.out.size))
              have HPW := Lib.hid (HPC.out.below HBM.out)
              clear h1 h2
              go_wp2_with fail
              clear hmk hcv
              obtain ⟨m, hm⟩ : ∃ m, B.length = m := ⟨_, rfl⟩
              have HM := Lib.hid hm
              rw [hm]
              clear hm
              have HPN : Hid (PtS wm (.slice lp m lc) B) := Lib.hid (by rw [← HM.out]; exact HPW.out)
              have HBM2 := Lib.hid (show m ≤ 101 by rw [← HM.out]; exact HBL.out)
              have HKD := Lib.hid (Ro.parse_kinds HOB.out)
              clear HPL HSL HBT HTX HPC HPW HBC HB0 HB1 HB2 HB3 HB4 HP3 HP4 hss hss2
              go_loopw [12, 13, 14] (fun v12 v13 i wr => ∃ k : Nat, k ≤ m ∧ i = .int .i64 k ∧ v13 = .bool (Ro.isOpen (B.take k)) ∧ wr.ownsRow wm.heap.size 9 1 v12 (Ro.one F (B.take k)).length ((Ro.one F (B.take k)).map sv) ∧ Below wm.heap.size wm wr)
                (fun _ _ i _ => m - (intOf i).toNat)
              case atStart => exact ⟨0, Nat.zero_le _, rfl, rfl, World.ownsRow_nil _ _ _ _, Below.refl _ _⟩
              case round =>
                obtain ⟨k, hk, rfl, rfl, hown, hbl⟩ := hrel
                obtain ⟨acc, hacc⟩ : ∃ acc, Ro.one F (B.take k) = acc := ⟨_, rfl⟩
                have HACC := Lib.hid hacc
                rw [hacc] at hown
                obtain ⟨op, hop⟩ : ∃ o, Ro.isOpen (B.take k) = o := ⟨_, rfl⟩
                have HOP := Lib.hid hop
                rw [hop]
                have HAL := Lib.hid (show acc.length ≤ 101 by have h := Ro.one_len F (B.take k); rw [hacc, List.length_take] at h; have := HBM2.out; omega)
                have HO := Lib.hid hown
                have HBL2 := Lib.hid hbl
                obtain ⟨p12, c12, rfl⟩ := own_sl hown
                clear hacc hop hown
                have hm101 := HBM2.out
                by_cases hlt : k < m
                · have HLK := Lib.hid (show k < B.length by rw [HM.out]; exact hlt)
                  obtain ⟨b, off, rfl, hlc, hcm, hbw, hc⟩ := HPN.out.cells HLK.out
                  have x0 := (hbl.cell (p := ⟨b, off + k * 2, none⟩) hbw).trans (hc k HLK.out).1
                  have x1 := (hbl.cell (p := ⟨b, off + k * 2 + 1, none⟩) hbw).trans (hc k HLK.out).2
                  have HG := Lib.hid (getD_is B (0, []) k HLK.out)
                  have HKK := Lib.hid (HKD.out _ (List.getElem_mem HLK.out))
                  have HTM := Lib.hid (Ro.take_more HLK.out)
                  obtain ⟨⟨kd, tl⟩, hq⟩ : ∃ q, B.getD k (0, []) = q := ⟨_, rfl⟩
                  rw [hq] at x0 x1 HG
                  rw [← HG.out] at HKK HTM
                  simp only at x0 x1
                  obtain ⟨tb, htb, htl⟩ := sv_is tl
                  rw [htb] at x1
                  have HTB := Lib.hid htb
                  have hkc : kd = 1 ∨ kd = 2 ∨ kd = 3 := by
                    rcases HKK.out with h | h | h
                    · cases h; exact .inr (.inl rfl)
                    · cases h; exact .inr (.inr rfl)
                    · exact .inl h.1
                  clear hbl hc hbw hlc hcm hq htb htl
                  rcases hkc with rfl | rfl | rfl
                  · have HST := Lib.hid (show Ro.one F (B.take (k + 1)) = acc ++ [tl] ∧ Ro.isOpen (B.take (k + 1)) = op by rw [HTM.out, Ro.one_app, Ro.open_app, HACC.out, HOP.out]; exact ⟨rfl, Bool.or_false _⟩)
                    go_wp2_with (at_builtin; refine wpList_append_own _ rfl _ _ 41 rfl wm.heap.size 9 i0 (.string ByteArray.empty) 1 16 Tryz.underlying41 hi hz0 hz1 hz2 rfl (by decide) _ _ _ rfl (HO.out.alloc _) ⟨wr.heap.size, 0, none⟩ 1 1 [.string tb] rfl rfl ?a1 ?a2 ?a3 ?a4 ?a5 ?_)
                    try (case a1 =>
                      intro j u hj
                      match j, hj with
                      | 0, hj => simp at hj; subst hj; simp [Addr.add])
                    case a2 => first | rfl | (intro u hu; simp at hu; subst hu; rfl)
                    case a3 => unfold maxLen; have := HAL.out; omega
                    case a4 => have := HAL.out; omega
                    case a5 => have := HBL2.out.size; simp; omega
                    intro v' w3 hown' hgrow _
                    have HB3 := Lib.hid (show Below wm.heap.size wm w3 from Below.grown (HBL2.out.alloc (by have := HBL2.out.size; omega) _) hgrow (by have := HBL2.out.size; simp; omega) (own_geP HO.out))
                    have HO3 := Lib.hid (show w3.ownsRow wm.heap.size 9 1 v' (acc ++ [tl]).length ((acc ++ [tl]).map sv) by
                      rw [List.map_append, List.length_append]
                      show w3.ownsRow wm.heap.size 9 1 v' _ (_ ++ [sv tl])
                      rw [HTB.out]
                      exact hown')
                    clear hgrow hown'
                    go_wp2_with fail
                    go_roundw
                    case rel => exact ⟨k + 1, hlt, by go_num, by rw [HST.out.2], by rw [HST.out.1]; exact HO3.out, HB3.out⟩
                    case measure => simp [intOf]; omega
                  · have HST := Lib.hid (show Ro.one F (B.take (k + 1)) = acc ++ [F] ∧ Ro.isOpen (B.take (k + 1)) = op by rw [HTM.out, Ro.one_app, Ro.open_app, HACC.out, HOP.out]; exact ⟨rfl, Bool.or_false _⟩)
                    go_wp2_with (at_builtin; refine wpList_append_own _ rfl _ _ 41 rfl wm.heap.size 9 i0 (.string ByteArray.empty) 1 16 Tryz.underlying41 hi hz0 hz1 hz2 rfl (by decide) _ _ _ rfl (HO.out.alloc _) ⟨wr.heap.size, 0, none⟩ 1 1 [.string fb] rfl rfl ?b1 ?b2 ?b3 ?b4 ?b5 ?_)
                    try (case b1 =>
                      intro j u hj
                      match j, hj with
                      | 0, hj => simp at hj; subst hj; simp [Addr.add])
                    case b2 => first | rfl | (intro u hu; simp at hu; subst hu; rfl)
                    case b3 => unfold maxLen; have := HAL.out; omega
                    case b4 => have := HAL.out; omega
                    case b5 => have := HBL2.out.size; simp; omega
                    intro v' w3 hown' hgrow _
                    have HB3 := Lib.hid (show Below wm.heap.size wm w3 from Below.grown (HBL2.out.alloc (by have := HBL2.out.size; omega) _) hgrow (by have := HBL2.out.size; simp; omega) (own_geP HO.out))
                    have HO3 := Lib.hid (show w3.ownsRow wm.heap.size 9 1 v' (acc ++ [F]).length ((acc ++ [F]).map sv) by
                      rw [List.map_append, List.length_append]
                      show w3.ownsRow wm.heap.size 9 1 v' _ (_ ++ [sv F])
                      rw [HFB.out]
                      exact hown')
                    clear hgrow hown'
                    go_wp2_with fail
                    go_roundw
                    case rel => exact ⟨k + 1, hlt, by go_num, by rw [HST.out.2], by rw [HST.out.1]; exact HO3.out, HB3.out⟩
                    case measure => simp [intOf]; omega
                  · have HST := Lib.hid (show Ro.one F (B.take (k + 1)) = acc ∧ Ro.isOpen (B.take (k + 1)) = true by rw [HTM.out, Ro.one_app, Ro.open_app, HACC.out, HOP.out]; exact ⟨List.append_nil _, Bool.or_true _⟩)
                    go_wp2_with fail
                    try go_roundw
                    case rel => exact ⟨k + 1, hlt, by go_num, by rw [HST.out.2], by rw [HST.out.1]; exact HO.out, HBL2.out⟩
                    case measure => simp [intOf]; omega
                · obtain rfl : k = m := by omega
                  have HTA := Lib.hid (show B.take k = B by rw [← HM.out]; exact List.take_length)
                  obtain ⟨T, hT⟩ : ∃ T, Ro.two F B = T := ⟨_, rfl⟩
                  have HT := Lib.hid hT
                  have HTT := Lib.hid (show T = if op then acc ++ [F] else acc by
                    rw [← hT, ← HACC.out, ← HOP.out, HTA.out]; rfl)
                  have HAC2 := Lib.hid (show Ro.one F B = acc by have h := HACC.out; rw [HTA.out] at h; exact h)
                  have HBW2 := Lib.hid (HBW.out.trans (HBL2.out.mono HBW.out.size))
                  clear hT hbl
                  obtain ⟨na, hna⟩ : ∃ na, acc.length = na := ⟨_, rfl⟩
                  have HNA := Lib.hid hna
                  rw [hna] at HO HAL ⊢
                  clear hna
                  go_upto_region 21 with (fail)
                  go_cut [15] from 95 (fun s15 wx => wx.ownsRow wr.heap.size 9 1 s15 na (acc.map sv) ∧ Below wr.heap.size wr wx)
                  case first =>
                    have HOE : Hid ((wr.alloc (.cells #[] 9)).ownsRow wr.heap.size 9 1 (.slice (some ⟨wr.heap.size, 0, none⟩) 0 0) 0 []) :=
                      ⟨rfl, .inr ⟨wr.heap.size, 0, #[], rfl, Nat.le_refl _, World.alloc_heap_new wr _, Nat.le_refl _, Nat.zero_le _, rfl, rfl⟩⟩
                    cases p12 with
                    | none =>
                      have hz : na = 0 := by
                        rcases HO.out.2 with ⟨h, h0⟩ | ⟨g, cap, cur, h, _⟩
                        · exact h0
                        · cases h
                      subst hz
                      have hnil : acc = [] := List.length_eq_zero_iff.1 HNA.out
                      have HRL := Lib.hid (show (wr.alloc (.cells #[] 9)).ownsRow wr.heap.size 9 1 (.slice (some ⟨wr.heap.size, 0, none⟩) 0 0) 0 (acc.map sv) by rw [hnil]; exact HOE.out)
                      have HRB := Lib.hid (show Below wr.heap.size wr (wr.alloc (.cells #[] 9)) from (Below.refl _ _).alloc (Nat.le_refl _) _)
                      clear hnil
                      go_wp2_with fail
                      go_meet
                      exact ⟨HRL.out, HRB.out⟩
                    | some a =>
                      have HXS := Lib.hid (XS.of HO.out HNA.out.symm)
                      have HC2 := Lib.hid (show ∀ j u, (acc.map sv)[j]? = some u → ∃ g o, a = ⟨g, o, none⟩ ∧ wr.cell? ⟨g, o + j, none⟩ = some u by
                        intro j u hj
                        have hjl : j < acc.length := by have := (List.getElem?_eq_some_iff.1 hj).1; simpa using this
                        obtain ⟨b, off, he, hc⟩ := HXS.out.cells hjl
                        refine ⟨b, off, Option.some.inj he, ?_⟩
                        rw [hc j hjl, ← hj, List.getElem?_map, List.getElem?_eq_getElem hjl, getD_is acc [] j hjl]
                        rfl)
                      go_wp2_with (at_builtin; refine wpList_append_own _ rfl _ _ 41 rfl wr.heap.size 9 i0 (.string ByteArray.empty) 1 16 Tryz.underlying41 hi hz0 hz1 hz2 rfl (by decide) _ _ _ rfl HOE.out a na c12 (acc.map sv) rfl ?c1 ?c2 ?c3 ?c4 ?c5 ?c6 ?_)
                      try (case c1 => rw [List.length_map, HNA.out, Nat.mul_one])
                      case c2 =>
                        intro j u hj
                        obtain ⟨g, o, rfl, hcl⟩ := HC2.out j u hj
                        rw [Lib.add_plain]
                        exact cell_below ((Below.refl _ wr).alloc (Nat.le_refl _) _) hcl
                      case c3 =>
                        intro u hu
                        obtain ⟨x, _, rfl⟩ := List.mem_map.1 hu
                        rfl
                      try (case c4 => unfold maxLen; have := HAL.out; omega)
                      try (case c5 => have := HAL.out; omega)
                      try (case c6 => simp)
                      intro v' w1 hown hgrow _
                      have hB : Below wr.heap.size wr w1 := ((Below.refl _ wr).alloc (Nat.le_refl _) _).grown hgrow (by simp) (fun k hk => by simp [Value.ownBlock] at hk; omega)
                      have HRL := Lib.hid (show w1.ownsRow wr.heap.size 9 1 v' na (acc.map sv) by simpa using hown)
                      have HRB := Lib.hid hB
                      clear hown hgrow hB
                      go_wp2_with fail
                      go_meet
                      exact ⟨HRL.out, HRB.out⟩
                  case rest =>
                    obtain ⟨hO15, hb15⟩ := hcut
                    obtain ⟨wd, rfl⟩ : ∃ z, z = wc := ⟨_, rfl⟩
                    have HO15 := Lib.hid hO15
                    have HB15 := Lib.hid hb15
                    obtain ⟨p15, c15, rfl⟩ := own_sl hO15
                    clear hO15 hb15
                    obtain ⟨nt, hnt⟩ : ∃ nt, T.length = nt := ⟨_, rfl⟩
                    have HNT := Lib.hid hnt
                    clear hnt
                    go_upto_if 125 with (fail)
                    go_cut [15] from 95 (fun s15 wx => wx.ownsRow wr.heap.size 9 1 s15 nt (T.map sv) ∧ Below wr.heap.size wr wx)
                    case first =>
                      cases op with
                      | false =>
                        have hTe : T = acc := HTT.out
                        have HRL := Lib.hid (show wd.ownsRow wr.heap.size 9 1 (.slice p15 na c15) nt (T.map sv) by
                          have h : nt = na := by rw [← HNT.out, hTe, HNA.out]
                          rw [h, hTe]; exact HO15.out)
                        clear hTe
                        go_wp2_with fail
                        go_meet
                        exact ⟨HRL.out, HB15.out⟩
                      | true =>
                        have hTe : T = acc ++ [F] := HTT.out
                        have hNT : nt = na + 1 := by rw [← HNT.out, hTe, List.length_append, HNA.out]; rfl
                        have HNT2 := Lib.hid hNT
                        have HTE := Lib.hid hTe
                        clear hTe hNT
                        go_wp2_with (at_builtin; refine wpList_append_own _ rfl _ _ 41 rfl wr.heap.size 9 i0 (.string ByteArray.empty) 1 16 Tryz.underlying41 hi hz0 hz1 hz2 rfl (by decide) _ _ _ rfl (HO15.out.alloc _) ⟨wd.heap.size, 0, none⟩ 1 1 [.string fb] rfl rfl ?d1 ?d2 ?d3 ?d4 ?d5 ?_)
                        try (case d1 =>
                          intro j u hj
                          match j, hj with
                          | 0, hj => simp at hj; subst hj; simp [Addr.add])
                        try (case d2 => first | rfl | (intro u hu; simp at hu; subst hu; rfl))
                        try (case d3 => unfold maxLen; have := HAL.out; omega)
                        try (case d4 => have := HAL.out; omega)
                        try (case d5 => have := HB15.out.size; simp; omega)
                        intro v' w3 hown' hgrow _
                        have HRB := Lib.hid (show Below wr.heap.size wr w3 from Below.grown (HB15.out.alloc HB15.out.size _) hgrow (by have := HB15.out.size; simp; omega) (own_geP HO15.out))
                        have HRL := Lib.hid (show w3.ownsRow wr.heap.size 9 1 v' nt (T.map sv) by
                          rw [HNT2.out, HTE.out, List.map_append]
                          show w3.ownsRow wr.heap.size 9 1 v' _ (_ ++ [sv F])
                          rw [HFB.out]
                          exact hown')
                        clear hown' hgrow
                        go_wp2_with fail
                        go_meet
                        exact ⟨HRL.out, HRB.out⟩
                    case rest =>
                      obtain ⟨hOT, hbT⟩ := hcut
                      obtain ⟨we, rfl⟩ : ∃ z, z = wc := ⟨_, rfl⟩
                      have HX15 := Lib.hid (XS.of hOT HNT.out.symm)
                      have HX12 := Lib.hid ((XS.of HO.out HNA.out.symm).below hbT)
                      have HB0 := Lib.hid (HBW2.out.trans (hbT.mono HBW2.out.size))
                      have HAL2 := Lib.hid (show acc.length ≤ 100000 by rw [HNA.out]; have := HAL.out; omega)
                      have HTL2 := Lib.hid (show T.length ≤ 100000 by
                        have h := HTT.out
                        rw [h]
                        have := HAL2.out
                        have := HAL.out
                        split
                        · rw [List.length_append, HNA.out]; simp; omega
                        · exact HAL2.out)
                      obtain ⟨p15, c15, rfl⟩ := own_sl hOT
                      have HGB := Lib.hid (Ro.good_of HOB.out)
                      have E1 := Lib.hid (fun W h1 h2 => rt_Fits t (.slice p12 na c12) acc W (by omega) h1 HAL2.out h2)
                      have E2 := Lib.hid (fun W h1 h2 => rt_Fits t (.slice p15 nt c15) T W (by omega) h1 HTL2.out h2)
                      rw [Ro.fitsT_some HOB.out, ← HAC2.out, Ro.fits_one F HGB.out] at E1
                      rw [Ro.fitsT_some HOB.out, ← HT.out, Ro.fits_two F HGB.out] at E2
                      rw [HAC2.out] at E1
                      rw [HT.out] at E2
                      clear hOT hbT
                      have HC100 : Hid (Below we.heap.size we we) := Lib.hid (Below.refl _ _)
                      go_wp2_with fail
                      refine (E1.out _ (HX12.out.below (HC100.out)) (HK.out.below (HB0.out.trans (HC100.out.mono HB0.out.size)))).mono ?_
                      rintro e v101 ⟨rfl, hb⟩
                      have HC101 := Lib.hid (HC100.out.trans (hb.mono HC100.out.size))
                      clear hb
                      go_wp2_with fail
                      refine (E2.out _ (HX15.out.below (HC101.out)) (HK.out.below (HB0.out.trans (HC101.out.mono HB0.out.size)))).mono ?_
                      rintro e v102 ⟨rfl, hb⟩
                      have HC102 := Lib.hid (HC101.out.trans (hb.mono HC101.out.size))
                      clear hb
                      have HFR : Hid (∀ p ∈ A, p.1 = 1 → p.2 ≠ F) := Lib.hid (fun p hp h1 => by
                        have h := Ro.parse_kinds HOA.out p hp
                        have hsz : s.data.toList.length = s.size := rfl
                        have hfl := HFL.out
                        rcases h with rfl | rfl | h
                        · simp at h1
                        · simp at h1
                        · intro he
                          have := h.2
                          rw [he] at this
                          omega)
                      have HCI := Lib.hid (Ro.covers_is F (Ro.good_of HOA.out) (Ro.good_of HOB.out) HFR.out)
                      rw [HAC2.out, HT.out] at HCI
                      have E3 := Lib.hid (fun W h => rt_Covers s t W (by omega) (by omega) h)
                      rw [Ro.coversT_some HOA.out HOB.out, HCI.out] at E3
                      have E4 := Lib.hid (fun W h1 h2 => rt_Fits s (.slice p12 na c12) acc W (by omega) h1 HAL2.out h2)
                      have E5 := Lib.hid (fun W h1 h2 => rt_Fits s (.slice p15 nt c15) T W (by omega) h1 HTL2.out h2)
                      rw [Ro.fitsT_some HOA.out] at E4 E5
                      obtain ⟨x1, hx1⟩ : ∃ x, Ro.fits A acc = x := ⟨_, rfl⟩
                      obtain ⟨x2, hx2⟩ : ∃ x, Ro.fits A T = x := ⟨_, rfl⟩
                      rw [hx1, hx2] at E3
                      rw [hx1] at E4
                      rw [hx2] at E5
                      clear hx1 hx2
                      have hxx : (x2 == x2) = true := beq_self_eq_true _
                      cases x1 with
                      | false =>
                        rw [show (false && x2) = false from rfl] at E3
                        go_wp2_with fail
                        refine (E3.out _ (HK.out.below (HB0.out.trans (HC102.out.mono HB0.out.size)))).mono ?_
                        rintro e v103 ⟨rfl, hb⟩
                        have HC103 := Lib.hid (HC102.out.trans (hb.mono HC102.out.size))
                        clear hb
                        go_wp2_with fail
                        refine (E4.out _ (HX12.out.below (HC103.out)) (HK.out.below (HB0.out.trans (HC103.out.mono HB0.out.size)))).mono ?_
                        rintro e v104 ⟨rfl, hb⟩
                        have HC104 := Lib.hid (HC103.out.trans (hb.mono HC103.out.size))
                        clear hb
                        go_wp2_with fail
                        refine (WK.out _ (HK.out.below (HB0.out.trans (HC104.out.mono HB0.out.size)))).mono ?_
                        rintro e v105 ⟨rfl, hb⟩
                        have HC105 := Lib.hid (HC104.out.trans (hb.mono HC104.out.size))
                        clear hb
                        go_wp2_with fail
                        go_ret
                        exact ⟨rfl, HB0.out.trans (HC105.out.mono HB0.out.size)⟩
                      | true =>
                        rw [show (true && x2) = x2 from rfl] at E3
                        go_wp2_with fail
                        refine (E3.out _ (HK.out.below (HB0.out.trans (HC102.out.mono HB0.out.size)))).mono ?_
                        rintro e v103 ⟨rfl, hb⟩
                        have HC103 := Lib.hid (HC102.out.trans (hb.mono HC102.out.size))
                        clear hb
                        go_wp2_with fail
                        refine (E4.out _ (HX12.out.below (HC103.out)) (HK.out.below (HB0.out.trans (HC103.out.mono HB0.out.size)))).mono ?_
                        rintro e v104 ⟨rfl, hb⟩
                        have HC104 := Lib.hid (HC103.out.trans (hb.mono HC103.out.size))
                        clear hb
                        go_wp2_with fail
                        refine (E5.out _ (HX15.out.below (HC104.out)) (HK.out.below (HB0.out.trans (HC104.out.mono HB0.out.size)))).mono ?_
                        rintro e v105 ⟨rfl, hb⟩
                        have HC105 := Lib.hid (HC104.out.trans (hb.mono HC104.out.size))
                        clear hb
                        go_wp2_with fail
                        refine (WK.out _ (HK.out.below (HB0.out.trans (HC105.out.mono HB0.out.size)))).mono ?_
                        rintro e v106 ⟨rfl, hb⟩
                        have HC106 := Lib.hid (HC105.out.trans (hb.mono HC105.out.size))
                        clear hb
                        go_wp2_with fail
                        go_ret
                        exact ⟨rfl, HB0.out.trans (HC106.out.mono HB0.out.size)⟩
      | false =>
        go_enter Tryz.func6, Tryz.ntmps6
        go_wp2_with fail
        refine KS.out.mono ?_
        rintro e wx ⟨rfl, hwx⟩
        subst wx
        go_wp2_with fail
        refine (WK.out _ HK.out).mono ?_
        rintro e w4 ⟨rfl, b4⟩
        go_wp2
        go_ret
        exact ⟨rfl, b4⟩
    · go_enter Tryz.func6, Tryz.ntmps6
      go_wp2_with fail
      refine (WK.out _ HK.out).mono ?_
      rintro e w4 ⟨rfl, b4⟩
      go_wp2
      go_ret
      exact ⟨rfl, b4⟩
  · go_enter Tryz.func6, Tryz.ntmps6
    go_wp2_with fail
    refine (WK.out _ HK.out).mono ?_
    rintro e w4 ⟨rfl, b4⟩
    go_wp2
    go_ret
    exact ⟨rfl, b4⟩
end Go.Proofs.YtgfammlmbjmkoaaGreatDoor
