/- Texts of this claim, one behind the other: Om, On, Oo, Oq, Or, Rg, Os, Ot, Ou, Ov, Ow. -/
import Derived.Test.YtgfammlmbjmkoaaGreatDoorOwm3
import Derived.Test.YtgfammlmbjmkoaaGreatDoorOwm2
import Derived.OwnWalkIn
import Derived.TacticsInMore
import Derived.LoopNIn
import Derived.LoopIn
import Derived.RangeFuncKeeps
import Derived.SliceStrings
import Derived.WideShapes
import Derived.ChangeSame
/- The reference's Text. -/
namespace Go.Proofs.YtgfammlmbjmkoaaGreatDoor
set_option linter.unusedVariables false
set_option linter.unusedSimpArgs false
open Go.RowKit Go.Shelf
set_option maxHeartbeats 8000000
set_option maxRecDepth 100000
namespace Ro
/-- how far the reference has written -/
def TAt (L : List Pt) (acc : List UInt8) (k : Nat) : Prop :=
  k ≤ L.length ∧ (∃ ws, Gt.all? word (L.take k) = some ws ∧ ws.flatten = acc) ∧ ∀ j, j < k → j + 1 < L.length → (L.getD j (0, [])).1 ≠ 3
theorem tAt_start (L : List Pt) : TAt L [] 0 := ⟨Nat.zero_le _, ⟨[], rfl, rfl⟩, fun j h => by omega⟩
theorem tAt_next {L : List Pt} {acc x : List UInt8} {k : Nat} (h : TAt L acc k) (hk : k < L.length) (hw : word (L.getD k (0, [])) = some x) (h3 : (L.getD k (0, [])).1 ≠ 3 ∨ k + 1 = L.length) : TAt L (acc ++ x) (k + 1) := by
  obtain ⟨h1, ⟨ws, h2, h4⟩, h5⟩ := h
  refine ⟨hk, ⟨ws ++ [x], ?_, by rw [List.flatten_append, h4]; simp⟩, fun j hj hj2 => ?_⟩
  · rw [List.take_succ_eq_append_getElem hk]
    refine all_append h2 ?_
    rw [List.getD_eq_getElem?_getD, List.getElem?_eq_getElem hk] at hw
    have hw' : word L[k] = some x := hw
    rw [Gt.all_some hw']; rfl
  · by_cases e : j = k
    · subst e
      rcases h3 with h | h
      · exact h
      · omega
    · exact h5 j (by omega) hj2
theorem tAt_none {L : List Pt} {k : Nat} (hk : k < L.length) (hw : word (L.getD k (0, [])) = none) : text L = none := by
  refine text_none (all_mem_none (x := L[k]) (List.getElem_mem _) ?_)
  rw [List.getD_eq_getElem?_getD, List.getElem?_eq_getElem hk] at hw
  exact hw
theorem tAt_bad {L : List Pt} {k : Nat} (hk : k + 1 < L.length) (h3 : (L.getD k (0, [])).1 = 3) : text L = none := by
  refine text_bad ?_
  unfold right
  have h : (L.dropLast.all fun p => p.1 != 3) = false := by
    rw [List.all_eq_false]
    refine ⟨L[k]'(by omega), ?_, ?_⟩
    · rw [List.dropLast_eq_take]
      exact List.mem_take_iff_getElem.2 ⟨k, by omega, rfl⟩
    · rw [List.getD_eq_getElem?_getD, List.getElem?_eq_getElem (by omega)] at h3
      have h3' : (L[k]'(by omega)).1 = 3 := h3
      rw [h3']; decide
  rw [h, Bool.and_false]
theorem tAt_end {L : List Pt} {acc : List UInt8} {k : Nat} (h : TAt L acc k) (hk : L.length ≤ k) (hL : 0 < L.length) : text L = if acc.length ≤ 1024 then some acc else none := by
  obtain ⟨h1, ⟨ws, h2, h4⟩, h5⟩ := h
  rw [List.take_of_length_le hk] at h2
  have hr : right L = true := by
    unfold right
    have e : L.isEmpty = false := by cases L; simp at hL; rfl
    rw [e]
    have h : (L.dropLast.all fun p => p.1 != 3) = true := by
      rw [List.all_eq_true]
      intro p hp
      rw [List.dropLast_eq_take] at hp
      obtain ⟨j, hj, rfl⟩ := List.mem_take_iff_getElem.1 hp
      have := h5 j (by omega) (by omega)
      rw [List.getD_eq_getElem?_getD, List.getElem?_eq_getElem (by omega)] at this
      exact bne_iff_ne.2 this
    rw [h]; rfl
  rw [text_is hr h2, h4]
theorem word_one {t : List UInt8} : word (1, t) = some (47 :: Gt.enc t) := rfl
theorem word_other {k : Int} {t : List UInt8} (h1 : k ≠ 1) : word (k, t) = if k = 2 ∧ t = [] then some [47, 42] else if k = 3 ∧ t = [] then some [47, 42, 42] else none := by
  unfold word
  rw [if_neg h1]
  simp only [Prod.mk.injEq]
end Ro
theorem nil_is {t : List UInt8} {tb : ByteArray} (h : tb.data.toList = t) : (tb.toList == []) = decide (t = []) := by
  rw [ByteArray.toList_eq, h, Bool.eq_iff_iff, beq_iff_eq, decide_eq_true_iff]
theorem empty_is {t : List UInt8} {tb : ByteArray} (h : tb.data.toList = t) : tb.toList.isEmpty = decide (t = []) := by
  rw [ByteArray.toList_eq, h, Bool.eq_iff_iff, List.isEmpty_iff, decide_eq_true_iff]
theorem ba_add (a b : List UInt8) (x y : ByteArray) (hx : x.data.toList = a) (hy : y.data.toList = b) : (x ++ y).data.toList = a ++ b := by
  rw [ByteArray.data_append, Array.toList_append, hx, hy]
theorem rf_Text (v : Value) (L : List Ro.Pt) (w : World) (hv : PtS w v L) (hL : L.length ≤ 2000) (hl : ∀ p ∈ L, p.2.length ≤ 30000) :
    Calls Tryz.prog 18 #[v] w fun e w' => e = txOut (Ro.text L) ∧ Below w.heap.size w w' := by
  obtain ⟨p0, c, rfl⟩ := hv.slice
  obtain ⟨n, hn⟩ : ∃ n, L.length = n := ⟨_, rfl⟩
  obtain ⟨R, hR⟩ : ∃ R, Ro.text L = R := ⟨_, rfl⟩
  rw [hn] at hv hL ⊢
  rw [hR]
  have HV := Lib.hid hv
  have HN := Lib.hid hn
  have HR := Lib.hid hR
  have HLL := Lib.hid hl
  clear hv hn hR hl
  go_enter Tryz.func18, Tryz.ntmps18
  go_wp2_with fail
  go_loopw [4, 5] (fun x i wr => ∃ (k : Nat) (acc : List UInt8), k ≤ n ∧ i = .int .i64 k ∧ x = sv acc ∧ acc.length ≤ k * 90003 ∧ Ro.TAt L acc k ∧ Below w.heap.size w wr) (fun _ i _ => n - (intOf i).toNat)
  case atStart => exact ⟨0, [], Nat.zero_le _, rfl, rfl, Nat.zero_le _, Ro.tAt_start _, Below.refl _ _⟩
  case round =>
    obtain ⟨k, acc, hk, rfl, rfl, hal, hat, hbl⟩ := hrel
    obtain ⟨ab, hab, had⟩ := sv_is acc
    rw [hab]
    have habs : ab.size ≤ k * 90003 := by rw [← had] at hal; exact hal
    have habs2 : ab.size ≤ 180006000 := Nat.le_trans habs (Nat.mul_le_mul_right _ (Nat.le_trans hk hL))
    have HAS := Lib.hid habs
    have HAB := Lib.hid hab
    have HAD := Lib.hid had
    have HA := Lib.hid hat
    have HBL := Lib.hid hbl
    clear hal hat hab had habs
    by_cases hlt : k < n
    · have HLK := Lib.hid (show k < L.length by rw [HN.out]; exact hlt)
      obtain ⟨b, off, rfl, _, _, hb, hc⟩ := HV.out.cells HLK.out
      have x0 := (hbl.cell (p := ⟨b, off + k * 2, none⟩) hb).trans (hc k HLK.out).1
      have x1 := (hbl.cell (p := ⟨b, off + k * 2 + 1, none⟩) hb).trans (hc k HLK.out).2
      have HTL := Lib.hid (HLL.out (L.getD k (0, [])) (by rw [List.getD_eq_getElem?_getD, List.getElem?_eq_getElem HLK.out]; exact List.getElem_mem _))
      have HNX := Lib.hid (fun x (hw : Ro.word (L.getD k (0, [])) = some x) h3 => Ro.tAt_next HA.out HLK.out hw h3)
      have HNO := Lib.hid (fun (hw : Ro.word (L.getD k (0, [])) = none) => HR.out.symm.trans (Ro.tAt_none HLK.out hw))
      have HBD := Lib.hid (fun (h : k + 1 < L.length) (h3 : (L.getD k (0, [])).1 = 3) => HR.out.symm.trans (Ro.tAt_bad h h3))
      obtain ⟨⟨kd, tl⟩, hq⟩ : ∃ q, L.getD k (0, []) = q := ⟨_, rfl⟩
      rw [hq] at x0 x1 HTL HNX HNO HBD
      simp only at x0 x1
      obtain ⟨tb, htb, htd⟩ := sv_is tl
      rw [htb] at x1
      have hne := nil_is htd
      have hem := empty_is htd
      have HTS := Lib.hid (show tb.size ≤ 30000 by have h1 : tb.data.toList.length = tb.size := rfl; rw [htd] at h1; have := HTL.out; simp at this; omega)
      have HTD := Lib.hid htd
      obtain ⟨d, hd⟩ : ∃ d, decide (tl = []) = d := ⟨_, rfl⟩
      rw [hd] at hne hem
      have HD := Lib.hid hd
      clear hc hb hq htb htd hbl hd
      by_cases h1 : kd = 1
      · subst h1
        clear hne hem
        have KE := Lib.hid (fun W => ref_Encode tb W (by have := HTS.out; omega))
        rw [HTD.out] at KE
        obtain ⟨eb, heb⟩ : ∃ z : ByteArray, (⟨(Gt.enc tl).toArray⟩ : ByteArray) = z := ⟨_, rfl⟩
        have HED := Lib.hid (show eb.data.toList = Gt.enc tl by rw [← heb])
        rw [heb] at KE
        have hes : eb.size ≤ 90000 := by
          have h2 : eb.data.toList.length = eb.size := rfl
          have h3 := (Gt.enc_length tl).2
          have h4 : tb.data.toList.length = tb.size := rfl
          rw [HED.out] at h2; rw [HTD.out] at h4; have := HTS.out; omega
        have hs1 : (ab ++ (⟨#[47]⟩ : ByteArray)).size ≤ 180006001 := by rw [ByteArray.size_append]; show ab.size + 1 ≤ _; omega
        have hs2 : (ab ++ (⟨#[47]⟩ : ByteArray) ++ eb).size ≤ 180096001 := by rw [ByteArray.size_append]; omega
        clear heb
        go_wp2_with fail
        refine (KE.out _).mono ?_
        rintro e w2 ⟨rfl, hb2⟩
        have HB2 := Lib.hid (HBL.out.trans (hb2.mono HBL.out.size))
        have HES := Lib.hid hes
        clear hb2
        have HX := Lib.hid (HNX.out _ Ro.word_one (.inl (by decide)))
        go_wp2_with fail
        go_roundw
        case rel =>
          refine ⟨k + 1, _, hlt, by go_num, ?_, ?_, HX.out, HB2.out⟩
          · unfold sv
            congr 1
            exact ba_ext (by rw [ba_add (acc ++ [47]) (Gt.enc tl) _ _ (ba_add acc [47] _ _ HAD.out rfl) HED.out]; simp)
          · have h2 : eb.data.toList.length = eb.size := rfl
            have h3 : ab.data.toList.length = ab.size := rfl
            rw [HED.out] at h2
            rw [HAD.out] at h3
            have := HES.out; have := HAS.out
            rw [List.length_append, List.length_cons]; omega
        case measure => simp [intOf]; omega
      · have hn1 : ((kd : Int) == 1) = false := beq_eq_false_iff_ne.2 h1
        rw [Ro.word_other h1] at HNX HNO
        have HN1 := Lib.hid h1
        clear h1
        by_cases h2 : kd = 2
        · subst h2
          cases d with
          | true =>
            have HX := Lib.hid (HNX.out _ (if_pos ⟨rfl, of_decide_eq_true HD.out⟩) (.inl (show (2 : Int) ≠ 3 by decide)))
            have hs1 : (ab ++ (⟨#[47, 42]⟩ : ByteArray)).size ≤ 180006002 := by rw [ByteArray.size_append]; show ab.size + 2 ≤ _; omega
            go_wp2_with fail
            go_roundw
            case rel =>
              refine ⟨k + 1, _, hlt, by go_num, ?_, ?_, HX.out, HBL.out⟩
              · unfold sv
                congr 1
                exact ba_ext (ba_add acc [47, 42] _ _ HAD.out rfl)
              · have h3 : ab.data.toList.length = ab.size := rfl
                rw [HAD.out] at h3
                have := HAS.out
                rw [List.length_append]; show acc.length + 2 ≤ _; omega
            case measure => simp [intOf]; omega
          | false =>
            have HX := Lib.hid (HNO.out (by rw [if_neg (fun h => of_decide_eq_false HD.out h.2), if_neg (fun h => by exact absurd h.1 (by decide))]))
            go_wp2_with fail
            go_ret2
            exact ⟨by rw [HX.out]; rfl, HBL.out⟩
        · have hn2 : ((kd : Int) == 2) = false := beq_eq_false_iff_ne.2 h2
          have HN2 := Lib.hid h2
          clear h2
          by_cases h3 : kd = 3
          · subst h3
            cases d with
            | true =>
              by_cases hlast : k + 1 = n
              · have hl1 : ((k : Int) == (n : Int) - 1) = true := beq_iff_eq.2 (by omega)
                have HX := Lib.hid (HNX.out _ (by rw [if_neg (fun h => HN2.out h.1), if_pos ⟨rfl, of_decide_eq_true HD.out⟩]) (.inr (by rw [HN.out]; exact hlast)))
                have hs1 : (ab ++ (⟨#[47, 42, 42]⟩ : ByteArray)).size ≤ 180006003 := by rw [ByteArray.size_append]; show ab.size + 3 ≤ _; omega
                have HLA := Lib.hid hlast
                clear hlast
                go_wp2_with fail
                go_roundw
                case rel =>
                  refine ⟨k + 1, _, hlt, by go_num, ?_, ?_, HX.out, HBL.out⟩
                  · unfold sv
                    congr 1
                    exact ba_ext (ba_add acc [47, 42, 42] _ _ HAD.out rfl)
                  · have h3 : ab.data.toList.length = ab.size := rfl
                    rw [HAD.out] at h3
                    have := HAS.out
                    rw [List.length_append]; show acc.length + 3 ≤ _; omega
                case measure => simp [intOf]; omega
              · have hl1 : ((k : Int) == (n : Int) - 1) = false := beq_eq_false_iff_ne.2 (by omega)
                have HX := Lib.hid (HBD.out (by rw [HN.out]; omega) rfl)
                clear hlast
                go_wp2_with fail
                go_ret2
                exact ⟨by rw [HX.out]; rfl, HBL.out⟩
            | false =>
              have HX := Lib.hid (HNO.out (by rw [if_neg (fun h => of_decide_eq_false HD.out h.2), if_neg (fun h => of_decide_eq_false HD.out h.2)]))
              go_wp2_with fail
              go_ret2
              exact ⟨by rw [HX.out]; rfl, HBL.out⟩
          · have hn3 : ((kd : Int) == 3) = false := beq_eq_false_iff_ne.2 h3
            have HX := Lib.hid (HNO.out (by rw [if_neg (fun h => HN2.out h.1), if_neg (fun h => h3 h.1)]))
            clear h3
            go_wp2_with fail
            go_ret2
            exact ⟨by rw [HX.out]; rfl, HBL.out⟩
    · obtain rfl : k = n := by omega
      rcases Nat.eq_zero_or_pos k with h0 | h0
      · have HX := Lib.hid (show R = none by
          rw [← HR.out, List.length_eq_zero_iff.1 (HN.out.trans h0)]; rfl)
        subst h0
        go_wp2_with fail
        go_ret2
        exact ⟨by rw [HX.out]; rfl, HBL.out⟩
      · have HX := Lib.hid (Ro.tAt_end HA.out (by rw [HN.out]; exact Nat.le_refl _) (by rw [HN.out]; exact h0))
        rw [HR.out] at HX
        have HSZ := Lib.hid (show acc.length = ab.size by rw [← HAD.out]; rfl)
        have hz : ((k : Int) == 0) = false := beq_eq_false_iff_ne.2 (by omega)
        clear h0
        by_cases hle : ab.size ≤ 1024
        · have HY := Lib.hid (HX.out.trans (if_pos (by rw [HSZ.out]; exact hle)))
          have h1 : ¬ (1024 : Int) < (ab.size : Int) := by omega
          clear hle
          go_wp2_with fail
          go_ret2
          exact ⟨by rw [HY.out]; show _ = Ending.returned (.tuple #[sv acc, .int .i64 0]); rw [HAB.out]; rfl, HBL.out⟩
        · have HY := Lib.hid (HX.out.trans (if_neg (by rw [HSZ.out]; exact hle)))
          have h1 : (1024 : Int) < (ab.size : Int) := by omega
          clear hle
          go_wp2_with fail
          go_ret2
          exact ⟨by rw [HY.out]; rfl, HBL.out⟩
end Go.Proofs.YtgfammlmbjmkoaaGreatDoor

/- The reference's rest, Fits, Covers. -/
namespace Go.Proofs.YtgfammlmbjmkoaaGreatDoor
set_option linter.unusedVariables false
set_option linter.unusedSimpArgs false
open Go.RowKit Go.Shelf
set_option maxHeartbeats 8000000
set_option maxRecDepth 100000
namespace Ro
/-- does a rest stand last, and how many stand ahead of it? -/
def rOpen (L : List Pt) : Bool := (L.getD (L.length - 1) (0, [])).1 == 3
def rN (L : List Pt) : Nat := if rOpen L then L.length - 1 else L.length
theorem rN_le (L : List Pt) : rN L ≤ L.length := by unfold rN; split <;> omega
theorem r_no3 {L : List Pt} (hr : right L = true) {j : Nat} (hj : j < rN L) : (L.getD j (0, [])).1 ≠ 3 := by
  have hjl : j < L.length := Nat.lt_of_lt_of_le hj (rN_le L)
  unfold right at hr
  rw [Bool.and_eq_true, List.all_eq_true] at hr
  by_cases h : j + 1 < L.length
  · have := hr.2 (L[j]) (by rw [List.dropLast_eq_take]; exact List.mem_take_iff_getElem.2 ⟨j, by omega, rfl⟩)
    rw [List.getD_eq_getElem?_getD, List.getElem?_eq_getElem hjl]
    exact bne_iff_ne.1 this
  · have e : j = L.length - 1 := by omega
    have ho : rOpen L = false := by
      cases ho : rOpen L with
      | false => rfl
      | true => unfold rN at hj; rw [ho] at hj; simp at hj; omega
    unfold rOpen at ho
    rw [e]; exact beq_eq_false_iff_ne.1 ho
theorem r_open {L : List Pt} (h : rOpen L = true) : (L.getD (L.length - 1) (0, [])).1 = 3 := by unfold rOpen at h; exact beq_iff_eq.1 h
theorem gd {L : List Pt} {j : Nat} (h : j < L.length) : L.getD j (0, []) = L[j] := by rw [List.getD_eq_getElem?_getD, List.getElem?_eq_getElem h]; rfl
theorem fAt_or {L : List Pt} {P : List (List UInt8)} : ∀ k : Nat, k ≤ P.length → k ≤ L.length → (∀ j, j < k → (L.getD j (0, [])).1 ≠ 3) → fits L P = false ∨ FAt L P k
  | 0, _, _, _ => .inr (fAt_start _ _)
  | k + 1, h1, h2, h3 => by
    rcases fAt_or (L := L) (P := P) k (by omega) (by omega) (fun j hj => h3 j (by omega)) with h | h
    · exact .inl h
    · have hk3 : L[k].1 ≠ 3 := by have := h3 k (by omega); rwa [gd (by omega)] at this
      by_cases hd : L[k].1 = 1 ∧ L[k].2 ≠ P[k]
      · exact .inl (fAt_differ h (by omega) hk3 (by omega) hd.1 hd.2)
      · exact .inr (fAt_next h (by omega) hk3 (by omega) (fun h1 => Classical.not_not.1 (fun e => hd ⟨h1, e⟩)))
theorem fits_few {L : List Pt} {P : List (List UInt8)} (hr : right L = true) (h : P.length < rN L) : fits L P = false := by
  have hl := rN_le L
  rcases fAt_or (L := L) (P := P) P.length (Nat.le_refl _) (by omega) (fun j hj => r_no3 hr (by omega)) with h1 | h1
  · exact h1
  · exact fAt_short h1 (by omega) (by rw [← gd (by omega)]; exact r_no3 hr h) (Nat.le_refl _)
theorem fits_many {L : List Pt} {P : List (List UInt8)} (hr : right L = true) (ho : rOpen L = false) (h : rN L < P.length) : fits L P = false := by
  have hn : rN L = L.length := by unfold rN; rw [ho]; rfl
  rcases fAt_or (L := L) (P := P) L.length (by omega) (Nat.le_refl _) (fun j hj => r_no3 hr (by omega)) with h1 | h1
  · exact h1
  · rw [fAt_end h1 (Nat.le_refl _)]; exact decide_eq_false (by omega)
theorem fits_end {L : List Pt} {P : List (List UInt8)} (hne : L ≠ []) (h : FAt L P (rN L)) (hp : rOpen L = true ∨ P.length = rN L) : fits L P = true := by
  cases ho : rOpen L with
  | true =>
    have hn : rN L = L.length - 1 := by unfold rN; rw [ho]; rfl
    have hlen : 0 < L.length := List.length_pos_iff.2 hne
    exact fAt_rest h (by omega) (by have := r_open ho; rw [← hn, gd (by omega)] at this; exact this)
  | false =>
    have hn : rN L = L.length := by unfold rN; rw [ho]; rfl
    rw [fAt_end h (by omega)]
    rcases hp with h1 | h1
    · rw [ho] at h1; cases h1
    · exact decide_eq_true (by omega)
theorem cAt_or {L O : List Pt} : ∀ k : Nat, k ≤ O.length → k ≤ L.length → (∀ j, j < k → (L.getD j (0, [])).1 ≠ 3) → (∀ j, j < k → (O.getD j (0, [])).1 ≠ 3) → covers L O = false ∨ CAt L O k
  | 0, _, _, _, _ => .inr (cAt_start _ _)
  | k + 1, h1, h2, h3, h4 => by
    rcases cAt_or (L := L) (O := O) k (by omega) (by omega) (fun j hj => h3 j (by omega)) (fun j hj => h4 j (by omega)) with h | h
    · exact .inl h
    · have hk3 : L[k].1 ≠ 3 := by have := h3 k (by omega); rwa [gd (by omega)] at this
      have ho3 : O[k].1 ≠ 3 := by have := h4 k (by omega); rwa [gd (by omega)] at this
      by_cases hd : L[k].1 = 1 ∧ L[k] ≠ O[k]
      · exact .inl (cAt_differ h (by omega) hk3 (by omega) hd.1 hd.2)
      · exact .inr (cAt_next h (by omega) hk3 (by omega) ho3 (fun h1 => Classical.not_not.1 (fun e => hd ⟨h1, e⟩)))
theorem covers_few {L O : List Pt} (hr : right L = true) (hr2 : right O = true) (hO : O ≠ []) (h : rN O < rN L) : covers L O = false := by
  have hl := rN_le L
  have hl2 := rN_le O
  have hlen : 0 < O.length := List.length_pos_iff.2 hO
  rcases cAt_or (L := L) (O := O) (rN O) (by omega) (by omega) (fun j hj => r_no3 hr (by omega)) (fun j hj => r_no3 hr2 (by omega)) with h1 | h1
  · exact h1
  · have h3 : (L[rN O]'(by omega)).1 ≠ 3 := by rw [← gd (by omega)]; exact r_no3 hr h
    cases ho : rOpen O with
    | true =>
      have hn : rN O = O.length - 1 := by unfold rN; rw [ho]; rfl
      exact cAt_open h1 (by omega) h3 (by omega) (by have := r_open ho; rw [← hn, gd (by omega)] at this; exact this)
    | false =>
      have hn : rN O = O.length := by unfold rN; rw [ho]; rfl
      exact cAt_short h1 (by omega) h3 (by omega)
theorem covers_many {L O : List Pt} (hr : right L = true) (hr2 : right O = true) (hO : O ≠ []) (ho : rOpen L = false) (h : rN L < rN O ∨ (rN L ≤ rN O ∧ rOpen O = true)) : covers L O = false := by
  have hn : rN L = L.length := by unfold rN; rw [ho]; rfl
  have hl2 := rN_le O
  have hlen : 0 < O.length := List.length_pos_iff.2 hO
  rcases cAt_or (L := L) (O := O) L.length (by omega) (Nat.le_refl _) (fun j hj => r_no3 hr (by omega)) (fun j hj => r_no3 hr2 (by omega)) with h1 | h1
  · exact h1
  · rw [cAt_end h1 (Nat.le_refl _)]
    refine decide_eq_false ?_
    rcases h with h | ⟨h, h2⟩
    · omega
    · have hn2 : rN O = O.length - 1 := by unfold rN; rw [h2]; rfl
      omega
theorem covers_end {L O : List Pt} (hne : L ≠ []) (h : CAt L O (rN L)) (hp : rOpen L = true ∨ (rN O = rN L ∧ rOpen O = false)) : covers L O = true := by
  cases ho : rOpen L with
  | true =>
    have hn : rN L = L.length - 1 := by unfold rN; rw [ho]; rfl
    have hlen : 0 < L.length := List.length_pos_iff.2 hne
    exact cAt_rest h (by omega) (by have := r_open ho; rw [← hn, gd (by omega)] at this; exact this)
  | false =>
    have hn : rN L = L.length := by unfold rN; rw [ho]; rfl
    rw [cAt_end h (by omega)]
    rcases hp with h1 | ⟨h1, h2⟩
    · rw [ho] at h1; cases h1
    · have hn2 : rN O = O.length := by unfold rN; rw [h2]; rfl
      exact decide_eq_true (by omega)
end Ro
theorem rf_rest (v : Value) (L : List Ro.Pt) (w : World) (hv : PtS w v L) (hne : L ≠ []) (hL : L.length ≤ 100000) :
    Calls Tryz.prog 47 #[v] w fun e w' => e = .returned (.tuple #[.int .i64 (Ro.rN L), .bool (Ro.rOpen L)]) ∧ w' = w := by
  have hlen : 0 < L.length := List.length_pos_iff.2 hne
  obtain ⟨n, hn⟩ : ∃ n, L.length = n + 1 := ⟨L.length - 1, by omega⟩
  obtain ⟨p, c, rfl⟩ := hv.slice
  obtain ⟨b, off, rfl, _, _, hb, hc⟩ := hv.cells hlen
  have x0 := (hc n (by omega)).1
  have x1 := (hc n (by omega)).2
  have HRO := Lib.hid (show Ro.rOpen L = ((L.getD n (0, [])).1 == 3) by unfold Ro.rOpen; rw [hn]; rfl)
  obtain ⟨⟨kd, tl⟩, hq⟩ : ∃ q, L.getD n (0, []) = q := ⟨_, rfl⟩
  rw [hq] at x0 x1 HRO
  simp only at x0 x1 HRO
  have HRN := Lib.hid (show Ro.rN L = if (kd == 3) = true then n else n + 1 by unfold Ro.rN; rw [HRO.out, hn]; rfl)
  rw [hn] at hL ⊢
  have h2 : ((n + 1 : Nat) : Int) - 1 = (n : Int) := by omega
  clear hc hq hn hv hne hlen
  by_cases h3 : kd = 3
  · subst h3
    have HRN := Lib.hid (show Ro.rN L = n from HRN.out)
    have HRO := Lib.hid (show Ro.rOpen L = true from HRO.out)
    go_enter Tryz.func47, Tryz.ntmps47
    go_wp2_with fail
    go_ret2
    exact ⟨by rw [HRN.out, HRO.out]; rfl, rfl⟩
  · have hk3 : ((kd : Int) == 3) = false := beq_eq_false_iff_ne.2 h3
    have HRN := Lib.hid (show Ro.rN L = n + 1 by rw [HRN.out, if_neg (by rw [hk3]; decide)])
    have HRO := Lib.hid (HRO.out.trans hk3)
    clear h3
    go_enter Tryz.func47, Tryz.ntmps47
    go_wp2_with fail
    go_ret2
    exact ⟨by rw [HRN.out, HRO.out]; rfl, rfl⟩
theorem rf_Fits (s : ByteArray) (u : Value) (P : List (List UInt8)) (w : World) (hs : s.size ≤ 30000) (hu : XS w u P) (hP : P.length ≤ 100000) :
    Calls Tryz.prog 21 #[.string s, u] w fun e w' => e = .returned (.bool (Ro.fitsT s.data.toList P)) ∧ Below w.heap.size w w' := by
  have K := Lib.hid (rf_Parse s w hs)
  obtain ⟨R, hR⟩ : ∃ R, Ro.fitsT s.data.toList P = R := ⟨_, rfl⟩
  rw [hR]
  have HR := Lib.hid hR
  obtain ⟨p, c, rfl⟩ := hu.slice
  obtain ⟨m, hm⟩ : ∃ n, P.length = n := ⟨_, rfl⟩
  rw [hm] at hu hP ⊢
  have HU := Lib.hid hu
  have HM := Lib.hid hm
  clear hR hu hm
  cases ho : Ro.parse s.data.toList with
  | none =>
    rw [ho] at K
    have HN := Lib.hid (HR.out.symm.trans (Ro.fitsT_none ho P))
    clear ho
    go_enter Tryz.func21, Tryz.ntmps21
    go_wp2_with fail
    refine K.out.mono ?_
    rintro e w2 ⟨h, hb⟩
    have HB := Lib.hid hb
    obtain rfl := h
    clear hb
    go_wp2_with fail
    go_ret
    exact ⟨by rw [HN.out]; rfl, HB.out⟩
  | some L =>
    rw [ho] at K
    have HN := Lib.hid (HR.out.symm.trans (Ro.fitsT_some ho P))
    have HLL := Lib.hid (Ro.parse_many ho).2
    have HNE := Lib.hid (Ro.parse_ne ho)
    have HRT := Lib.hid (Ro.parse_inv ho).2.2
    clear ho
    have HNR := Lib.hid (Ro.rN_le L)
    obtain ⟨n, hn⟩ : ∃ n, L.length = n := ⟨_, rfl⟩
    have HLN := Lib.hid hn
    rw [hn] at HLL HNR
    clear hn
    obtain ⟨N, hN⟩ : ∃ N, Ro.rN L = N := ⟨_, rfl⟩
    have hNl : N ≤ 1025 := by have := HNR.out; have := HLL.out; omega
    obtain ⟨d, hd⟩ : ∃ d, Ro.rOpen L = d := ⟨_, rfl⟩
    have HRN := Lib.hid hN
    have HRO := Lib.hid hd
    clear hN hd
    go_enter Tryz.func21, Tryz.ntmps21
    go_wp2_with fail
    refine K.out.mono ?_
    rintro e w2 ⟨h, hb⟩
    obtain ⟨r, rfl, hp⟩ := h
    have HB := Lib.hid hb
    have HP := Lib.hid hp
    have KR := Lib.hid (rf_rest r L w2 hp HNE.out (by have := HLL.out; have := HLN.out; omega))
    rw [HRN.out, HRO.out] at KR
    obtain ⟨q, cq, rfl⟩ := hp.slice
    rw [HLN.out] at KR HP ⊢
    clear hb hp
    go_wp2_with fail
    refine KR.out.mono ?_
    rintro e w3 ⟨rfl, hw3⟩
    subst w3
    by_cases h1 : m < N
    · have HF := Lib.hid (HN.out.trans (Ro.fits_few HRT.out (by rw [HM.out, HRN.out]; exact h1)))
      have h2 : (m : Int) < (N : Int) := by omega
      clear h1
      go_wp2_with fail
      go_ret
      exact ⟨by rw [HF.out]; rfl, HB.out⟩
    by_cases h3 : N < m ∧ d = false
    · obtain ⟨h4, rfl⟩ := h3
      have HF := Lib.hid (HN.out.trans (Ro.fits_many HRT.out HRO.out (by rw [HM.out, HRN.out]; exact h4)))
      have h2 : ¬ (m : Int) < (N : Int) := by omega
      have h5 : (N : Int) < (m : Int) := by omega
      clear h1
      go_wp2_with fail
      go_ret
      exact ⟨by rw [HF.out]; rfl, HB.out⟩
    · have HC := Lib.hid (show Ro.rOpen L = true ∨ P.length = Ro.rN L by
        rw [HRO.out, HM.out, HRN.out]
        cases d with
        | true => exact .inl rfl
        | false => exact .inr (by have : ¬ N < m := fun h => h3 ⟨h, rfl⟩; omega))
      have HNM := Lib.hid (show N ≤ m by omega)
      have hcond : (N : Int) < (m : Int) → d = true := fun h => by
        cases d with
        | true => rfl
        | false => exact absurd ⟨by omega, rfl⟩ h3
      have h2 : ¬ (m : Int) < (N : Int) := by omega
      clear h1 h3
      have HCC := Lib.hid hcond
      clear hcond
      by_cases h5 : (N : Int) < (m : Int)
      case' pos => obtain rfl := HCC.out h5
      all_goals
        go_wp2_with fail
        go_loopw [9] (fun i wr => ∃ k j : Nat, k ≤ N ∧ i = .int .i64 k ∧ wr = w2.drewN j ∧ Ro.FAt L P k) (fun i _ => N - (intOf i).toNat)
        case atStart => exact ⟨0, 0, Nat.zero_le _, rfl, rfl, Ro.fAt_start _ _⟩
        case round =>
          obtain ⟨k, j, hk, rfl, rfl, hat⟩ := hrel
          have HAT := Lib.hid hat
          clear hat
          by_cases hlt : k < N
          · have hkn : k < n := by have := HNR.out; rw [HRN.out] at this; omega
            have hkm : k < m := by have := HNM.out; omega
            have hkn1 : (k : Int) < (n : Int) := by omega
            have hkm1 : (k : Int) < (m : Int) := by omega
            have HLK := Lib.hid (show k < L.length by rw [HLN.out]; exact hkn)
            have HPK := Lib.hid (show k < P.length by rw [HM.out]; have := HNM.out; omega)
            obtain ⟨b, off, rfl, _, _, _, hc⟩ := HP.out.cells HLK.out
            obtain ⟨g, o, rfl, hcu⟩ := (HU.out.below HB.out).cells HPK.out
            have x0 := (hc k HLK.out).1
            have x1 := (hc k HLK.out).2
            have y0 := hcu k HPK.out
            have HK3 := Lib.hid (show (L[k]'HLK.out).1 ≠ 3 by rw [← Ro.gd HLK.out]; exact Ro.r_no3 HRT.out (by rw [HRN.out]; exact hlt))
            have HG := Lib.hid (Ro.gd HLK.out)
            have HGU := Lib.hid (getD_is P [] k HPK.out)
            obtain ⟨⟨kd, tl⟩, hq⟩ : ∃ q, L.getD k (0, []) = q := ⟨_, rfl⟩
            obtain ⟨pl, hpl⟩ : ∃ q, P.getD k [] = q := ⟨_, rfl⟩
            rw [hq] at x0 x1 HG
            rw [hpl] at y0 HGU
            simp only at x0 x1
            obtain ⟨tb, htb, htl⟩ := sv_is tl
            obtain ⟨pb, hpb, hpd⟩ := sv_is pl
            rw [htb] at x1
            rw [hpb] at y0
            have HTL := Lib.hid htl
            have HPD := Lib.hid hpd
            clear hc hcu hq hpl htb htl hpb hpd
            by_cases h1 : kd = 1
            · subst h1
              obtain ⟨e, he⟩ : ∃ d, (tl == pl) = d := ⟨_, rfl⟩
              have hq : (tb.toList == pb.toList) = e := by rw [← he, ByteArray.toList_eq, ByteArray.toList_eq, HTL.out, HPD.out]
              have hq2 : (tb.toList != pb.toList) = !e := by unfold bne; rw [hq]
              have HD := Lib.hid he
              clear he
              cases e with
              | false =>
                have HNO := Lib.hid (HN.out.trans (Ro.fAt_differ HAT.out HLK.out HK3.out HPK.out (by rw [← HG.out]) (by rw [← HG.out, ← HGU.out]; exact beq_eq_false_iff_ne.1 HD.out)))
                go_wp2_with fail
                go_quiet (fail)
                go_wp2_with fail
                go_ret
                exact ⟨by rw [HNO.out]; rfl, below_drewN (below_drewN HB.out _) _⟩
              | true =>
                have HNX := Lib.hid (Ro.fAt_next HAT.out HLK.out HK3.out HPK.out (fun _ => by rw [← HG.out, ← HGU.out]; exact beq_iff_eq.1 HD.out))
                go_wp2_with fail
                go_quiet (fail)
                go_wp2_with fail
                go_roundw
                case rel => exact ⟨k + 1, j + nq, hlt, by go_num, by first | rfl | rw [World.drewN_drewN], HNX.out⟩
                case measure => simp [intOf]; omega
            · have hn1 : ((kd : Int) == 1) = false := beq_eq_false_iff_ne.2 h1
              have HNX := Lib.hid (Ro.fAt_next HAT.out HLK.out HK3.out HPK.out (fun h => absurd h (by rw [← HG.out]; exact h1)))
              clear h1
              go_wp2_with fail
              go_quiet (fail)
              go_wp2_with fail
              go_roundw
              case rel => exact ⟨k + 1, j + nq, hlt, by go_num, by first | rfl | rw [World.drewN_drewN], HNX.out⟩
              case measure => simp [intOf]; omega
          · obtain rfl : k = N := by omega
            have HY := Lib.hid (HN.out.trans (Ro.fits_end HNE.out (by rw [HRN.out]; exact HAT.out) HC.out))
            go_wp2_with fail
            go_ret
            exact ⟨by rw [HY.out]; rfl, below_drewN HB.out _⟩
theorem rf_Covers (sa sb : ByteArray) (w : World) (ha : sa.size ≤ 30000) (hb : sb.size ≤ 30000) :
    Calls Tryz.prog 23 #[.string sa, .string sb] w fun e w' => e = .returned (.bool (Ro.coversT sa.data.toList sb.data.toList)) ∧ Below w.heap.size w w' := by
  have K := Lib.hid (rf_Parse sa w ha)
  have K2 := Lib.hid (fun W => rf_Parse sb W hb)
  obtain ⟨R, hR⟩ : ∃ R, Ro.coversT sa.data.toList sb.data.toList = R := ⟨_, rfl⟩
  rw [hR]
  have HR := Lib.hid hR
  clear hR
  cases ho : Ro.parse sa.data.toList with
  | none =>
    rw [ho] at K
    have HN := Lib.hid (HR.out.symm.trans (Ro.coversT_none ho))
    clear ho
    go_enter Tryz.func23, Tryz.ntmps23
    go_wp2_with fail
    refine K.out.mono ?_
    rintro e w2 ⟨h, hb⟩
    have HB := Lib.hid hb
    obtain rfl := h
    clear hb
    go_wp2_with fail
    refine (K2.out _).mono ?_
    rintro e w3 ⟨h, hb3⟩
    obtain ⟨r, L, rfl, hp, _⟩ := h.some
    obtain ⟨q, d, rfl⟩ := hp.slice
    have HB3 := Lib.hid (HB.out.trans (hb3.mono HB.out.size))
    clear hb3 hp h
    go_wp2_with fail
    go_ret
    exact ⟨by rw [HN.out]; rfl, HB3.out⟩
  | some L =>
    rw [ho] at K
    have HL := Lib.hid ho
    have HLL := Lib.hid (Ro.parse_many ho).2
    have HNE := Lib.hid (Ro.parse_ne ho)
    have HRT := Lib.hid (Ro.parse_inv ho).2.2
    clear ho
    cases ho : Ro.parse sb.data.toList with
    | none =>
      rw [ho] at K2
      have HN := Lib.hid (HR.out.symm.trans (Ro.coversT_none2 ho))
      clear ho
      go_enter Tryz.func23, Tryz.ntmps23
      go_wp2_with fail
      refine K.out.mono ?_
      rintro e w2 ⟨h, hb⟩
      obtain ⟨r, rfl, hp⟩ := h
      have HB := Lib.hid hb
      obtain ⟨q, d, rfl⟩ := hp.slice
      clear hb hp
      go_wp2_with fail
      refine (K2.out _).mono ?_
      rintro e w3 ⟨h, hb3⟩
      obtain rfl := h
      have HB3 := Lib.hid (HB.out.trans (hb3.mono HB.out.size))
      clear hb3
      go_wp2_with fail
      go_ret
      exact ⟨by rw [HN.out]; rfl, HB3.out⟩
    | some O =>
      rw [ho] at K2
      have HN := Lib.hid (HR.out.symm.trans (Ro.coversT_some HL.out ho))
      have HLL2 := Lib.hid (Ro.parse_many ho).2
      have HNE2 := Lib.hid (Ro.parse_ne ho)
      have HRT2 := Lib.hid (Ro.parse_inv ho).2.2
      clear ho
      have HNR := Lib.hid (Ro.rN_le L)
      have HNR2 := Lib.hid (Ro.rN_le O)
      obtain ⟨n, hn⟩ : ∃ n, L.length = n := ⟨_, rfl⟩
      obtain ⟨n2, hn2⟩ : ∃ n, O.length = n := ⟨_, rfl⟩
      have HLN := Lib.hid hn
      have HLN2 := Lib.hid hn2
      rw [hn] at HLL HNR
      rw [hn2] at HLL2 HNR2
      clear hn hn2
      obtain ⟨N, hN⟩ : ∃ N, Ro.rN L = N := ⟨_, rfl⟩
      obtain ⟨m, hm⟩ : ∃ N, Ro.rN O = N := ⟨_, rfl⟩
      have hNl : N ≤ 1025 := by have := HNR.out; have := HLL.out; omega
      have hml : m ≤ 1025 := by have := HNR2.out; have := HLL2.out; omega
      obtain ⟨d, hd⟩ : ∃ d, Ro.rOpen L = d := ⟨_, rfl⟩
      obtain ⟨d2, hd2⟩ : ∃ d, Ro.rOpen O = d := ⟨_, rfl⟩
      have HRN := Lib.hid hN
      have HRO := Lib.hid hd
      have HRN2 := Lib.hid hm
      have HRO2 := Lib.hid hd2
      clear hN hd hm hd2
      go_enter Tryz.func23, Tryz.ntmps23
      go_wp2_with fail
      refine K.out.mono ?_
      rintro e w1 ⟨h, hb⟩
      obtain ⟨r, rfl, hp⟩ := h
      have HB1 := Lib.hid hb
      have HP1 := Lib.hid hp
      obtain ⟨q, cq, rfl⟩ := hp.slice
      rw [HLN.out] at HP1 ⊢
      clear hb hp
      go_wp2_with fail
      refine (K2.out _).mono ?_
      rintro e w2 ⟨h, hb⟩
      obtain ⟨r2, rfl, hp⟩ := h
      have HB := Lib.hid (HB1.out.trans (hb.mono HB1.out.size))
      have HP := Lib.hid (HP1.out.below hb)
      have HQ := Lib.hid hp
      have KR := Lib.hid (rf_rest _ L w2 HP.out HNE.out (by have := HLL.out; have := HLN.out; omega))
      have KR2 := Lib.hid (rf_rest r2 O w2 hp HNE2.out (by have := HLL2.out; have := HLN2.out; omega))
      rw [HRN.out, HRO.out] at KR
      rw [HRN2.out, HRO2.out] at KR2
      obtain ⟨q2, cq2, rfl⟩ := hp.slice
      rw [HLN2.out] at KR2 HQ ⊢
      clear hb hp
      go_wp2_with fail
      refine KR.out.mono ?_
      rintro e w3 ⟨rfl, hw3⟩
      subst w3
      go_wp2_with fail
      refine KR2.out.mono ?_
      rintro e w3 ⟨rfl, hw3⟩
      subst w3
      by_cases h1 : m < N
      · have HF := Lib.hid (HN.out.trans (Ro.covers_few HRT.out HRT2.out HNE2.out (by rw [HRN2.out, HRN.out]; exact h1)))
        have h2 : (m : Int) < (N : Int) := by omega
        clear h1
        go_wp2_with fail
        go_ret
        exact ⟨by rw [HF.out]; rfl, HB.out⟩
      have h2 : ¬ (m : Int) < (N : Int) := by omega
      have HNM := Lib.hid (show N ≤ m by omega)
      clear h1
      by_cases h3 : d = false ∧ (N < m ∨ d2 = true)
      · obtain ⟨rfl, h4⟩ := h3
        have HF := Lib.hid (HN.out.trans (Ro.covers_many HRT.out HRT2.out HNE2.out HRO.out (by
          rw [HRN.out, HRN2.out, HRO2.out]
          rcases h4 with h | h
          · exact .inl h
          · exact .inr ⟨HNM.out, h⟩)))
        by_cases h5 : (N : Int) < (m : Int)
        · clear h4
          go_wp2_with fail
          go_ret
          exact ⟨by rw [HF.out]; rfl, HB.out⟩
        · obtain rfl : d2 = true := by rcases h4 with h | h; omega; exact h
          clear h4
          go_wp2_with fail
          go_ret
          exact ⟨by rw [HF.out]; rfl, HB.out⟩
      · have HC := Lib.hid (show Ro.rOpen L = true ∨ (Ro.rN O = Ro.rN L ∧ Ro.rOpen O = false) by
          rw [HRO.out, HRN2.out, HRN.out, HRO2.out]
          cases d with
          | true => exact .inl rfl
          | false =>
            refine .inr ⟨?_, ?_⟩
            · have h4 : ¬ N < m := fun h => h3 ⟨rfl, .inl h⟩
              have := HNM.out; omega
            · cases d2 with
              | false => rfl
              | true => exact absurd ⟨rfl, .inr rfl⟩ h3)
        have HCD := Lib.hid (show d = true ∨ (d = false ∧ ¬ (N : Int) < (m : Int) ∧ d2 = false) by
          cases d with
          | true => exact .inl rfl
          | false =>
            refine .inr ⟨rfl, fun h => h3 ⟨rfl, .inl (by omega)⟩, ?_⟩
            cases d2 with
            | false => rfl
            | true => exact absurd ⟨rfl, .inr rfl⟩ h3)
        clear h3
        rcases HCD.out with hd1 | ⟨hd1, h5, hd2⟩
        case' inl => subst hd1
        case' inr => subst hd1; subst hd2
        all_goals
          go_wp2_with fail
          go_loopw [13] (fun i wr => ∃ k j : Nat, k ≤ N ∧ i = .int .i64 k ∧ wr = w2.drewN j ∧ Ro.CAt L O k) (fun i _ => N - (intOf i).toNat)
          case atStart => exact ⟨0, 0, Nat.zero_le _, rfl, rfl, Ro.cAt_start _ _⟩
          case round =>
            obtain ⟨k, j, hk, rfl, rfl, hat⟩ := hrel
            have HAT := Lib.hid hat
            clear hat
            by_cases hlt : k < N
            · have hkn : k < n := by have := HNR.out; rw [HRN.out] at this; omega
              have hkm : k < n2 := by have := HNM.out; have := HNR2.out; rw [HRN2.out] at this; omega
              have hkn1 : (k : Int) < (n : Int) := by omega
              have hkm1 : (k : Int) < (n2 : Int) := by omega
              have HLK := Lib.hid (show k < L.length by rw [HLN.out]; exact hkn)
              have HPK := Lib.hid (show k < O.length by rw [HLN2.out]; exact hkm)
              obtain ⟨b, off, rfl, _, _, _, hc⟩ := HP.out.cells HLK.out
              obtain ⟨g, o, rfl, _, _, _, hcu⟩ := HQ.out.cells HPK.out
              have x0 := (hc k HLK.out).1
              have x1 := (hc k HLK.out).2
              have y0 := (hcu k HPK.out).1
              have y1 := (hcu k HPK.out).2
              have HK3 := Lib.hid (show (L[k]'HLK.out).1 ≠ 3 by rw [← Ro.gd HLK.out]; exact Ro.r_no3 HRT.out (by rw [HRN.out]; exact hlt))
              have HP3 := Lib.hid (show (O[k]'HPK.out).1 ≠ 3 by rw [← Ro.gd HPK.out]; exact Ro.r_no3 HRT2.out (by rw [HRN2.out]; have := HNM.out; omega))
              have HG := Lib.hid (Ro.gd HLK.out)
              have HGU := Lib.hid (Ro.gd HPK.out)
              obtain ⟨⟨kd, tl⟩, hq⟩ : ∃ q, L.getD k (0, []) = q := ⟨_, rfl⟩
              obtain ⟨⟨pd, pl⟩, hpl⟩ : ∃ q, O.getD k (0, []) = q := ⟨_, rfl⟩
              rw [hq] at x0 x1 HG
              rw [hpl] at y0 y1 HGU
              simp only at x0 x1 y0 y1
              obtain ⟨tb, htb, htl⟩ := sv_is tl
              obtain ⟨pb, hpb, hpd⟩ := sv_is pl
              rw [htb] at x1
              rw [hpb] at y1
              have HTL := Lib.hid htl
              have HPD := Lib.hid hpd
              clear hc hcu hq hpl htb htl hpb hpd
              by_cases h1 : kd = 1
              · subst h1
                obtain ⟨e, he⟩ : ∃ d, decide (((1, tl) : Ro.Pt) = (pd, pl)) = d := ⟨_, rfl⟩
                have hq := part_ne 1 pd tb pb
                rw [HTL.out, HPD.out, he] at hq
                have HD := Lib.hid he
                clear he
                cases e with
                | false =>
                  have HNO := Lib.hid (HN.out.trans (Ro.cAt_differ HAT.out HLK.out HK3.out HPK.out (by rw [← HG.out]) (by rw [← HG.out, ← HGU.out]; exact of_decide_eq_false HD.out)))
                  go_wp2_with fail
                  go_quiet (fail)
                  go_wp2_with fail
                  go_ret
                  exact ⟨by rw [HNO.out]; rfl, below_drewN (below_drewN HB.out _) _⟩
                | true =>
                  have HNX := Lib.hid (Ro.cAt_next HAT.out HLK.out HK3.out HPK.out HP3.out (fun _ => by rw [← HG.out, ← HGU.out]; exact of_decide_eq_true HD.out))
                  go_wp2_with fail
                  go_quiet (fail)
                  go_wp2_with fail
                  go_roundw
                  case rel => exact ⟨k + 1, j + nq, hlt, by go_num, by first | rfl | rw [World.drewN_drewN], HNX.out⟩
                  case measure => simp [intOf]; omega
              · have hn1 : ((kd : Int) == 1) = false := beq_eq_false_iff_ne.2 h1
                have HNX := Lib.hid (Ro.cAt_next HAT.out HLK.out HK3.out HPK.out HP3.out (fun h => absurd h (by rw [← HG.out]; exact h1)))
                clear h1
                go_wp2_with fail
                go_quiet (fail)
                go_wp2_with fail
                go_roundw
                case rel => exact ⟨k + 1, j + nq, hlt, by go_num, by first | rfl | rw [World.drewN_drewN], HNX.out⟩
                case measure => simp [intOf]; omega
            · obtain rfl : k = N := by omega
              have HY := Lib.hid (HN.out.trans (Ro.covers_end HNE.out (by rw [HRN.out]; exact HAT.out) HC.out))
              go_wp2_with fail
              go_ret
              exact ⟨by rw [HY.out]; rfl, below_drewN HB.out _⟩
end Go.Proofs.YtgfammlmbjmkoaaGreatDoor

/- route: tables: patterns made of texts, New. -/
namespace Go.Proofs.YtgfammlmbjmkoaaGreatDoor
set_option linter.unusedVariables false
set_option linter.unusedSimpArgs false
open Go.RowKit Go.Shelf
set_option maxHeartbeats 4000000
set_option maxRecDepth 100000
/-- patterns in a block of their own, each in a block of its own -/
def OPat (w : World) (B : Nat) (v : Value) (Ls : List (List Ro.Pt)) : Prop :=
  ∃ vals : List Value, vals.length = Ls.length ∧ w.ownsRow B 87 1 v Ls.length vals ∧ ∀ j, j < Ls.length → PtO w (vals.getD j undef) (Ls.getD j [])
theorem OPat.below {w w' : World} {B : Nat} {v : Value} {Ls : List (List Ro.Pt)} (h : OPat w B v Ls) (k : Below w.heap.size w w') : OPat w' B v Ls := by
  obtain ⟨vals, h1, h2, h3⟩ := h
  exact ⟨vals, h1, h2.belowed k, fun j hj => (h3 j hj).below k⟩
theorem own_cells {w : World} {B : Nat} {e : TypeId} {s : Nat} {v : Value} {n : Nat} {xs : List Value} (h : w.ownsRow B e s v n xs) {k : Nat} {cs : Array Value} {t : TypeId} {fr : Nat × Nat} (ht : t ≠ e) (hk : w.heap[k]? = some (.cells cs t fr)) : some k ≠ v.ownBlock := by
  rcases h.2 with ⟨rfl, _⟩ | ⟨g, cap, cur, rfl, _, hg, _⟩
  · simp [Value.ownBlock]
  · intro e2
    have : k = g := by simpa [Value.ownBlock] using e2
    subst this
    rw [hk] at hg
    simp at hg
    exact ht hg.2.1
theorem PtO.grown {w w' : World} {B : Nat} {v x : Value} {n : Nat} {vals : List Value} {L : List Ro.Pt} (h : PtO w x L) (ho : w.ownsRow B 87 1 v n vals) (hg : w.grownBy w' v.ownBlock) : PtO w' x L := by
  refine ⟨h.1, h.2.imp id ?_⟩
  rintro ⟨g, cap, cur, h1, h2, h3, h4⟩
  exact ⟨g, cap, cur, h1, h2, (hg.block g (Array.getElem?_eq_some_iff.1 h3).1 (own_cells ho (by decide) h3)).trans h3, h4⟩
theorem OPat.slice {w : World} {B : Nat} {v : Value} {Ls : List (List Ro.Pt)} (h : OPat w B v Ls) : ∃ p c, v = .slice p Ls.length c := by
  obtain ⟨vals, _, h2, _⟩ := h
  rcases h2.2 with ⟨rfl, h0⟩ | ⟨g, cap, cur, h1, _⟩
  · exact ⟨none, 0, by rw [h0]⟩
  · exact ⟨_, _, h1⟩
theorem new2_enter (args : Array Value) (W : World) : (callFunc 51 args).run Tryz.prog W = .ok (.enter 51 args) W := by
  simp [callFunc, go_sem, Tryz.func51]
  rw [if_neg (by decide), if_neg (by decide)]
theorem rt_new2 (s : ByteArray) (w : World) (hs : s.size ≤ 30000) (hk : KX w) :
    Calls Tryz.prog 51 #[.string s] w fun e w' =>
      ((∃ L r, Ro.parse s.data.toList = some L ∧ e = .returned r ∧ PtO w' r L) ∨ (Ro.parse s.data.toList = none ∧ e = rtNo)) ∧ Below w.heap.size w w' := by
  have K := Lib.hid (rt_read s w hs hk)
  clear hk
  go_enter Tryz.func51, Tryz.ntmps51
  go_wp2_with fail
  refine K.out.mono ?_
  rintro e w2 ⟨⟨L, r, hL, rfl, hp⟩ | ⟨hL, rfl⟩, hb⟩
  · have HL := Lib.hid hL
    have HP := Lib.hid hp
    have HB := Lib.hid hb
    obtain ⟨p, c, rfl⟩ := hp.pts.slice
    clear hL hp hb
    go_wp2_with fail
    go_ret
    exact ⟨.inl ⟨L, _, HL.out, rfl, HP.out⟩, HB.out⟩
  · exact ⟨rfl, .inr ⟨hL, rfl⟩, hb⟩
theorem getD_app {α : Type} {A : List α} {x d : α} {j : Nat} (h : j < A.length) : (A ++ [x]).getD j d = A.getD j d := by
  rw [List.getD_eq_getElem?_getD, List.getD_eq_getElem?_getD, List.getElem?_append_left h]
theorem getD_end {α : Type} {A : List α} {x d : α} {n : Nat} (h : n = A.length) : (A ++ [x]).getD n d = x := by
  subst h
  rw [List.getD_eq_getElem?_getD]; simp
theorem OPat.put {w w' : World} {B : Nat} {v v' x : Value} {Ls : List (List Ro.Pt)} {L : List Ro.Pt} {vals : List Value} (h1 : vals.length = Ls.length) (h2 : w.ownsRow B 87 1 v Ls.length vals) (h3 : ∀ j, j < Ls.length → PtO w (vals.getD j undef) (Ls.getD j [])) (hx : PtO w x L)
    (hown : w'.ownsRow B 87 1 v' (Ls.length + 1) (vals ++ [x])) (hg : w.grownBy w' v.ownBlock) : OPat w' B v' (Ls ++ [L]) := by
  refine ⟨vals ++ [x], by simp [h1], by rw [List.length_append]; exact hown, fun j hj => ?_⟩
  rw [List.length_append, List.length_singleton] at hj
  by_cases e : j < Ls.length
  · rw [getD_app (by omega), getD_app e]
    exact (h3 j e).grown h2 hg
  · have : j = Ls.length := by omega
    rw [getD_end (by omega), getD_end this]
    exact hx.grown h2 hg
theorem rt_madeT (v : Value) (L : List (List UInt8)) (w : World) (hv : XS w v L) (hL : L.length ≤ 100000) (hl : ∀ s ∈ L, s.length ≤ 30000) (hk : KX w) :
    Calls Tryz.prog 50 #[.func (.func 51) #[] #[], v] w fun e w' =>
      ((∃ R r, Gt.all? Ro.parse L = some R ∧ e = .returned r ∧ OPat w' w.heap.size r R) ∨ (Gt.all? Ro.parse L = none ∧ e = rtNo)) ∧ Below w.heap.size w w' := by
  have hce := new2_enter
  obtain ⟨i0, hi, hz0, hz1, hz2⟩ := info_parts (show (Tryz.prog.info? 87).map (fun i => (i.zero, i.size, i.bytes)) = some (some (.slice none 0 0), 1, 24) by kernel_rfl)
  obtain ⟨B, hB⟩ : ∃ B, w.heap.size = B := ⟨_, rfl⟩
  rw [hB]
  have HK := Lib.hid hk
  clear hk
  rcases hv with ⟨p0, c0, rfl, rfl⟩ | ⟨b, off, cap, rfl, hc⟩
  · go_enter Tryz.func50, Tryz.ntmps50
    go_wp2_with fail
    go_loopw [4, 9] (fun v i wr => v = .slice none 0 0 ∧ i = .int .i64 0 ∧ wr = w) (fun _ _ _ => 0)
    case atStart => exact ⟨rfl, rfl, rfl⟩
    case round =>
      obtain ⟨rfl, rfl, rfl⟩ := hrel
      go_wp2_with fail
      go_ret
      exact ⟨.inl ⟨[], _, rfl, rfl, [], rfl, World.ownsRow_nil _ _ _ _, fun j hj => by simp at hj⟩, Below.refl _ _⟩
  · have HC := Lib.hid hc
    have HLL := Lib.hid hl
    obtain ⟨N, hN⟩ : ∃ N, L.length = N := ⟨_, rfl⟩
    have HNL := Lib.hid hN
    rw [hN] at hL ⊢
    clear hc hl hN
    go_enter Tryz.func50, Tryz.ntmps50
    go_wp2_with fail
    go_loopw [4, 9] (fun v i wr => ∃ (k : Nat) (acc : List (List Ro.Pt)), k ≤ N ∧ i = .int .i64 k ∧ Gt.AAt Ro.parse L acc k ∧ OPat wr B v acc ∧ Below B w wr)
      (fun _ i _ => N - (intOf i).toNat)
    case atStart => exact ⟨0, [], Nat.zero_le _, rfl, Gt.aAt_start _ _, ⟨[], rfl, World.ownsRow_nil _ _ _ _, fun j hj => by simp at hj⟩, Below.refl _ _⟩
    case round =>
      obtain ⟨k, acc, hk, rfl, hat, hown, hbl⟩ := hrel
      have HA := Lib.hid hat
      have HO := Lib.hid hown
      have HBL := Lib.hid hbl
      clear hat hown hbl
      by_cases hlt : k < N
      · have HKL := Lib.hid (show k < L.length by have := HNL.out; omega)
        have hbw : b < B := by rw [← hB]; exact lt_of_cell (HC.out k HKL.out)
        have hck : wr.cell? ⟨b, off + k, none⟩ = some (sv (L.getD k [])) := (HBL.out.cell (p := ⟨b, off + k, none⟩) hbw).trans (HC.out k HKL.out)
        obtain ⟨S, hS, hSd⟩ := sv_is (L.getD k [])
        rw [hS] at hck
        have HMK := Lib.hid (show L[k]'HKL.out = S.data.toList by rw [hSd, getD_is L [] k HKL.out])
        have HSS := Lib.hid (show S.size ≤ 30000 by
          have h1 := HLL.out (L[k]'HKL.out) (List.getElem_mem _)
          rw [HMK.out] at h1; exact h1)
        have K := Lib.hid (rt_new2 S wr HSS.out (HK.out.below (hB ▸ HBL.out)))
        clear hS hSd hbw
        go_wp2_with fail
        refine K.out.mono ?_
        rintro e w2 ⟨⟨q, r, hg, rfl, hp⟩ | ⟨hg, rfl⟩, hb2⟩
        · have HN := Lib.hid (Gt.aAt_next HA.out HKL.out (by rw [HMK.out]; exact hg))
          have HB2 := Lib.hid (HBL.out.trans (hb2.mono (hB ▸ HBL.out.size)))
          obtain ⟨vals, hv1, hv2, hv3⟩ := HO.out.below hb2
          have HV1 := Lib.hid hv1
          have HV2 := Lib.hid hv2
          have HV3 := Lib.hid hv3
          have HP := Lib.hid hp
          obtain ⟨pp, pc, rfl⟩ := hp.pts.slice
          clear hg hp hb2 K hv1 hv2 hv3
          go_wp2_with (at_builtin; refine wpList_append_own _ rfl _ _ 70 rfl B 87 i0 (.slice none 0 0) 1 24 Tryz.underlying70 hi hz0 hz1 hz2 rfl (by decide) _ _ _ rfl (HV2.out.alloc _) ⟨w2.heap.size, 0, none⟩ 1 1 [.slice pp q.length pc] rfl rfl ?c1 ?c2 ?c3 ?c4 ?c5 ?_)
          case c1 =>
            intro j u hj
            match j, hj with
            | 0, hj => simp at hj; subst hj; simp [Addr.add]
          case c2 => intro u hu; simp at hu; subst hu; rfl
          case c3 => have := HA.out.2.1; unfold maxLen; omega
          case c4 => have := HA.out.2.1; omega
          case c5 => have := HB2.out.size; simp; omega
          intro v' w3 hown' hgrow _
          have HB3 := Lib.hid (show Below B w w3 from Below.grown (HB2.out.alloc (by have := HB2.out.size; omega) _) hgrow (by have := HB2.out.size; simp; omega) (own_geP HV2.out))
          have ha := (Below.refl w2.heap.size w2).alloc (Nat.le_refl _) (.cells #[.slice pp q.length pc] 87)
          have HO3 := Lib.hid (show OPat w3 B v' (acc ++ [q]) from OPat.put HV1.out (HV2.out.alloc _) (fun j hj => (HV3.out j hj).below ha) (HP.out.below ha) hown' hgrow)
          clear hgrow hown' ha
          go_wp2
          go_roundw
          case rel => exact ⟨k + 1, acc ++ [q], hlt, by go_num, HN.out, HO3.out, HB3.out⟩
          case measure => simp [intOf]; omega
        · exact ⟨rfl, .inr ⟨Gt.aAt_bad HA.out HKL.out (by rw [HMK.out]; exact hg), rfl⟩, HBL.out.trans (hb2.mono (hB ▸ HBL.out.size))⟩
      · have HE := Lib.hid (Gt.aAt_end HA.out (by rw [HNL.out]; omega))
        obtain ⟨p, c, rfl⟩ := HO.out.slice
        go_wp2_with fail
        go_ret
        exact ⟨.inl ⟨acc, _, HE.out, rfl, HO.out⟩, HBL.out⟩
end Go.Proofs.YtgfammlmbjmkoaaGreatDoor

/- route: New, none, Len, first, Find. -/
namespace Go.Proofs.YtgfammlmbjmkoaaGreatDoor
set_option linter.unusedVariables false
set_option linter.unusedSimpArgs false
open Go.RowKit Go.Shelf
set_option maxHeartbeats 4000000
set_option maxRecDepth 100000
theorem own_setT {w : World} {B : Nat} {e : TypeId} {s : Nat} {v : Value} {n : Nat} {xs : List Value} (h : w.ownsRow B e s v n xs) {k : Nat} {cs : Array Value} {t : TypeId} {fr : Nat × Nat} (hk : w.heap[k]? = some (.cells cs t fr)) (ht : t ≠ e) (i : Nat) (y : Value) : (w.setCell ⟨k, i, none⟩ y).ownsRow B e s v n xs := by
  have hne := own_cells h ht hk
  refine ⟨h.1, h.2.imp id ?_⟩
  rintro ⟨g, cap, cur, rfl, h2, h3, h4⟩
  refine ⟨g, cap, cur, rfl, h2, (Below.heap_setCell _ _ _ _ ?_).trans h3, h4⟩
  intro e2
  apply hne
  have : g = k := by simpa using e2
  simp [Value.ownBlock, this]
theorem OPat.set1 {w : World} {B : Nat} {v : Value} {Ls : List (List Ro.Pt)} (h : OPat w B v Ls) {k : Nat} {cs : Array Value} {t : TypeId} {fr : Nat × Nat} (hk : w.heap[k]? = some (.cells cs t fr)) (h1 : t ≠ 87) (h2 : t ≠ 35) (i : Nat) (y : Value) : OPat (w.setCell ⟨k, i, none⟩ y) B v Ls := by
  obtain ⟨vals, h3, h4, h5⟩ := h
  exact ⟨vals, h3, own_setT h4 hk h1 i y, fun j hj => own_setT (h5 j hj) hk h2 i y⟩
/-- a table in memory -/
def TB (w : World) (T : Nat) (Ls : List (List Ro.Pt)) : Prop := ∃ B v, w.heap[T]? = some (.cells #[v, .bool true] 74 (0, 0)) ∧ OPat w B v Ls
theorem TB.below {w w' : World} {T : Nat} {Ls : List (List Ro.Pt)} (h : TB w T Ls) (k : Below w.heap.size w w') : TB w' T Ls := by
  obtain ⟨B, v, h1, h2⟩ := h
  exact ⟨B, v, (k.block T (Array.getElem?_eq_some_iff.1 h1).1).trans h1, h2.below k⟩
theorem TB.lt {w : World} {T : Nat} {Ls : List (List Ro.Pt)} (h : TB w T Ls) : T < w.heap.size := by
  obtain ⟨B, v, h1, h2⟩ := h
  exact (Array.getElem?_eq_some_iff.1 h1).1
theorem TB.set1 {w : World} {T : Nat} {Ls : List (List Ro.Pt)} (h : TB w T Ls) {k : Nat} {cs : Array Value} {t : TypeId} {fr : Nat × Nat} (hk : w.heap[k]? = some (.cells cs t fr)) (h1 : t ≠ 87) (h2 : t ≠ 35) (h3 : t ≠ 74) (i : Nat) (y : Value) : TB (w.setCell ⟨k, i, none⟩ y) T Ls := by
  obtain ⟨B, v, h4, h5⟩ := h
  refine ⟨B, v, (Below.heap_setCell _ _ _ _ ?_).trans h4, h5.set1 hk h1 h2 i y⟩
  intro e
  have : T = k := by simpa using e
  subst this
  rw [h4] at hk
  simp at hk
  exact h3 hk.2.1.symm
theorem rt_clearN (a : Addr) (w : World) (old : Value) (hc : w.cell? a = some old) (hz : w.frozen? a = false) :
    Calls Tryz.prog 49 #[.pointer (some a)] w fun e w' => e = .returned (.tuple #[]) ∧ w' = w.setCell a (.pointer none) := by
  go_enter Tryz.func49, Tryz.ntmps49
  go_wp2
  simp [bodyPost, results, Tryz.results49, go_sem]
theorem clearN_enter (cap : Array Value) (W : World) : (callFunc 49 cap).run Tryz.prog W = .ok (.enter 49 cap) W := by
  simp [callFunc, go_sem, Tryz.func49]
  rw [if_neg (by decide), if_neg (by decide)]
/-- what New tells -/
def NwOut (B : Nat) (L : List (List UInt8)) (e : Ending) (w : World) : Prop :=
  (∃ R T, L.length ≤ 256 ∧ Gt.all? Ro.parse L = some R ∧ e = .returned (.tuple #[.pointer (some ⟨T, 0, none⟩), .int .i64 0]) ∧ TB w T R ∧ B ≤ T) ∨
  (L.length ≤ 256 ∧ Gt.all? Ro.parse L = none ∧ e = .returned (.tuple #[.pointer none, .int .i64 360])) ∨ (256 < L.length ∧ e = .returned (.tuple #[.pointer none, .int .i64 3]))
theorem new_door (n : Int) (w W : World) (Q : Ending → World → Prop) (hQ : Q (.returned (.tuple #[.pointer none, .int .i64 n])) ((W.setCell ⟨w.heap.size, 0, none⟩ (.pointer none)).setCell ⟨w.heap.size + 1, 0, none⟩ (.int .i64 n))) (hT : W.heap[w.heap.size]? = some (.cells #[.pointer none] 47 (0, 0))) (hE : W.heap[w.heap.size + 1]? = some (.cells #[.int .i64 0] 24 (0, 0)))
    (x0 x4 x5 x6 x7 x8 x9 x10 x11 x12 x13 : Value) :
    bodyPostD Tryz.prog Tryz.f24 Q (.panic [{ v := errno n, recovered := false }])
      { tmps := #[x0, undef, .pointer (some ⟨w.heap.size, 0, none⟩), .pointer (some ⟨w.heap.size + 1, 0, none⟩), x4, x5, x6, x7, x8, x9, x10, x11, x12, x13], defers := [{ target := Target.fn (Fn.func 35) #[], args := #[.pointer (some ⟨w.heap.size + 1, 0, none⟩), .func (.func 49) #[] #[.pointer (some ⟨w.heap.size, 0, none⟩)]] }] } W := by
  have c0 : W.cell? ⟨w.heap.size, 0, none⟩ = some (.pointer none) := by simp [World.cell?, hT]
  have c1 : W.cell? ⟨w.heap.size + 1, 0, none⟩ = some (.int .i64 0) := by simp [World.cell?, hE]
  have z0 : W.frozen? ⟨w.heap.size, 0, none⟩ = false := frozen_of_row _ _ _ _ _ hT
  have z1 : W.frozen? ⟨w.heap.size + 1, 0, none⟩ = false := frozen_of_row _ _ _ _ _ hE
  refine leaves_cons (f := 35) (args := #[.pointer (some ⟨w.heap.size + 1, 0, none⟩), .func (.func 49) #[] #[.pointer (some ⟨w.heap.size, 0, none⟩)]]) (by simp) (by simp [go_sem]) ?_
  have c2 : (W.setCell ⟨w.heap.size, 0, none⟩ (.pointer none)).cell? ⟨w.heap.size + 1, 0, none⟩ = some (.int .i64 0) := by rw [World.cell?_setCell_other]; exact c1; simp
  have z2 : (W.setCell ⟨w.heap.size, 0, none⟩ (.pointer none)).frozen? ⟨w.heap.size + 1, 0, none⟩ = false := by simpa using z1
  refine (rt_caught ⟨w.heap.size + 1, 0, none⟩ 49 #[.pointer (some ⟨w.heap.size, 0, none⟩)] n [] W (W.setCell ⟨w.heap.size, 0, none⟩ (.pointer none)) (clearN_enter _) (rt_clearN _ _ _ c0 z0) (.int .i64 0) c2 z2).mono ?_
  rintro e u' w'' ⟨rfl, rfl, rfl⟩
  simp [Leaves, settle, results, Tryz.results24, go_sem, c0, c1]
  exact hQ
theorem rt_New (v : Value) (L : List (List UInt8)) (w : World) (hv : XS w v L) (hL : L.length ≤ 100000) (hl : ∀ s ∈ L, s.length ≤ 30000) (hk : KX w) :
    Calls Tryz.prog 24 #[v] w fun e w' => NwOut w.heap.size L e w' ∧ Below w.heap.size w w' := by
  have hmf : ∀ (fn : Fn) (first cap : Array Value) (w : World), (Instr.makeFunc fn first cap).run Tryz.prog w = .ok (.func fn first cap) w := fun _ _ _ _ => rfl
  obtain ⟨W3, hW3⟩ : ∃ W, (w.alloc (.cells #[.pointer none] 47)).alloc (.cells #[.int .i64 0] 24) = W := ⟨_, rfl⟩
  have HSZ := Lib.hid (show W3.heap.size = w.heap.size + 2 by rw [← hW3]; simp)
  have HB := Lib.hid (show Below w.heap.size w W3 by
    rw [← hW3]
    exact ((Below.refl _ _).alloc (Nat.le_refl _) _).alloc (by simp) _)
  have HC0 := Lib.hid (show W3.heap[w.heap.size]? = some (.cells #[.pointer none] 47 (0, 0)) by
    rw [← hW3, Below.heap_alloc _ _ _ (by simp)]
    exact World.alloc_heap_new _ _)
  have HC1 := Lib.hid (show W3.heap[w.heap.size + 1]? = some (.cells #[.int .i64 0] 24 (0, 0)) by
    rw [← hW3]
    have := World.alloc_heap_new (w.alloc (.cells #[.pointer none] 47)) (.cells #[.int .i64 0] 24)
    simpa using this)
  have HW3 := Lib.hid hW3
  obtain ⟨p, c, rfl⟩ := hv.slice
  obtain ⟨N, hN⟩ : ∃ N, L.length = N := ⟨_, rfl⟩
  have HN := Lib.hid hN
  have KM := Lib.hid (rt_madeT _ L W3 (hv.below HB.out) hL hl (hk.below HB.out))
  rw [hN] at KM hL ⊢
  clear hW3 hv hl hk hN
  by_cases h256 : N ≤ 256
  · have h1 : decide ((N : Int) ≤ 256) = true := decide_eq_true (by omega)
    have HLE := Lib.hid (show L.length ≤ 256 by rw [HN.out]; exact h256)
    clear h256
    go_enter_defers Tryz.func24, Tryz.ntmps24
    go_wp2_with fail
    rw [HW3.out]
    refine (rt_must 3 _).mono ?_
    rintro e w4 ⟨rfl, hw4⟩
    subst w4
    go_wp2_with fail
    refine KM.out.mono ?_
    rintro e w5 ⟨⟨R, r, hR, rfl, ho⟩ | ⟨hR, rfl⟩, hb⟩
    · have HB5 := Lib.hid (HB.out.trans (hb.mono HB.out.size))
      have HD0 := Lib.hid ((hb.block _ (by rw [HSZ.out]; omega)).trans HC0.out)
      have HD1 := Lib.hid ((hb.block _ (by rw [HSZ.out]; omega)).trans HC1.out)
      have HO := Lib.hid ho
      have HR := Lib.hid hR
      have HZ5 := Lib.hid (show w.heap.size + 2 ≤ w5.heap.size by rw [← HSZ.out]; exact hb.size)
      obtain ⟨q, d, rfl⟩ := ho.slice
      obtain ⟨W6, hW6⟩ : ∃ Z, w5.alloc (.cells #[.slice q R.length d, .bool true] 74) = Z := ⟨_, rfl⟩
      have hb6 : Below w5.heap.size w5 W6 := by rw [← hW6]; exact (Below.refl _ _).alloc (Nat.le_refl _) _
      have HT := Lib.hid (show TB W6 w5.heap.size R from ⟨_, _, by rw [← hW6]; exact World.alloc_heap_new _ _, HO.out.below hb6⟩)
      have hd0 := (hb6.block _ (by have := HZ5.out; omega)).trans HD0.out
      have hd1 := (hb6.block _ (by have := HZ5.out; omega)).trans HD1.out
      have HE0 := Lib.hid hd0
      have HE1 := Lib.hid hd1
      have HB6 := Lib.hid (HB5.out.trans (hb6.mono HB5.out.size))
      have c0 : W6.cell? ⟨w.heap.size, 0, none⟩ = some (.pointer none) := by simp [World.cell?, hd0]
      have c1 : W6.cell? ⟨w.heap.size + 1, 0, none⟩ = some (.int .i64 0) := by simp [World.cell?, hd1]
      have z0 : W6.frozen? ⟨w.heap.size, 0, none⟩ = false := frozen_of_row _ _ _ _ _ hd0
      have z1 : W6.frozen? ⟨w.heap.size + 1, 0, none⟩ = false := frozen_of_row _ _ _ _ _ hd1
      have HW6 := Lib.hid hW6
      clear hb ho hR hb6 hd0 hd1 hW6 KM
      go_wp2_with (rw [HW6.out])
      refine leaves_cons (f := 35) (args := #[.pointer (some ⟨w.heap.size + 1, 0, none⟩), .func (.func 49) #[] #[.pointer (some ⟨w.heap.size, 0, none⟩)]]) (by simp) (by simp [go_sem]) ?_
      refine (rt_caught_idle _ _ _).mono ?_
      rintro e u' w'' ⟨rfl, rfl, rfl⟩
      simp [Leaves, settle, results, Tryz.results24, go_sem, c0, c1]
      exact ⟨.inl ⟨R, _, HLE.out, HR.out, rfl, (HT.out.set1 HE0.out (by decide) (by decide) (by decide) 0 _).set1 (by rw [Below.heap_setCell _ _ _ _ (by simp)]; exact HE1.out) (by decide) (by decide) (by decide) 0 _, HB5.out.size⟩, (HB6.out.setCell (Nat.le_refl _) _).setCell (Nat.le_succ _) _⟩
    · have k := new_door 360 w w5 (fun e w' => NwOut w.heap.size L e w' ∧ Below w.heap.size w w') ⟨.inr (.inl ⟨HLE.out, hR, rfl⟩), (((HB.out.trans (hb.mono HB.out.size)).setCell (Nat.le_refl _) _).setCell (Nat.le_succ _) _)⟩ ((hb.block _ (by rw [HSZ.out]; omega)).trans HC0.out) ((hb.block _ (by rw [HSZ.out]; omega)).trans HC1.out)
      exact k _ _ _ _ _ _ _ _ _ _ _
  · have h1 : decide ((N : Int) ≤ 256) = false := decide_eq_false (by omega)
    have HGT := Lib.hid (show 256 < L.length by rw [HN.out]; omega)
    clear h256
    go_enter_defers Tryz.func24, Tryz.ntmps24
    go_wp2_with fail
    rw [HW3.out]
    refine (rt_must_no 3 _).mono ?_
    rintro e w4 ⟨rfl, hw4⟩
    subst w4
    have k := new_door 3 w W3 (fun e w' => NwOut w.heap.size L e w' ∧ Below w.heap.size w w') ⟨.inr (.inr ⟨HGT.out, rfl⟩), ((HB.out.setCell (Nat.le_refl _) _).setCell (Nat.le_succ _) _)⟩ HC0.out HC1.out
    exact k _ _ _ _ _ _ _ _ _ _ _
theorem rt_none (T : Nat) (w : World) (v : Value) (b : Bool) (h : w.heap[T]? = some (.cells #[v, .bool b] 74 (0, 0))) :
    Calls Tryz.prog 53 #[.pointer (some ⟨T, 0, none⟩)] w fun e w' => e = .returned (.bool !b) ∧ w' = w := by
  have c1 : w.cell? ⟨T, 1, none⟩ = some (.bool b) := by simp [World.cell?, h]
  go_enter Tryz.func53, Tryz.ntmps53
  go_wp2
  go_ret
  exact ⟨rfl, rfl⟩
theorem rt_none_nil (w : World) :
    Calls Tryz.prog 53 #[.pointer none] w fun e w' => e = .returned (.bool true) ∧ w' = w := by
  go_enter Tryz.func53, Tryz.ntmps53
  go_wp2
  go_ret
  exact ⟨rfl, rfl⟩
theorem rt_Len (T : Nat) (Ls : List (List Ro.Pt)) (w : World) (h : TB w T Ls) (hl : Ls.length ≤ 100000) :
    Calls Tryz.prog 31 #[.pointer (some ⟨T, 0, none⟩)] w fun e w' => e = .returned (.int .i64 Ls.length) ∧ w' = w := by
  obtain ⟨B, v, h1, h2⟩ := h
  obtain ⟨p, c, rfl⟩ := h2.slice
  have KN := Lib.hid (rt_none T w _ true h1)
  have c0 : w.cell? ⟨T, 0, none⟩ = some (.slice p Ls.length c) := by simp [World.cell?, h1]
  clear h1 h2
  go_enter Tryz.func31, Tryz.ntmps31
  go_wp2_with fail
  refine KN.out.mono ?_
  rintro e w2 ⟨rfl, hw2⟩
  subst w2
  go_wp2_with fail
  go_ret
  exact ⟨rfl, rfl⟩
/-- a slice of patterns that is read -/
def PSl (w : World) (v : Value) (Ls : List (List Ro.Pt)) : Prop :=
  (∃ p c, v = .slice p 0 c ∧ Ls = []) ∨ ∃ b off cap, v = .slice (some ⟨b, off, none⟩) Ls.length cap ∧ Ls.length ≤ cap ∧ cap ≤ maxLen ∧ ∀ j, j < Ls.length → ∃ x, w.cell? ⟨b, off + j, none⟩ = some x ∧ PtS w x (Ls.getD j [])
theorem PSl.below {w w' : World} {v : Value} {Ls : List (List Ro.Pt)} (h : PSl w v Ls) (k : Below w.heap.size w w') : PSl w' v Ls := by
  rcases h with h | ⟨b, off, cap, h1, h2, h4, h3⟩
  · exact .inl h
  · refine .inr ⟨b, off, cap, h1, h2, h4, fun j hj => ?_⟩
    obtain ⟨x, h5, h6⟩ := h3 j hj
    exact ⟨x, cell_below k h5, h6.below k⟩
theorem OPat.psl {w : World} {B : Nat} {v : Value} {Ls : List (List Ro.Pt)} (h : OPat w B v Ls) : PSl w v Ls := by
  obtain ⟨vals, h1, h2, h3⟩ := h
  rcases h2.2 with ⟨rfl, h0⟩ | ⟨g, cap, cur, rfl, _, hg, hc, hm, hs, ht⟩
  · exact .inl ⟨none, 0, rfl, List.length_eq_zero_iff.1 h0⟩
  · refine .inr ⟨g, 0, cap, rfl, hc, hm, fun j hj => ⟨vals.getD j undef, ?_, (h3 j hj).pts⟩⟩
    have h4 : vals[j]? = some (vals.getD j undef) := by
      rw [List.getD_eq_getElem?_getD, List.getElem?_eq_getElem (by omega)]; rfl
    have h5 : cur.toList[j]? = some (vals.getD j undef) := by
      rw [← h4, ← ht, List.getElem?_take_of_lt (by omega)]
    rw [Nat.zero_add]
    simp only [World.cell?, hg, Option.isSome_none, Bool.false_eq_true, if_false]
    rw [Array.getElem?_toList] at h5
    exact h5
theorem PSl.slice {w : World} {v : Value} {Ls : List (List Ro.Pt)} (h : PSl w v Ls) : ∃ p c, v = .slice p Ls.length c := by
  rcases h with ⟨p, c, rfl, rfl⟩ | ⟨b, off, cap, rfl, _⟩
  · exact ⟨_, _, rfl⟩
  · exact ⟨_, _, rfl⟩
theorem PSl.cells {w : World} {p : Option Addr} {n c : Nat} {Ls : List (List Ro.Pt)} (h : PSl w (.slice p n c) Ls) {k : Nat} (hk : k < Ls.length) : ∃ b off, p = some ⟨b, off, none⟩ ∧ b < w.heap.size ∧ ∀ j, j < Ls.length → ∃ x, w.cell? ⟨b, off + j, none⟩ = some x ∧ PtS w x (Ls.getD j []) := by
  rcases h with ⟨p, c, _, rfl⟩ | ⟨b, off, cap, h1, h2, h4, h3⟩
  · simp at hk
  · cases h1
    obtain ⟨x, h5, _⟩ := h3 k hk
    exact ⟨b, off, rfl, lt_of_cell h5, h3⟩
theorem PSl.cap {w : World} {p : Option Addr} {n c : Nat} {Ls : List (List Ro.Pt)} (h : PSl w (.slice p n c) Ls) (h0 : 0 < Ls.length) : Ls.length ≤ c ∧ c ≤ maxLen := by
  rcases h with ⟨p, c, _, rfl⟩ | ⟨b, off, cap, h1, h2, h4, h3⟩
  · simp at h0
  · cases h1; exact ⟨h2, h4⟩
theorem PSl.take {w : World} {p : Option Addr} {n c : Nat} {Ls : List (List Ro.Pt)} (h : PSl w (.slice p n c) Ls) {k : Nat} (hk : k ≤ Ls.length) : PSl w (.slice p k k) (Ls.take k) := by
  rcases h with ⟨p', c', e, rfl⟩ | ⟨b, off, cap, h1, h2, h4, h3⟩
  · have : k = 0 := by simpa using hk
    subst this
    exact .inl ⟨p, 0, rfl, rfl⟩
  · cases h1
    have hl : (Ls.take k).length = k := by rw [List.length_take]; omega
    refine .inr ⟨b, off, k, by rw [hl], by rw [hl]; exact Nat.le_refl _, by omega, fun j hj => ?_⟩
    rw [hl] at hj
    obtain ⟨x, h5, h6⟩ := h3 j (by omega)
    refine ⟨x, h5, ?_⟩
    rw [List.getD_eq_getElem?_getD, List.getElem?_take_of_lt hj, ← List.getD_eq_getElem?_getD]
    exact h6
namespace Ro
/-- the place of the first of which something is so; -1: there is none -/
def place (g : List Pt → Bool) (Ls : List (List Pt)) : Int := match Ls.findIdx? g with
  | some k => k
  | none => -1
theorem place_at {g : List Pt → Bool} {Ls : List (List Pt)} {k : Nat} (hk : k < Ls.length) (h : ∀ j, j < k → g (Ls.getD j []) = false) (hg : g (Ls.getD k []) = true) : place g Ls = k := by
  have : Ls.findIdx? g = some k := by
    rw [List.findIdx?_eq_some_iff_getElem]
    refine ⟨hk, ?_, fun j hj => ?_⟩
    · have e : Ls.getD k [] = Ls[k] := by rw [List.getD_eq_getElem?_getD, List.getElem?_eq_getElem hk]; rfl
      rw [← e]; exact hg
    · have e : Ls.getD j [] = Ls[j]'(by omega) := by rw [List.getD_eq_getElem?_getD, List.getElem?_eq_getElem (by omega)]; rfl
      have := h j hj
      rw [e] at this
      rw [this]; decide
  unfold place; rw [this]
theorem place_none {g : List Pt → Bool} {Ls : List (List Pt)} (h : ∀ j, j < Ls.length → g (Ls.getD j []) = false) : place g Ls = -1 := by
  have : Ls.findIdx? g = none := by
    rw [List.findIdx?_eq_none_iff]
    intro x hx
    obtain ⟨j, hj, rfl⟩ := List.mem_iff_getElem.1 hx
    have e : Ls.getD j [] = Ls[j] := by rw [List.getD_eq_getElem?_getD, List.getElem?_eq_getElem hj]; rfl
    have := h j hj
    rwa [e] at this
  unfold place; rw [this]
end Ro
theorem rt_index (f : FuncId) (cap : Array Value) (g : List Ro.Pt → Bool) (v : Value) (Ls : List (List Ro.Pt)) (w : World) (hv : PSl w v Ls) (hl : Ls.length ≤ 100000)
    (hce : ∀ args W, (callFunc f args).run Tryz.prog W = .ok (.enter f args) W)
    (hf : ∀ x L, L ∈ Ls → ∀ W, Below w.heap.size w W → PtS W x L → Calls Tryz.prog f (#[x] ++ cap) W fun e w' => e = .returned (.bool (g L)) ∧ Below W.heap.size W w') :
    Calls Tryz.prog 73 #[v, .func (.func f) #[] cap] w fun e w' => e = .returned (.int .i64 (Ro.place g Ls)) ∧ Below w.heap.size w w' := by
  obtain ⟨p, c, rfl⟩ := hv.slice
  obtain ⟨n, hn⟩ : ∃ n, Ls.length = n := ⟨_, rfl⟩
  obtain ⟨R, hR⟩ : ∃ R, Ro.place g Ls = R := ⟨_, rfl⟩
  rw [hn] at hv hl ⊢
  rw [hR]
  have HV := Lib.hid hv
  have HN := Lib.hid hn
  have HR := Lib.hid hR
  have HF := Lib.hid hf
  clear hv hn hR hf
  go_enter Tryz.func73, Tryz.ntmps73
  go_wp2_with fail
  go_loopw [8] (fun i wr => ∃ k : Nat, k ≤ n ∧ i = .int .i64 k ∧ Below w.heap.size w wr ∧ ∀ j, j < k → g (Ls.getD j []) = false) (fun i _ => n - (intOf i).toNat)
  case atStart => exact ⟨0, Nat.zero_le _, rfl, Below.refl _ _, fun j hj => by omega⟩
  case round =>
    obtain ⟨k, hk, rfl, hbl, hno⟩ := hrel
    have HBL := Lib.hid hbl
    have HNO := Lib.hid hno
    clear hno
    by_cases hlt : k < n
    · have HLK := Lib.hid (show k < Ls.length by rw [HN.out]; exact hlt)
      obtain ⟨b, off, rfl, hb, hc⟩ := HV.out.cells HLK.out
      obtain ⟨x, hx, hxp⟩ := hc k HLK.out
      have x0 := (hbl.cell (p := ⟨b, off + k, none⟩) hb).trans hx
      have K := Lib.hid (HF.out x (Ls.getD k []) (by rw [List.getD_eq_getElem?_getD, List.getElem?_eq_getElem HLK.out]; exact List.getElem_mem _) wr HBL.out (hxp.below HBL.out))
      obtain ⟨xp, xc, rfl⟩ := hxp.slice
      obtain ⟨d, hd⟩ : ∃ d, g (Ls.getD k []) = d := ⟨_, rfl⟩
      rw [hd] at K
      have HD := Lib.hid hd
      clear hbl hc hb hx hxp hd
      cases d with
      | true =>
        have HY := Lib.hid (HR.out.symm.trans (Ro.place_at HLK.out HNO.out HD.out))
        go_wp2_with fail
        refine K.out.mono ?_
        rintro e w2 ⟨rfl, hb2⟩
        have HB2 := Lib.hid (HBL.out.trans (hb2.mono HBL.out.size))
        clear hb2
        go_wp2_with fail
        go_ret
        exact ⟨by rw [HY.out]; rfl, HB2.out⟩
      | false =>
        go_wp2_with fail
        refine K.out.mono ?_
        rintro e w2 ⟨rfl, hb2⟩
        have HB2 := Lib.hid (HBL.out.trans (hb2.mono HBL.out.size))
        clear hb2
        go_wp2_with fail
        go_roundw
        case rel => exact ⟨k + 1, hlt, by go_num, HB2.out, fun j hj => by
          by_cases e : j = k
          · subst e; exact HD.out
          · exact HNO.out j (by omega)⟩
        case measure => simp [intOf]; omega
    · obtain rfl : k = n := by omega
      have HY := Lib.hid (HR.out.symm.trans (Ro.place_none (fun j hj => HNO.out j (by rw [← HN.out]; exact hj))))
      go_wp2_with fail
      go_ret
      exact ⟨by rw [HY.out]; rfl, HBL.out⟩
end Go.Proofs.YtgfammlmbjmkoaaGreatDoor

/- route: first, Find, At. -/
namespace Go.Proofs.YtgfammlmbjmkoaaGreatDoor
set_option linter.unusedVariables false
set_option linter.unusedSimpArgs false
open Go.RowKit Go.Shelf
set_option maxHeartbeats 4000000
set_option maxRecDepth 100000
theorem rg_call3 {P : Program} {o : Oper} {a : Act} {w : World} {K : Act → World → Prop} {Q : Exit → Act → World → Prop} (s t r k : Nat) (ty : Array TypeId) (u v x : Value) (R : Ending → World → Prop) (ho : o.op = Op.call { callee := .value (.func k), args := #[.tmp s, .tmp t, .tmp r], argTypes := ty }) (hu : a.tmps.getD s undef = u) (hv : a.tmps.getD t undef = v) (hx : a.tmps.getD r undef = x)
    (eg : ∀ args w, (callFunc k args).run P w = .ok (.enter k args) w) (hc : Calls P k #[u, v, x] w R) (hR : ∀ e w', R e w' → ∃ r, e = .returned r ∧ K (a.put o.dst r) w') : o.wp P a w K Q := by
  have e := rg_ev hv
  have e1 := rg_ev hu
  have e3 := rg_ev hx
  have e2 : a.eval (.func k) = .func (.func k) #[] #[] := rfl
  unfold Oper.wp execOp
  simp [ho, resolve, invoke, e2, e, e1, e3, eg, go_sem]
  refine hc.mono ?_
  intro z w' hz
  obtain ⟨r, rfl, hk⟩ := hR z w' hz
  exact hk
theorem rt_first (T : Nat) (p : Option Addr) (c m : Nat) (f : FuncId) (cap : Array Value) (g : List Ro.Pt → Bool) (Ls : List (List Ro.Pt)) (w : World) (hc : w.cell? ⟨T, 0, none⟩ = some (.slice p Ls.length c)) (hv : PSl w (.slice p Ls.length c) Ls) (hl : Ls.length ≤ 100000) (hm : m ≤ Ls.length)
    (hce : ∀ args W, (callFunc f args).run Tryz.prog W = .ok (.enter f args) W)
    (hf : ∀ x L, L ∈ Ls.take m → ∀ W, Below w.heap.size w W → PtS W x L → Calls Tryz.prog f (#[x] ++ cap) W fun e w' => e = .returned (.bool (g L)) ∧ Below W.heap.size W w') :
    Calls Tryz.prog 54 #[.pointer (some ⟨T, 0, none⟩), .int .i64 m, .func (.func f) #[] cap] w fun e w' => e = .returned (.int .i64 (Ro.place g (Ls.take m))) ∧ Below w.heap.size w w' := by
  have hmc : m ≤ c := by
    rcases Nat.eq_zero_or_pos Ls.length with h | h
    · omega
    · have := (hv.cap h).1; omega
  have hl2 : (Ls.take m).length = m := by rw [List.length_take]; omega
  have K := Lib.hid (rt_index f cap g _ (Ls.take m) w (hv.take hm) (by omega) hce hf)
  obtain ⟨n, hn⟩ : ∃ n, Ls.length = n := ⟨_, rfl⟩
  rw [hn] at hc hl hm
  obtain ⟨R, hR⟩ : ∃ R, Ro.place g (Ls.take m) = R := ⟨_, rfl⟩
  rw [hR] at K ⊢
  clear hv hce hf hl2 hn hR
  have h1 : (m : Int) ≤ (c : Int) := by omega
  go_enter Tryz.func54, Tryz.ntmps54
  go_wp2_with fail
  refine K.out.mono ?_
  rintro e w2 ⟨rfl, hb⟩
  have HB := Lib.hid hb
  clear hb
  go_wp2_with fail
  go_ret
  exact ⟨rfl, HB.out⟩
theorem rt_max (ts : Array TypeId) (t : TypeId) (a b : Int) (w : World) : (Builtin.max_ ts t #[.int .i64 a, .int .i64 b]).run Tryz.prog w = .ok (.int .i64 (if b > a then b else a)) w := by
  simp [Builtin.max_, Builtin.max2, go_sem]
theorem find1_enter (args : Array Value) (W : World) : (callFunc 55 args).run Tryz.prog W = .ok (.enter 55 args) W := by
  simp [callFunc, go_sem, Tryz.func55]
  rw [if_neg (by decide), if_neg (by decide)]
theorem rt_find1 (x u : Value) (L : List Ro.Pt) (P : List (List UInt8)) (G : Nat) (w : World) (hx : PtS w x L) (hG : w.cell? ⟨G, 0, none⟩ = some u) (hu : XS w u P) (hL : L.length ≤ 100000) (hP : P.length ≤ 100000) :
    Calls Tryz.prog 55 #[x, .pointer (some ⟨G, 0, none⟩)] w fun e w' => e = .returned (.bool (Ro.fits L P)) ∧ Below w.heap.size w w' := by
  have K := Lib.hid (rt_fits x u L P w hx hu hL hP)
  obtain ⟨R, hR⟩ : ∃ R, Ro.fits L P = R := ⟨_, rfl⟩
  rw [hR] at K ⊢
  obtain ⟨p1, c1, rfl⟩ := hx.slice
  obtain ⟨p2, c2, rfl⟩ := hu.slice
  clear hx hu hR
  go_enter Tryz.func55, Tryz.ntmps55
  go_wp2_with fail
  refine K.out.mono ?_
  rintro e w2 ⟨rfl, hb⟩
  have HB := Lib.hid hb
  clear hb
  go_wp2_with fail
  go_ret
  exact ⟨rfl, HB.out⟩
def fdF (T G : Nat) (p : Option Addr) (n c : Nat) (R : Int) : Nat → World → Value → Prop
  | 0, _, v => v = .pointer (some ⟨T, 0, none⟩)
  | 1, _, v => v = .pointer (some ⟨T, 0, none⟩)
  | 2, _, v => v = .pointer (some ⟨T, 0, none⟩)
  | 3, _, v => v = .pointer (some ⟨T, 0, none⟩)
  | 4, _, v => v = .pointer (some ⟨T, 0, none⟩)
  | 5, _, v => v = .pointer (some ⟨T, 0, none⟩)
  | 6, _, v => v = .pointer (some ⟨T, 0, none⟩)
  | 7, _, v => v = .slice p n c
  | 8, _, v => v = .int .i64 n
  | 9, _, v => v = .func (.func 55) #[] #[.pointer (some ⟨G, 0, none⟩)]
  | 10, _, v => v = .int .i64 R
  | 11, _, v => v = .int .i64 R
  | _, _, _ => False
/-- no pattern is longer than that -/
def Small (Ls : List (List Ro.Pt)) : Prop := Ls.length ≤ 1000 ∧ ∀ L ∈ Ls, L.length ≤ 2000 ∧ ∀ p ∈ L, p.2.length ≤ 30000
/-- what Find tells -/
def fdOut (i : Int) : Ending := .returned (.tuple #[.int .i64 (max 0 i), .bool (decide (0 ≤ i))])
theorem rt_Find (T : Nat) (u : Value) (Ls : List (List Ro.Pt)) (P : List (List UInt8)) (w : World) (h : TB w T Ls) (hu : XS w u P) (hs : Small Ls) (hP : P.length ≤ 100000) :
    Calls Tryz.prog 26 #[.pointer (some ⟨T, 0, none⟩), u] w fun e w' => e = fdOut (Ro.place (fun L => Ro.fits L P) Ls) ∧ Below w.heap.size w w' := by
  have hs' := hs
  obtain ⟨hl, hLs⟩ := hs
  obtain ⟨p2, c2, rfl⟩ := hu.slice
  obtain ⟨N, hN⟩ : ∃ n, P.length = n := ⟨_, rfl⟩
  have HNN := Lib.hid hN
  obtain ⟨W1, hW1⟩ : ∃ Z, w.alloc (.cells #[.slice p2 P.length c2] 41) = Z := ⟨_, rfl⟩
  have hb1 : Below w.heap.size w W1 := by rw [← hW1]; exact (Below.refl _ _).alloc (Nat.le_refl _) _
  have hG : W1.cell? ⟨w.heap.size, 0, none⟩ = some (.slice p2 P.length c2) := by rw [← hW1]; simp
  have HG := Lib.hid hG
  have HZ := Lib.hid (show W1.heap.size = w.heap.size + 1 by rw [← hW1]; simp)
  have HU := Lib.hid (hu.below hb1)
  have hT1 := h.below hb1
  have HT := Lib.hid hT1
  obtain ⟨B, v, h1, h2⟩ := hT1
  obtain ⟨p, c, rfl⟩ := h2.slice
  have HP := Lib.hid h2.psl
  have KN := Lib.hid (rt_none T W1 _ true h1)
  have c0 : W1.cell? ⟨T, 0, none⟩ = some (.slice p Ls.length c) := by simp [World.cell?, h1]
  have HC0 := Lib.hid c0
  have HTL := Lib.hid (show T < W1.heap.size from (Array.getElem?_eq_some_iff.1 h1).1)
  have KF := Lib.hid (fun W (hb : Below W1.heap.size W1 W) => rt_first T p c Ls.length 55 #[.pointer (some ⟨w.heap.size, 0, none⟩)] (fun L => Ro.fits L P) Ls W ((hb.cell (p := ⟨T, 0, none⟩) HTL.out).trans HC0.out) (HP.out.below hb) (by omega) (Nat.le_refl _) find1_enter (fun x L hL W' hb' hx => rt_find1 x _ L P w.heap.size W' hx ((hb'.cell (p := ⟨w.heap.size, 0, none⟩) (by have := hb.size; rw [HZ.out] at this; show w.heap.size < W.heap.size; omega)).trans ((hb.cell (p := ⟨w.heap.size, 0, none⟩) (by show w.heap.size < W1.heap.size; rw [HZ.out]; omega)).trans HG.out)) ((HU.out.below hb).below hb') (by have := (hLs L (List.mem_of_mem_take hL)).1; omega) hP))
  rw [List.take_length] at KF
  obtain ⟨R, hR⟩ : ∃ R, Ro.place (fun L => Ro.fits L P) Ls = R := ⟨_, rfl⟩
  rw [hR] at KF ⊢
  obtain ⟨n, hn⟩ : ∃ n, Ls.length = n := ⟨_, rfl⟩
  rw [hn] at KF c0 hl HC0
  rw [hN] at hG hP HG ⊢
  have HB1 := Lib.hid hb1
  have HW1 := Lib.hid (show w.alloc (.cells #[.slice p2 N c2] 41) = W1 by rw [← hN]; exact hW1)
  have hmax : ∀ (ts : Array TypeId) (t : TypeId) (W : World), (Builtin.max_ ts t #[.int .i64 0, .int .i64 R]).run Tryz.prog W = .ok (.int .i64 (max 0 R)) W := fun ts t W => by
    rw [rt_max, show (if R > 0 then R else 0) = max 0 R by split <;> omega]
  clear hW1 hb1 h hu h1 h2 hs' hLs hR hn hN
  have hmf : ∀ (fn : Fn) (first cap : Array Value) (w : World), (Instr.makeFunc fn first cap).run Tryz.prog w = .ok (.func fn first cap) w := fun _ _ _ _ => rfl
  go_enter Tryz.func26, Tryz.ntmps26
  go_wp2_with fail
  rw [HW1.out]
  refine KN.out.mono ?_
  rintro e w2 ⟨rfl, hw2⟩
  subst w2
  go_wp2_with fail
  refine region_slotsG (fun i => (if i = 11 then 6 else 9 + min i 10)) (fdF T w.heap.size p n c R) (fun _ => true) (by kernel_rfl) (by kernel_rfl) (fun i => by show (if i = 11 then 6 else 9 + min i 10) < _; simp; split <;> omega) (fun i j hi hj h => by have hi : i < 12 := hi; have hj : j < 12 := hj; have h : (if i = 11 then 6 else 9 + min i 10) = (if j = 11 then 6 else 9 + min j 10) := h; split at h <;> split at h <;> omega) ?mono ?dst ?gu ?ng ?skip ?step ?done
  case mono =>
    intro i W W' v h hbw
    match i, h with
    | 0, h | 1, h | 2, h | 3, h | 4, h | 5, h | 6, h | 7, h | 8, h | 9, h | 10, h | 11, h => exact h
    | n + 12, h => exact h.elim
  case dst =>
    intro i o ho
    match i, ho with
    | 0, ho | 1, ho | 2, ho | 3, ho | 4, ho | 5, ho | 6, ho | 7, ho | 8, ho | 9, ho | 10, ho | 11, ho => cases ho; rfl
    | n + 12, ho => exact absurd ho (by simp)
  case gu =>
    intro i o g b ho hgd W v hv
    match i, ho with
    | 0, ho => cases ho; cases hgd
    | 1, ho => cases ho; cases hgd
    | 2, ho => cases ho; cases hgd
    | 3, ho => cases ho; cases hgd
    | 4, ho => cases ho; cases hgd
    | 5, ho => cases ho; cases hgd
    | 6, ho => cases ho; cases hgd
    | 7, ho => cases ho; cases hgd
    | 8, ho => cases ho; cases hgd
    | 9, ho => cases ho; cases hgd
    | 10, ho => cases ho; cases hgd
    | 11, ho => cases ho; cases hgd
    | n + 12, ho => exact absurd ho (by simp)
  case ng =>
    intro i o ho hgd
    match i, ho with
    | 0, ho => cases ho; first | rfl | cases hgd
    | 1, ho => cases ho; first | rfl | cases hgd
    | 2, ho => cases ho; first | rfl | cases hgd
    | 3, ho => cases ho; first | rfl | cases hgd
    | 4, ho => cases ho; first | rfl | cases hgd
    | 5, ho => cases ho; first | rfl | cases hgd
    | 6, ho => cases ho; first | rfl | cases hgd
    | 7, ho => cases ho; first | rfl | cases hgd
    | 8, ho => cases ho; first | rfl | cases hgd
    | 9, ho => cases ho; first | rfl | cases hgd
    | 10, ho => cases ho; first | rfl | cases hgd
    | 11, ho => cases ho; first | rfl | cases hgd
    | n + 12, ho => exact absurd ho (by simp)
  case skip =>
    intro i W hi hsel
    match i, hi, hsel with
    | 0, _, hsel => first | exact absurd hsel (by decide) | rfl
    | 1, _, hsel => first | exact absurd hsel (by decide) | rfl
    | 2, _, hsel => first | exact absurd hsel (by decide) | rfl
    | 3, _, hsel => first | exact absurd hsel (by decide) | rfl
    | 4, _, hsel => first | exact absurd hsel (by decide) | rfl
    | 5, _, hsel => first | exact absurd hsel (by decide) | rfl
    | 6, _, hsel => first | exact absurd hsel (by decide) | rfl
    | 7, _, hsel => first | exact absurd hsel (by decide) | rfl
    | 8, _, hsel => first | exact absurd hsel (by decide) | rfl
    | 9, _, hsel => first | exact absurd hsel (by decide) | rfl
    | 10, _, hsel => first | exact absurd hsel (by decide) | rfl
    | 11, _, hsel => first | exact absurd hsel (by decide) | rfl
    | n + 12, hi, _ => exact absurd hi (by simp)
  case step =>
    intro f a' W i o ho hsel hpre hbel hrest
    match i, ho, hsel with
    | 0, ho, _ =>
      cases ho
      have q0 : a'.tmps.getD 0 undef = .pointer (some ⟨T, 0, none⟩) := (hrest 0 (by intro i hi; have hi : i < 12 := hi; show (if i = 11 then 6 else 9 + min i 10) ≠ _; split <;> omega))
      have e0 := rg_ev q0
      exact rg_same (.pointer (some ⟨T, 0, none⟩)) (by unfold Oper.wp execOp; go_simp; all_goals ((try simp only [e0]); (try go_simp); (try rw [if_pos (by omega)]); (try rw [if_neg (by omega)]); first | done | rfl | exact ⟨rfl, rfl⟩ | trivial)) rfl
    | 1, ho, _ =>
      cases ho
      have q9 : a'.tmps.getD 9 undef = .pointer (some ⟨T, 0, none⟩) := (hpre { on := 0, ground := .data } (by simp) rfl)
      have e9 := rg_ev q9
      exact rg_same (.pointer (some ⟨T, 0, none⟩)) (by unfold Oper.wp execOp; go_simp; all_goals ((try simp only [e9]); (try go_simp); (try rw [if_pos (by omega)]); (try rw [if_neg (by omega)]); first | done | rfl | exact ⟨rfl, rfl⟩ | trivial)) rfl
    | 2, ho, _ =>
      cases ho
      have q10 : a'.tmps.getD 10 undef = .pointer (some ⟨T, 0, none⟩) := (hpre { on := 1, ground := .data } (by simp) rfl)
      have e10 := rg_ev q10
      exact rg_same (.pointer (some ⟨T, 0, none⟩)) (by unfold Oper.wp execOp; go_simp; all_goals ((try simp only [e10]); (try go_simp); (try rw [if_pos (by omega)]); (try rw [if_neg (by omega)]); first | done | rfl | exact ⟨rfl, rfl⟩ | trivial)) rfl
    | 3, ho, _ =>
      cases ho
      have q0 : a'.tmps.getD 0 undef = .pointer (some ⟨T, 0, none⟩) := (hrest 0 (by intro i hi; have hi : i < 12 := hi; show (if i = 11 then 6 else 9 + min i 10) ≠ _; split <;> omega))
      have e0 := rg_ev q0
      exact rg_same (.pointer (some ⟨T, 0, none⟩)) (by unfold Oper.wp execOp; go_simp; all_goals ((try simp only [e0]); (try go_simp); (try rw [if_pos (by omega)]); (try rw [if_neg (by omega)]); first | done | rfl | exact ⟨rfl, rfl⟩ | trivial)) rfl
    | 4, ho, _ =>
      cases ho
      have q12 : a'.tmps.getD 12 undef = .pointer (some ⟨T, 0, none⟩) := (hpre { on := 3, ground := .data } (by simp) rfl)
      have e12 := rg_ev q12
      exact rg_same (.pointer (some ⟨T, 0, none⟩)) (by unfold Oper.wp execOp; go_simp; all_goals ((try simp only [e12]); (try go_simp); (try rw [if_pos (by omega)]); (try rw [if_neg (by omega)]); first | done | rfl | exact ⟨rfl, rfl⟩ | trivial)) rfl
    | 5, ho, _ =>
      cases ho
      have q13 : a'.tmps.getD 13 undef = .pointer (some ⟨T, 0, none⟩) := (hpre { on := 4, ground := .data } (by simp) rfl)
      have e13 := rg_ev q13
      exact rg_same (.pointer (some ⟨T, 0, none⟩)) (by unfold Oper.wp execOp; go_simp; all_goals ((try simp only [e13]); (try go_simp); (try rw [if_pos (by omega)]); (try rw [if_neg (by omega)]); first | done | rfl | exact ⟨rfl, rfl⟩ | trivial)) rfl
    | 6, ho, _ =>
      cases ho
      have q14 : a'.tmps.getD 14 undef = .pointer (some ⟨T, 0, none⟩) := (hpre { on := 5, ground := .data } (by simp) rfl)
      have e14 := rg_ev q14
      exact rg_same (.pointer (some ⟨T, 0, none⟩)) (by unfold Oper.wp execOp; go_simp; all_goals ((try simp only [e14]); (try go_simp); (try rw [if_pos (by omega)]); (try rw [if_neg (by omega)]); first | done | rfl | exact ⟨rfl, rfl⟩ | trivial)) rfl
    | 7, ho, _ =>
      cases ho
      have q15 : a'.tmps.getD 15 undef = .pointer (some ⟨T, 0, none⟩) := (hpre { on := 6, ground := .data } (by simp) rfl)
      have x0 := (hbel.cell (p := ⟨T, 0, none⟩) HTL.out).trans HC0.out
      have e15 := rg_ev q15
      exact rg_same (.slice p n c) (by unfold Oper.wp execOp; go_simp; all_goals ((try simp only [e15]); (try go_simp); (try rw [if_pos (by omega)]); (try rw [if_neg (by omega)]); first | done | rfl | exact ⟨rfl, rfl⟩ | trivial)) rfl
    | 8, ho, _ =>
      cases ho
      have q16 : a'.tmps.getD 16 undef = .slice p n c := (hpre { on := 7, ground := .data } (by simp) rfl)
      have e16 := rg_ev q16
      exact rg_same (.int .i64 n) (by unfold Oper.wp execOp; go_simp; all_goals ((try simp only [e16]); (try go_simp); (try rw [if_pos (by omega)]); (try rw [if_neg (by omega)]); first | done | rfl | exact ⟨rfl, rfl⟩ | trivial)) rfl
    | 9, ho, _ =>
      cases ho
      have q3 : a'.tmps.getD 3 undef = .pointer (some ⟨w.heap.size, 0, none⟩) := (hrest 3 (by intro i hi; have hi : i < 12 := hi; show (if i = 11 then 6 else 9 + min i 10) ≠ _; split <;> omega))
      have e3 := rg_ev q3
      exact rg_same (.func (.func 55) #[] #[.pointer (some ⟨w.heap.size, 0, none⟩)]) (by unfold Oper.wp execOp; go_simp; all_goals ((try simp only [e3]); (try go_simp); (try rw [if_pos (by omega)]); (try rw [if_neg (by omega)]); first | done | rfl | exact ⟨rfl, rfl⟩ | trivial)) rfl
    | 10, ho, _ =>
      cases ho
      have q11 : a'.tmps.getD 11 undef = .pointer (some ⟨T, 0, none⟩) := (hpre { on := 2, ground := .data } (by simp) rfl)
      have q17 : a'.tmps.getD 17 undef = .int .i64 n := (hpre { on := 8, ground := .data } (by simp) rfl)
      have q18 : a'.tmps.getD 18 undef = .func (.func 55) #[] #[.pointer (some ⟨w.heap.size, 0, none⟩)] := (hpre { on := 9, ground := .data } (by simp) rfl)
      exact rg_call3 11 17 18 54 _ _ _ _ _ rfl q11 q17 q18 (enters_of Tryz.func54 (by kernel_rfl) rfl) (KF.out W hbel) (fun e w' h => ⟨_, h.1, _, rfl, rfl, h.2⟩)
    | 11, ho, _ =>
      cases ho
      have q19 : a'.tmps.getD 19 undef = .int .i64 R := (hpre { on := 10, ground := .data } (by simp) rfl)
      have e19 := rg_ev q19
      exact rg_same (.int .i64 R) (by unfold Oper.wp execOp; go_simp; all_goals ((try simp only [e19]); (try go_simp); (try rw [if_pos (by omega)]); (try rw [if_neg (by omega)]); first | done | rfl | exact ⟨rfl, rfl⟩ | trivial)) rfl
    | n + 12, ho, _ => exact absurd ho (by simp)
  case done =>
    intro vs W hbel hvs
    have v0 : vs 0 = .pointer (some ⟨T, 0, none⟩) := hvs 0 (by decide)
    have v1 : vs 1 = .pointer (some ⟨T, 0, none⟩) := hvs 1 (by decide)
    have v2 : vs 2 = .pointer (some ⟨T, 0, none⟩) := hvs 2 (by decide)
    have v3 : vs 3 = .pointer (some ⟨T, 0, none⟩) := hvs 3 (by decide)
    have v4 : vs 4 = .pointer (some ⟨T, 0, none⟩) := hvs 4 (by decide)
    have v5 : vs 5 = .pointer (some ⟨T, 0, none⟩) := hvs 5 (by decide)
    have v6 : vs 6 = .pointer (some ⟨T, 0, none⟩) := hvs 6 (by decide)
    have v7 : vs 7 = .slice p n c := hvs 7 (by decide)
    have v8 : vs 8 = .int .i64 n := hvs 8 (by decide)
    have v9 : vs 9 = .func (.func 55) #[] #[.pointer (some ⟨w.heap.size, 0, none⟩)] := hvs 9 (by decide)
    have v10 : vs 10 = .int .i64 R := hvs 10 (by decide)
    have v11 : vs 11 = .int .i64 R := hvs 11 (by decide)
    have HBR := Lib.hid hbel
    simp only [fillN, List.size_toArray, List.length_cons, List.length_nil, Nat.reduceAdd, show List.range 12 = [0, 1, 2, 3, 4, 5, 6, 7, 8, 9, 10, 11] from rfl, List.foldl_cons, List.foldl_nil, show (if 0 = 11 then 6 else 9 + min 0 10) = 9 from rfl, show (if 1 = 11 then 6 else 9 + min 1 10) = 10 from rfl, show (if 2 = 11 then 6 else 9 + min 2 10) = 11 from rfl, show (if 3 = 11 then 6 else 9 + min 3 10) = 12 from rfl, show (if 4 = 11 then 6 else 9 + min 4 10) = 13 from rfl, show (if 5 = 11 then 6 else 9 + min 5 10) = 14 from rfl, show (if 6 = 11 then 6 else 9 + min 6 10) = 15 from rfl, show (if 7 = 11 then 6 else 9 + min 7 10) = 16 from rfl, show (if 8 = 11 then 6 else 9 + min 8 10) = 17 from rfl, show (if 9 = 11 then 6 else 9 + min 9 10) = 18 from rfl, show (if 10 = 11 then 6 else 9 + min 10 10) = 19 from rfl, show (if 11 = 11 then 6 else 9 + min 11 10) = 6 from rfl, v0, v1, v2, v3, v4, v5, v6, v7, v8, v9, v10, v11]
    clear v0 v1 v2 v3 v4 v5 v6 v7 v8 v9 v10 v11 hvs hbel
    go_simp
    have HB2 := Lib.hid (HB1.out.trans (HBR.out.mono HB1.out.size))
    go_wp2_with fail
    go_ret2
    exact ⟨rfl, HB2.out⟩
theorem rt_At_none (T : Nat) (Ls : List (List Ro.Pt)) (i : Int) (w : World) (h : TB w T Ls) (hs : Small Ls) (hi : i < 0 ∨ (Ls.length : Int) ≤ i) :
    Calls Tryz.prog 30 #[.pointer (some ⟨T, 0, none⟩), .int .i64 i] w fun e w' => e = .returned (.tuple #[.string ⟨#[]⟩, .bool false]) ∧ w' = w := by
  obtain ⟨B, v, h1, h2⟩ := h
  obtain ⟨p, c, rfl⟩ := h2.slice
  have KN := Lib.hid (rt_none T w _ true h1)
  have c0 : w.cell? ⟨T, 0, none⟩ = some (.slice p Ls.length c) := by simp [World.cell?, h1]
  have hl := hs.1
  obtain ⟨n, hn⟩ : ∃ n, Ls.length = n := ⟨_, rfl⟩
  rw [hn] at c0 hl hi
  clear h1 h2 hs hn
  by_cases h0 : i < 0
  · clear hi
    go_enter Tryz.func30, Tryz.ntmps30
    go_wp2_with fail
    refine KN.out.mono ?_
    rintro e w2 ⟨rfl, hw2⟩
    subst w2
    go_wp2_with fail
    go_ret2
    exact ⟨rfl, rfl⟩
  · have h1 : (n : Int) ≤ i := by omega
    clear hi
    go_enter Tryz.func30, Tryz.ntmps30
    go_wp2_with fail
    refine KN.out.mono ?_
    rintro e w2 ⟨rfl, hw2⟩
    subst w2
    go_wp2_with fail
    go_ret2
    exact ⟨rfl, rfl⟩
theorem rt_At (T k : Nat) (Ls : List (List Ro.Pt)) (w : World) (h : TB w T Ls) (hs : Small Ls) (hk : k < Ls.length) (hx : KX w) :
    Calls Tryz.prog 30 #[.pointer (some ⟨T, 0, none⟩), .int .i64 k] w fun e w' => e = .returned (.tuple #[sv ((Ro.text (Ls.getD k [])).getD []), .bool true]) ∧ Below w.heap.size w w' := by
  obtain ⟨B, v, h1, h2⟩ := h
  obtain ⟨p, c, rfl⟩ := h2.slice
  have KN := Lib.hid (rt_none T w _ true h1)
  have c0 : w.cell? ⟨T, 0, none⟩ = some (.slice p Ls.length c) := by simp [World.cell?, h1]
  obtain ⟨b, off, rfl, hb, hc⟩ := h2.psl.cells hk
  obtain ⟨x, hx1, hx2⟩ := hc k hk
  have hmem : Ls.getD k [] ∈ Ls := by rw [List.getD_eq_getElem?_getD, List.getElem?_eq_getElem hk]; exact List.getElem_mem _
  have hsm := hs.2 _ hmem
  have KT := Lib.hid (rt_Text x _ w hx2 hsm.1 hsm.2 hx)
  obtain ⟨xp, xc, rfl⟩ := hx2.slice
  obtain ⟨m, hm⟩ : ∃ m, (Ls.getD k []).length = m := ⟨_, rfl⟩
  obtain ⟨o, ho⟩ : ∃ o, Ro.text (Ls.getD k []) = o := ⟨_, rfl⟩
  rw [ho] at KT ⊢
  rw [hm] at KT hx1
  have hl := hs.1
  obtain ⟨n, hn⟩ : ∃ n, Ls.length = n := ⟨_, rfl⟩
  rw [hn] at c0 hl hk
  obtain ⟨tb, htb, _⟩ := sv_is (o.getD [])
  unfold txOut at KT
  rw [htb] at KT ⊢
  have h4 : ¬ (k : Int) < 0 := by omega
  have h5 : ¬ (n : Int) ≤ (k : Int) := by omega
  clear h1 h2 hs hc hx2 hmem hsm hx hm ho hn htb
  go_enter Tryz.func30, Tryz.ntmps30
  go_wp2_with fail
  refine KN.out.mono ?_
  rintro e w2 ⟨rfl, hw2⟩
  subst w2
  go_wp2_with fail
  refine KT.out.mono ?_
  rintro e w3 ⟨rfl, hb3⟩
  have HB3 := Lib.hid hb3
  clear hb3
  go_wp2_with fail
  go_ret2
  exact ⟨rfl, HB3.out⟩
end Go.Proofs.YtgfammlmbjmkoaaGreatDoor

/- A range over a function whose values hang on the world (memory made anew in each round): the laws of the text Rf, with a relation in the values' place. No condition but those that each lemma states. -/
namespace Go.Proofs.YtgfammlmbjmkoaaGreatDoor
set_option linter.unusedVariables false
set_option linter.unusedSimpArgs false
open Go.RowKit
/-- what an iterator at W does: N calls of yield at most, one behind the other, of values that meet Enc where they are handed over -/
def IterG (F : Fence) (n : Nat) (P : Program) (gf : Nat) (lb : Array Value) (Enc : Nat → Array Value → World → Prop) (N : Nat) (own : Nat → Prop) (Kp : World → World → Prop) (W : World) : Prop :=
  ∀ (l : Nat) (J : Nat → World → Prop) (Jx : World → Prop),
    (∀ k X Y, J k X → Turn W.heap.size own X Y → J k Y) → (∀ X Y, Jx X → Turn W.heap.size own X Y → Jx Y) →
    (∀ k X args, k < N → J k X → Enc k args X → YieldAt F (n - 1) P l args X fun e Y => (e = .returned (.bool true) ∧ J (k + 1) Y ∧ Kp X Y ∧ KeepsFrom W.heap.size X Y) ∨ (e = .returned (.bool false) ∧ Jx Y ∧ KeepsFrom W.heap.size X Y)) →
    J 0 W → CallsIn F n P gf (#[.func (.yield l) #[] #[]] ++ lb) W fun e Y => (∃ v, e = .returned v) ∧ (J N Y ∨ Jx Y)
theorem IterG.of {F : Fence} {n : Nat} {P : Program} {gf : Nat} {lb : Array Value} {encs : Nat → Array Value} {N : Nat} {own : Nat → Prop} {Kp : World → World → Prop} {W : World} (h : IterAt F n P gf lb encs N own Kp W) : IterG F n P gf lb (fun k a _ => a = encs k) N own Kp W :=
  fun l J Jx hJ hJx hY h0 => h l J Jx hJ hJx (fun k X hk hj => hY k X _ hk hj rfl) h0
variable {F : Fence} {n : Nat} {P : Program}
/-- the loop's one call, its record laid -/
theorem rg_core {fn : FuncId} {tmps : Array Value} {dfr : Nat} {ps : Array Tmp} {assign body : Code} {Q : Exit → Act → World → Prop} {a' : Act} {B l : Nat} {W1 : World} {rec : LoopState → Option Code → Loop}
    (hrec : rec = fun st pe => { state := st, pending := pe, fn, tmps, params := ps, assign, body, defers := dfr }) (hfn : F.fn fn)
    {gf : Nat} {lb : Array Value} {Enc : Nat → Array Value → World → Prop} {N : Nat} {own : Nat → Prop} {Kp : World → World → Prop} (hps : ∀ k a X, Enc k a X → a.size = ps.size)
    (hBl : B ≤ l) (hrow : ¬ own l) (hL1 : W1.heap[l]? = some (.loop (rec .ready none)))
    (hit : IterG F (n - 1) P gf lb Enc N own Kp W1)
    (hKt : ∀ {A B C : World}, Kp A B → Kp B C → Kp A C) (hKb : ∀ (W : World) (o o' : Obj), W.heap[l]? = some o → o.isCells = false → Kp W (W.putObj l o'))
    (I : Nat → World → Prop) (Ix : Code → World → Prop) (hIg : ∀ k X Y, I k X → Turn W1.heap.size own X Y → I k Y) (hIp : ∀ k X r o, I k X → X.heap[l]? = some (.loop r) → I k (X.putObj l o))
    (hXg : ∀ c X Y, Ix c X → Turn W1.heap.size own X Y → Ix c Y) (hXp : ∀ c X r o, Ix c X → X.heap[l]? = some (.loop r) → Ix c (X.putObj l o)) (h0 : I 0 W1)
    (Ax : Nat → Act → World → Prop) (hAp : ∀ k b X r o, Ax k b X → X.heap[l]? = some (.loop r) → Ax k b (X.putObj l o))
    (hassign : ∀ (k : Nat) (args : Array Value) (W : World) (K : Act → World → Prop), k < N → I k W → Enc k args W → (∀ b W', KeepsFrom B W W' → Kp W W' → I k W' → Ax k b W' → K b W') →
      assign.wpIn (F.inRound l) (n - 1 - 1) P (Exit.then K (fun _ _ _ => False)) { tmps := (ps.zip args).foldl (fun t (p, v) => t.setIfInBounds p v) tmps, defers := [] } W)
    (hbody : ∀ (k : Nat) (b : Act) (W : World), (∃ r, W.heap[l]? = some (.loop r)) → k < N → I k W → Ax k b W → body.wpIn (F.inRound l) (n - 1 - 1) P (rfPost B Kp (I (k + 1)) Ix W) b W)
    (hdone : ∀ (W : World), I N W → Q .normal a' W) (hstop : ∀ (c : Code) (W : World), Ix c W → c.wpIn F n P Q a' W) :
    CallsIn F (n - 1) P gf (#[.func (.yield l) #[] #[]] ++ lb) W1 (rangePost F n P l Q a') := by
  refine (hit l (fun k W => I k W ∧ W.heap[l]? = some (.loop (rec .ready none))) (fun W => ∃ c, Ix c W ∧ W.heap[l]? = some (.loop (rec .done (some c))))
    (fun k X Y hs hg => ⟨hIg k X Y hs.1 hg, hg.low hs.2 (Array.getElem?_eq_some_iff.1 hL1).1 hrow⟩)
    (fun X Y hs hg => by obtain ⟨c, hc, hl⟩ := hs; exact ⟨c, hXg c X Y hc hg, hg.low hl (Array.getElem?_eq_some_iff.1 hL1).1 hrow⟩) ?_ ⟨h0, hL1⟩).mono ?_
  · rintro k W args hkN ⟨hi, hl⟩ henc
    have hy := run_yield (P := P) (args := args) hl (by rw [hrec]; exact hps k args W henc)
    rw [hrec] at hy
    refine ⟨fn, _, assign, body, hy, roundIn_of_wpIn hfn (hassign k args W _ hkN hi henc ?_)⟩
    clear hy
    intro b Wa hkfa hkpa hia hax
    have hla := hkfa.same _ _ hBl hl rfl
    have hlt : l < Wa.heap.size := (Array.getElem?_eq_some_iff.1 hla).1
    refine ⟨_, run_beginRound hla (by rw [hrec]), ?_⟩
    have hl2 : (Wa.putObj l (.loop { rec .ready none with state := .busy })).heap[l]? = some (.loop { rec .ready none with state := .busy }) := World.putObj_heap_same hlt
    have hw2 : Kp Wa (Wa.putObj l (.loop { rec .ready none with state := .busy })) := hKb _ _ _ hla rfl
    refine wpIn_mono (hbody k b _ ⟨_, hl2⟩ hkN (hIp k _ _ _ hia hla) (hAp k b _ _ _ hax hla)) ?_
    have fin : ∀ (jump : Option Code) (W3 : World), KeepsFrom B (Wa.putObj l (.loop { rec .ready none with state := .busy })) W3 →
        (Instr.endRound l jump).run P W3 = .ok (.bool jump.isNone) (W3.putObj l (.loop (rec (if jump.isNone then .ready else .done) jump))) ∧
        W3.heap[l]? = some (.loop { rec .ready none with state := .busy }) ∧
        (W3.putObj l (.loop (rec (if jump.isNone then .ready else .done) jump))).heap[l]? = some (.loop (rec (if jump.isNone then .ready else .done) jump)) := fun jump W3 hk3 => by
      have hl3 := hk3.same _ _ hBl hl2 rfl
      have := run_endRound (P := P) jump hl3
      rw [hrec] at this ⊢
      exact ⟨this, by rw [hrec] at hl3; exact hl3, World.putObj_heap_same (Array.getElem?_eq_some_iff.1 hl3).1⟩
    have hsl : l < W1.heap.size := (Array.getElem?_eq_some_iff.1 hL1).1
    have kp : ∀ (X : World) (o : Obj), KeepsFrom W1.heap.size X (X.putObj l o) := fun X o => ⟨by simp, fun k o' hk h1 _ => (World.putObj_heap_other (by omega)).trans h1⟩
    have hBW : B ≤ W1.heap.size := by omega
    have up : ∀ {X Y : World}, KeepsFrom B X Y → KeepsFrom W1.heap.size X Y := fun h => ⟨h.size, fun k o hk h1 h2 => h.same k o (by omega) h1 h2⟩
    have kall : ∀ {W3 : World} (o : Obj), KeepsFrom B (Wa.putObj l (.loop { rec .ready none with state := .busy })) W3 → KeepsFrom W1.heap.size W (W3.putObj l o) := fun o h => (up hkfa).trans ((kp _ _).trans ((up h).trans (kp _ _)))
    rintro e a3 W3 hp
    cases e with
    | normal =>
      obtain ⟨hk3, hkp3, hi3⟩ := hp
      obtain ⟨hr, hl3, hl4⟩ := fin none W3 hk3
      exact ⟨_, _, hr, .inl ⟨rfl, ⟨hIp _ _ _ _ hi3 hl3, hl4⟩, hKt hkpa (hKt (hKt hw2 hkp3) (hKb _ _ _ hl3 rfl)), kall _ hk3⟩⟩
    | ret =>
      obtain ⟨hk3, hi3⟩ := hp
      obtain ⟨hr, hl3, hl4⟩ := fin (some .ret) W3 hk3
      exact ⟨_, _, hr, .inr ⟨rfl, ⟨.ret, hXp _ _ _ _ hi3 hl3, hl4⟩, kall _ hk3⟩⟩
    | exit id =>
      obtain ⟨hk3, hi3⟩ := hp
      obtain ⟨hr, hl3, hl4⟩ := fin (some (.exit id)) W3 hk3
      exact ⟨_, _, hr, .inr ⟨rfl, ⟨.exit id, hXp _ _ _ _ hi3 hl3, hl4⟩, kall _ hk3⟩⟩
    | goto t =>
      obtain ⟨hk3, hi3⟩ := hp
      obtain ⟨hr, hl3, hl4⟩ := fin (some (.goto t)) W3 hk3
      exact ⟨_, _, hr, .inr ⟨rfl, ⟨.goto t, hXp _ _ _ _ hi3 hl3, hl4⟩, kall _ hk3⟩⟩
    | panic ch => exact hp.elim
    | outgrown => exact hp.elim
  · rintro e W2 ⟨⟨v, rfl⟩, (⟨hi, hl⟩ | ⟨c, hi, hl⟩)⟩
    · exact ⟨none, _, by have := run_endLoop (P := P) hl (by rw [hrec]; simp); rw [hrec] at this; exact this, hdone _ (hIp _ _ _ _ hi hl)⟩
    · exact ⟨some c, _, by have := run_endLoop (P := P) hl (by rw [hrec]; simp); rw [hrec] at this; exact this, hstop c _ (hXp _ _ _ _ hi hl)⟩
/-- the statement, where no loop over an iterator is round it -/
theorem rg_outer {g : Operand} {ps : Array Tmp} {assign body : Code} {Q : Exit → Act → World → Prop} {a : Act} {w : World}
    (hro : F.round = none) (h1 : 1 ≤ n) {gf : Nat} {lb : Array Value} (hg : a.eval g = .func (.func gf) #[] lb) (hFg : F.fn gf) (eg : ∀ args w, (callFunc gf args).run P w = .ok (.enter gf args) w)
    {Enc : Nat → Array Value → World → Prop} {N : Nat} {own : Nat → Prop} {Kp : World → World → Prop} (hps : ∀ k a X, Enc k a X → a.size = ps.size) (hrow : ∀ b, own b → b ≠ w.heap.size ∧ b ≠ w.heap.size + 1)
    (hit : ∀ W, Below w.heap.size w W → W.heap.size = w.heap.size + 2 → IterG F (n - 1) P gf lb Enc N own Kp W)
    (hKt : ∀ {A B C : World}, Kp A B → Kp B C → Kp A C) (hKb : ∀ (W : World) (o o' : Obj), W.heap[w.heap.size + 1]? = some o → o.isCells = false → Kp W (W.putObj (w.heap.size + 1) o'))
    (I : Nat → World → Prop) (Ix : Code → World → Prop) (hI : ∀ k X Y, I k X → Turn w.heap.size own X Y → I k Y) (hIx : ∀ c X Y, Ix c X → Turn w.heap.size own X Y → Ix c Y) (h0 : I 0 w)
    (Ax : Nat → Act → World → Prop) (hAx : ∀ k b X Y, Ax k b X → Turn w.heap.size own X Y → Ax k b Y)
    (hassign : ∀ (l k : Nat) (args : Array Value) (W : World) (K : Act → World → Prop), k < N → I k W → Enc k args W → (∀ b W', KeepsFrom w.heap.size W W' → Kp W W' → I k W' → Ax k b W' → K b W') →
      assign.wpIn (F.inRound l) (n - 1 - 1) P (Exit.then K (fun _ _ _ => False)) { tmps := (ps.zip args).foldl (fun t (p, v) => t.setIfInBounds p v) a.tmps, defers := [] } W)
    (hbody : ∀ (l k : Nat) (b : Act) (W : World), w.heap.size ≤ l → (∃ r, W.heap[l]? = some (.loop r)) → k < N → I k W → Ax k b W → body.wpIn (F.inRound l) (n - 1 - 1) P (rfPost w.heap.size Kp (I (k + 1)) Ix W) b W)
    (hdone : ∀ (D : Nat) (W : World), w.heap.size ≤ D → I N W → W.heap[D]? = some (.deferred (some [])) → Q .normal { a with defers := { target := .collected D, args := #[] } :: a.defers } W)
    (hstop : ∀ (D : Nat) (c : Code) (W : World), w.heap.size ≤ D → Ix c W → W.heap[D]? = some (.deferred (some [])) → c.wpIn F n P Q { a with defers := { target := .collected D, args := #[] } :: a.defers } W) :
    (Code.rangeFunc g ps assign body).wpIn F n P Q a w := by
  refine wpIn_rangeFunc ?_
  intro fn hfn
  rw [hro]
  obtain ⟨rec, hrec⟩ : ∃ rec : LoopState → Option Code → Loop, rec = fun st pe => { state := st, pending := pe, fn, tmps := a.tmps, params := ps, assign, body, defers := w.heap.size } := ⟨_, rfl⟩
  obtain ⟨W1, hW1⟩ : ∃ W1, (w.alloc (.deferred (some []))).alloc (.loop (rec .ready none)) = W1 := ⟨_, rfl⟩
  have hL1 : W1.heap[w.heap.size + 1]? = some (.loop (rec .ready none)) := by
    rw [← hW1]; have := World.alloc_heap_new (w.alloc (.deferred (some []))) (.loop (rec .ready none)); rwa [World.size_alloc] at this
  have hK1 : W1.heap[w.heap.size]? = some (.deferred (some [])) := by
    rw [← hW1]; exact (Below.heap_alloc _ _ _ (by simp)).trans (World.alloc_heap_new w _)
  have hI1 : I 0 W1 := by rw [← hW1]; exact hI _ _ _ (hI _ _ _ h0 (.alloc _ _)) (.alloc _ _)
  have hb1 : Below w.heap.size w W1 := by
    rw [← hW1]; exact ((Below.refl _ w).alloc (Nat.le_refl _) _).alloc (by simp) _
  have hs1 : W1.heap.size = w.heap.size + 2 := by rw [← hW1]; simp
  have hr0 : ¬ own w.heap.size := fun e => (hrow _ e).1 rfl
  have hr1 : ¬ own (w.heap.size + 1) := fun e => (hrow _ e).2 rfl
  refine ⟨w.heap.size + 1, [{ target := .collected w.heap.size, args := #[] }], W1, { target := .fn (.func gf) lb, args := #[.func (.yield (w.heap.size + 1)) #[] #[]] }, W1, gf,
    #[.func (.yield (w.heap.size + 1)) #[] #[]] ++ lb, W1, ?_, ?_, ?_, ?_, fun _ => h1, ?_⟩
  · rw [← hW1, hrec]; exact run_enterLoop_outer _ _ _ _ _
  · simp only [resolve, hg]
    simp [go_sem]
  · intro f' hf'; simp [Target.leads] at hf'; subst hf'; exact hFg
  · simp [invoke, go_sem, eg]
  · have hne : w.heap.size ≠ w.heap.size + 1 := by omega
    refine rg_core hrec hfn (B := w.heap.size) hps (by omega) hr1 hL1 (hit W1 hb1 hs1) hKt hKb
      (fun k W => I k W ∧ W.heap[w.heap.size]? = some (.deferred (some []))) (fun c W => Ix c W ∧ W.heap[w.heap.size]? = some (.deferred (some [])))
      (fun k X Y hs hg => ⟨hI _ _ _ hs.1 (hg.mono (by omega) fun _ h => h), hg.low hs.2 (by omega) hr0⟩)
      (fun k X r o hs hl => ⟨hI _ _ _ hs.1 (.putObj _ (by omega) hl rfl), (World.putObj_heap_other hne).trans hs.2⟩)
      (fun c X Y hs hg => ⟨hIx _ _ _ hs.1 (hg.mono (by omega) fun _ h => h), hg.low hs.2 (by omega) hr0⟩)
      (fun c X r o hs hl => ⟨hIx _ _ _ hs.1 (.putObj _ (by omega) hl rfl), (World.putObj_heap_other hne).trans hs.2⟩)
      ⟨hI1, hK1⟩ Ax (fun k b X r o hs hl => hAx _ _ _ _ hs (.putObj _ (by omega) hl rfl)) ?_ ?_ ?_ ?_
    · intro k args W K hk hi he hK
      exact hassign _ k args W K hk hi.1 he (fun b W' h1 h2 h3 h4 => hK b W' h1 h2 ⟨h3, h1.same _ _ (Nat.le_refl _) hi.2 rfl⟩ h4)
    · intro k b W hr hk hi ha
      refine wpIn_mono (hbody _ k b W (by omega) hr hk hi.1 ha) ?_
      intro e a3 W3 hp
      cases e with
      | normal => exact ⟨hp.1, hp.2.1, hp.2.2, hp.1.same _ _ (Nat.le_refl _) hi.2 rfl⟩
      | ret => exact ⟨hp.1, hp.2, hp.1.same _ _ (Nat.le_refl _) hi.2 rfl⟩
      | exit id => exact ⟨hp.1, hp.2, hp.1.same _ _ (Nat.le_refl _) hi.2 rfl⟩
      | goto t => exact ⟨hp.1, hp.2, hp.1.same _ _ (Nat.le_refl _) hi.2 rfl⟩
      | panic ch => exact hp
      | outgrown => exact hp
    · exact fun W hi => hdone _ W (Nat.le_refl _) hi.1 hi.2
    · exact fun c W hi => hstop _ c W (Nat.le_refl _) hi.1 hi.2
/-- the statement within a round of another such loop -/
theorem rg_inner {g : Operand} {ps : Array Tmp} {assign body : Code} {Q : Exit → Act → World → Prop} {a : Act} {w : World} {l₀ : Nat} {r₀ : Loop}
    (hro : F.round = some l₀) (hr₀ : w.heap[l₀]? = some (.loop r₀)) (h1 : 1 ≤ n) {gf : Nat} {lb : Array Value} (hg : a.eval g = .func (.func gf) #[] lb) (hFg : F.fn gf) (eg : ∀ args w, (callFunc gf args).run P w = .ok (.enter gf args) w)
    {Enc : Nat → Array Value → World → Prop} {N : Nat} {own : Nat → Prop} {Kp : World → World → Prop} (hps : ∀ k a X, Enc k a X → a.size = ps.size) (hrow : ∀ b, own b → b ≠ w.heap.size)
    (hit : ∀ W, Below w.heap.size w W → W.heap.size = w.heap.size + 1 → IterG F (n - 1) P gf lb Enc N own Kp W)
    (hKt : ∀ {A B C : World}, Kp A B → Kp B C → Kp A C) (hKb : ∀ (W : World) (o o' : Obj), W.heap[w.heap.size]? = some o → o.isCells = false → Kp W (W.putObj w.heap.size o'))
    (I : Nat → World → Prop) (Ix : Code → World → Prop) (hI : ∀ k X Y, I k X → Turn w.heap.size own X Y → I k Y) (hIx : ∀ c X Y, Ix c X → Turn w.heap.size own X Y → Ix c Y) (h0 : I 0 w)
    (Ax : Nat → Act → World → Prop) (hAx : ∀ k b X Y, Ax k b X → Turn w.heap.size own X Y → Ax k b Y)
    (hassign : ∀ (l k : Nat) (args : Array Value) (W : World) (K : Act → World → Prop), k < N → I k W → Enc k args W → (∀ b W', KeepsFrom w.heap.size W W' → Kp W W' → I k W' → Ax k b W' → K b W') →
      assign.wpIn (F.inRound l) (n - 1 - 1) P (Exit.then K (fun _ _ _ => False)) { tmps := (ps.zip args).foldl (fun t (p, v) => t.setIfInBounds p v) a.tmps, defers := [] } W)
    (hbody : ∀ (l k : Nat) (b : Act) (W : World), w.heap.size ≤ l → (∃ r, W.heap[l]? = some (.loop r)) → k < N → I k W → Ax k b W → body.wpIn (F.inRound l) (n - 1 - 1) P (rfPost w.heap.size Kp (I (k + 1)) Ix W) b W)
    (hdone : ∀ (W : World), I N W → Q .normal a W)
    (hstop : ∀ (c : Code) (W : World), Ix c W → c.wpIn F n P Q a W) :
    (Code.rangeFunc g ps assign body).wpIn F n P Q a w := by
  refine wpIn_rangeFunc ?_
  intro fn hfn
  rw [hro]
  obtain ⟨rec, hrec⟩ : ∃ rec : LoopState → Option Code → Loop, rec = fun st pe => { state := st, pending := pe, fn, tmps := a.tmps, params := ps, assign, body, defers := r₀.defers } := ⟨_, rfl⟩
  obtain ⟨W1, hW1⟩ : ∃ W1, w.alloc (.loop (rec .ready none)) = W1 := ⟨_, rfl⟩
  have hL1 : W1.heap[w.heap.size]? = some (.loop (rec .ready none)) := by
    rw [← hW1]; exact World.alloc_heap_new _ _
  have hI1 : I 0 W1 := by rw [← hW1]; exact hI _ _ _ h0 (.alloc _ _)
  have hb1 : Below w.heap.size w W1 := by
    rw [← hW1]; exact (Below.refl _ w).alloc (Nat.le_refl _) _
  have hs1 : W1.heap.size = w.heap.size + 1 := by rw [← hW1]; simp
  have hr1 : ¬ own w.heap.size := fun e => hrow _ e rfl
  refine ⟨w.heap.size, [], W1, { target := .fn (.func gf) lb, args := #[.func (.yield w.heap.size) #[] #[]] }, W1, gf,
    #[.func (.yield w.heap.size) #[] #[]] ++ lb, W1, ?_, ?_, ?_, ?_, fun _ => h1, ?_⟩
  · rw [← hW1, hrec]; exact run_enterLoop_inner hr₀ _ _ _ _ _
  · simp only [resolve, hg]
    simp [go_sem]
  · intro f' hf'; simp [Target.leads] at hf'; subst hf'; exact hFg
  · simp [invoke, go_sem, eg]
  · exact rg_core hrec hfn (B := w.heap.size) hps (Nat.le_refl _) hr1 hL1 (hit W1 hb1 hs1) hKt hKb I Ix
      (fun k X Y hs hg => hI _ _ _ hs (hg.mono (by omega) fun _ h => h)) (fun k X r o hs hl => hI _ _ _ hs (.putObj _ (Nat.le_refl _) hl rfl))
      (fun c X Y hs hg => hIx _ _ _ hs (hg.mono (by omega) fun _ h => h)) (fun c X r o hs hl => hIx _ _ _ hs (.putObj _ (Nat.le_refl _) hl rfl))
      hI1 Ax (fun k b X r o hs hl => hAx _ _ _ _ hs (.putObj _ (Nat.le_refl _) hl rfl)) (fun k args W K hk hi he hK => hassign _ k args W K hk hi he hK) (fun k b W hr hk hi ha => hbody _ k b W (Nat.le_refl _) hr hk hi ha) (fun W hi => hdone W hi) (fun c W hi => hstop c W hi)
/-- the statement, its body left by a break alone -/
theorem rg_break {g : Operand} {ps : Array Tmp} {assign body : Code} {Q : Exit → Act → World → Prop} {id : Nat} {a : Act} {w : World}
    (hro : F.round = none) (h1 : 1 ≤ n) {gf : Nat} {lb : Array Value} (hg : a.eval g = .func (.func gf) #[] lb) (hFg : F.fn gf) (eg : ∀ args w, (callFunc gf args).run P w = .ok (.enter gf args) w)
    {Enc : Nat → Array Value → World → Prop} {N : Nat} {own : Nat → Prop} {Kp : World → World → Prop} (hps : ∀ k a X, Enc k a X → a.size = ps.size) (hrow : ∀ b, own b → b ≠ w.heap.size ∧ b ≠ w.heap.size + 1)
    (hit : ∀ W, Below w.heap.size w W → W.heap.size = w.heap.size + 2 → IterG F (n - 1) P gf lb Enc N own Kp W)
    (hKt : ∀ {A B C : World}, Kp A B → Kp B C → Kp A C) (hKb : ∀ (W : World) (o o' : Obj), W.heap[w.heap.size + 1]? = some o → o.isCells = false → Kp W (W.putObj (w.heap.size + 1) o'))
    (I : Nat → World → Prop) (IE : World → Prop) (hI : ∀ k X Y, I k X → Turn w.heap.size own X Y → I k Y) (hIE : ∀ X Y, IE X → Turn w.heap.size own X Y → IE Y) (h0 : I 0 w)
    (Ax : Nat → Act → World → Prop) (hAx : ∀ k b X Y, Ax k b X → Turn w.heap.size own X Y → Ax k b Y)
    (hassign : ∀ (l k : Nat) (args : Array Value) (W : World) (K : Act → World → Prop), k < N → I k W → Enc k args W → (∀ b W', KeepsFrom w.heap.size W W' → Kp W W' → I k W' → Ax k b W' → K b W') →
      assign.wpIn (F.inRound l) (n - 1 - 1) P (Exit.then K (fun _ _ _ => False)) { tmps := (ps.zip args).foldl (fun t (p, v) => t.setIfInBounds p v) a.tmps, defers := [] } W)
    (hbody : ∀ (l k : Nat) (b : Act) (W : World), w.heap.size ≤ l → (∃ r, W.heap[l]? = some (.loop r)) → k < N → I k W → Ax k b W → body.wpIn (F.inRound l) (n - 1 - 1) P (rfPost w.heap.size Kp (I (k + 1)) (fun c X => c = .exit id ∧ IE X) W) b W)
    (hall : ∀ W, I N W → IE W) (hend : ∀ (D : Nat) (W : World), w.heap.size ≤ D → IE W → W.heap[D]? = some (.deferred (some [])) → Q .normal { a with defers := { target := .collected D, args := #[] } :: a.defers } W) :
    (Code.rangeFunc g ps assign body).wpIn F n P (Exit.inBlock id Q) a w :=
  rg_outer hro h1 hg hFg eg hps hrow hit hKt hKb I (fun c X => c = .exit id ∧ IE X) hI (fun c X Y hs ht => ⟨hs.1, hIE X Y hs.2 ht⟩) h0 Ax hAx hassign hbody
    (fun D W h1 hi h2 => hend D W h1 (hall W hi) h2) (fun D c W h1 hi h2 => by obtain ⟨rfl, hi⟩ := hi; exact wpIn_exit (by simp only [Exit.inBlock, ↓reduceIte]; exact hend D W h1 hi h2))
/-- likewise, within a round of another such loop -/
theorem rg_break_inner {g : Operand} {ps : Array Tmp} {assign body : Code} {Q : Exit → Act → World → Prop} {id : Nat} {a : Act} {w : World} {l₀ : Nat} {r₀ : Loop}
    (hro : F.round = some l₀) (hr₀ : w.heap[l₀]? = some (.loop r₀)) (h1 : 1 ≤ n) {gf : Nat} {lb : Array Value} (hg : a.eval g = .func (.func gf) #[] lb) (hFg : F.fn gf) (eg : ∀ args w, (callFunc gf args).run P w = .ok (.enter gf args) w)
    {Enc : Nat → Array Value → World → Prop} {N : Nat} {own : Nat → Prop} {Kp : World → World → Prop} (hps : ∀ k a X, Enc k a X → a.size = ps.size) (hrow : ∀ b, own b → b ≠ w.heap.size)
    (hit : ∀ W, Below w.heap.size w W → W.heap.size = w.heap.size + 1 → IterG F (n - 1) P gf lb Enc N own Kp W)
    (hKt : ∀ {A B C : World}, Kp A B → Kp B C → Kp A C) (hKb : ∀ (W : World) (o o' : Obj), W.heap[w.heap.size]? = some o → o.isCells = false → Kp W (W.putObj w.heap.size o'))
    (I : Nat → World → Prop) (IE : World → Prop) (hI : ∀ k X Y, I k X → Turn w.heap.size own X Y → I k Y) (hIE : ∀ X Y, IE X → Turn w.heap.size own X Y → IE Y) (h0 : I 0 w)
    (Ax : Nat → Act → World → Prop) (hAx : ∀ k b X Y, Ax k b X → Turn w.heap.size own X Y → Ax k b Y)
    (hassign : ∀ (l k : Nat) (args : Array Value) (W : World) (K : Act → World → Prop), k < N → I k W → Enc k args W → (∀ b W', KeepsFrom w.heap.size W W' → Kp W W' → I k W' → Ax k b W' → K b W') →
      assign.wpIn (F.inRound l) (n - 1 - 1) P (Exit.then K (fun _ _ _ => False)) { tmps := (ps.zip args).foldl (fun t (p, v) => t.setIfInBounds p v) a.tmps, defers := [] } W)
    (hbody : ∀ (l k : Nat) (b : Act) (W : World), w.heap.size ≤ l → (∃ r, W.heap[l]? = some (.loop r)) → k < N → I k W → Ax k b W → body.wpIn (F.inRound l) (n - 1 - 1) P (rfPost w.heap.size Kp (I (k + 1)) (fun c X => c = .exit id ∧ IE X) W) b W)
    (hall : ∀ W, I N W → IE W) (hend : ∀ (W : World), IE W → Q .normal a W) :
    (Code.rangeFunc g ps assign body).wpIn F n P (Exit.inBlock id Q) a w :=
  rg_inner hro hr₀ h1 hg hFg eg hps hrow hit hKt hKb I (fun c X => c = .exit id ∧ IE X) hI (fun c X Y hs ht => ⟨hs.1, hIE X Y hs.2 ht⟩) h0 Ax hAx hassign hbody
    (fun W hi => hend W (hall W hi)) (fun c W hi => by obtain ⟨rfl, hi⟩ := hi; exact wpIn_exit (by simp only [Exit.inBlock, ↓reduceIte]; exact hend W hi))
/-- some old blocks as they were, from round to round -/
def KeepB (n E : Nat) (X Y : World) : Prop := ∀ b, (b < n ∨ b = E) → b < X.heap.size → Y.heap[b]? = X.heap[b]?
theorem KeepB.lt {n E : Nat} {X Y : World} (h : KeepB n E X Y) {b : Nat} (hb : b < n ∨ b = E) (hx : b < X.heap.size) : b < Y.heap.size := by
  have h1 := h b hb hx
  rw [Array.getElem?_eq_getElem hx] at h1
  exact (Array.getElem?_eq_some_iff.1 h1).1
theorem KeepB.trans {n E : Nat} {X Y Z : World} (h : KeepB n E X Y) (k : KeepB n E Y Z) : KeepB n E X Z := fun b hb hx => (k b hb (h.lt hb hx)).trans (h b hb hx)
theorem KeepB.refl (n E : Nat) (X : World) : KeepB n E X X := fun _ _ _ => rfl
theorem KeepB.putObj {n E l : Nat} (W : World) (o : Obj) (hl : ¬ (l < n ∨ l = E)) : KeepB n E W (W.putObj l o) := fun b hb _ => World.putObj_heap_other (fun e => hl (e ▸ hb))
theorem KeepB.below {n E : Nat} {X Y : World} (h : Below X.heap.size X Y) : KeepB n E X Y := fun b _ hx => h.block b hx
theorem KeepB.setCell {n E c : Nat} (W : World) (v : Value) (hc : ¬ (c < n ∨ c = E)) : KeepB n E W (W.setCell ⟨c, 0, none⟩ v) := fun b hb _ => Below.heap_setCell _ _ _ _ (fun e => hc (by have e2 : b = c := e; rw [← e2]; exact hb))
theorem IterG.any {m : Nat} (m' : Nat) {gf : Nat} {lb : Array Value} {Enc : Nat → Array Value → World → Prop} {N : Nat} {own : Nat → Prop} {Kp : World → World → Prop} {W : World} (h : IterG Fence.wide m P gf lb Enc N own Kp W) : IterG Fence.wide m' P gf lb Enc N own Kp W :=
  fun l J Jx hJ hJx hY h0 => callsIn_wide.2 (callsIn_wide.1 (h l J Jx hJ hJx (fun k X args hk hj he => yieldAt_any _ (hY k X args hk hj he)) h0))
end Go.Proofs.YtgfammlmbjmkoaaGreatDoor

/- route: slices.Clone at patterns, Shadowed and its iterator. -/
namespace Go.Proofs.YtgfammlmbjmkoaaGreatDoor
set_option linter.unusedVariables false
set_option linter.unusedSimpArgs false
open Go.RowKit Go.Shelf
attribute [local go_sem] Oper.semAt_some
set_option maxHeartbeats 8000000
set_option maxRecDepth 100000
theorem sl_cloneT (v : Value) (B : Nat) (Ls : List (List Ro.Pt)) (w : World) (h : OPat w B v Ls) (hl : Ls.length ≤ 100000) :
    Calls Tryz.prog 56 #[v] w fun e w' => ∃ r, e = .returned r ∧ OPat w' w.heap.size r Ls ∧ Below w.heap.size w w' := by
  obtain ⟨i0, hi, hz0, hz1, hz2⟩ := info_parts (show (Tryz.prog.info? 87).map (fun i => (i.zero, i.size, i.bytes)) = some (some (.slice none 0 0), 1, 24) by kernel_rfl)
  obtain ⟨vals, hv1, hv2, hv3⟩ := h
  obtain ⟨n, hn⟩ : ∃ n, Ls.length = n := ⟨_, rfl⟩
  rw [hn] at hv1 hv2 hl
  have HN := Lib.hid hn
  have HV1 := Lib.hid hv1
  have HV3 := Lib.hid hv3
  clear hn hv1 hv3
  rcases hv2.2 with ⟨rfl, h0⟩ | ⟨g, cap, cur, rfl, _, hg, hc, hm, hs, ht⟩
  · have hq : ∀ W, (binOp BinOp.eql 70 (.slice none 0 0) (.slice none 0 0)).run Tryz.prog W = .ok (.bool true) W := fun W => by kernel_rfl
    have HL0 := Lib.hid (show Ls = [] from List.length_eq_zero_iff.1 (by rw [HN.out]; exact h0))
    clear h0 hv2
    go_enter Tryz.func56, Tryz.ntmps56
    go_wp2
    go_ret
    exact ⟨_, rfl, by rw [HL0.out]; exact ⟨[], rfl, World.ownsRow_nil _ _ _ _, fun j hj => by simp at hj⟩, Below.refl _ _⟩
  · have hq : ∀ W, (binOp BinOp.eql 70 (.slice (some ⟨g, 0, none⟩) n cap) (.slice none 0 0)).run Tryz.prog W = .ok (.bool false) W := fun W => by kernel_rfl
    have HCELL := Lib.hid (fun j (u : Value) (hj : vals[j]? = some u) => (show w.cell? ⟨g, j, none⟩ = some u by
      have hjn : j < n := by rw [← HV1.out]; exact (List.getElem?_eq_some_iff.1 hj).1
      have h5 : cur.toList[j]? = some u := by rw [← hj, ← ht, List.getElem?_take_of_lt (by omega)]
      simp only [World.cell?, hg, Option.isSome_none, Bool.false_eq_true, if_false]
      rw [Array.getElem?_toList] at h5
      exact h5))
    have HSL := Lib.hid (fun u (hu : u ∈ vals) => (show u.oneCell' = true by
      obtain ⟨j, hj, rfl⟩ := List.mem_iff_getElem.1 hu
      obtain ⟨p, c, he⟩ := (HV3.out j (by rw [HN.out, ← HV1.out]; exact hj)).pts.slice
      rw [List.getD_eq_getElem?_getD, List.getElem?_eq_getElem hj] at he
      have he' : vals[j] = .slice p _ c := he
      rw [he']; rfl))
    clear hg hc hm hs ht hv2
    go_enter Tryz.func56, Tryz.ntmps56
    have HO : Hid ((w.alloc (.cells #[] 87)).ownsRow w.heap.size 87 1 (.slice (some ⟨w.heap.size, 0, none⟩) 0 0) 0 []) :=
      ⟨rfl, .inr ⟨w.heap.size, 0, #[], rfl, Nat.le_refl _, World.alloc_heap_new w _, Nat.le_refl _, Nat.zero_le _, rfl, rfl⟩⟩
    go_wp2_with (at_builtin; refine wpList_append_own _ rfl _ _ 70 rfl w.heap.size 87 i0 (.slice none 0 0) 1 24 Tryz.underlying70 hi hz0 hz1 hz2 rfl (by decide) _ _ _ rfl HO.out ⟨g, 0, none⟩ n cap vals rfl ?c1 ?c2 ?c3 ?c4 ?c5 ?c6 ?_)
    case c1 => rw [HV1.out, Nat.mul_one]
    case c2 =>
      intro j u hj
      rw [Lib.add_plain, Nat.zero_add]
      exact cell_below ((Below.refl _ w).alloc (Nat.le_refl _) _) (HCELL.out j u hj)
    case c3 => exact HSL.out
    case c4 => unfold maxLen; omega
    case c5 => omega
    case c6 => simp
    intro v' w1 hown hgrow _
    have hB : Below w.heap.size w w1 := ((Below.refl _ w).alloc (Nat.le_refl _) _).grown hgrow (by simp) (fun k hk => by simp [Value.ownBlock] at hk; omega)
    have HP := Lib.hid (show OPat w1 w.heap.size v' Ls from ⟨vals, by rw [HV1.out, HN.out], by rw [HN.out]; simpa using hown, fun j hj => (HV3.out j hj).below hB⟩)
    have HB := Lib.hid hB
    clear hown hgrow hB
    obtain ⟨pp, cc, rfl⟩ := HP.out.slice
    go_wp2
    go_ret
    exact ⟨_, rfl, HP.out, HB.out⟩
/-- the iterator's list -/
def SHv (w : World) (C L B : Nat) (v : Value) (Ls : List (List Ro.Pt)) : Prop :=
  w.heap[C]? = some (.cells #[.pointer (some ⟨L, 0, none⟩)] 94 (0, 0)) ∧ w.heap[L]? = some (.cells #[v] 72 (0, 0)) ∧ OPat w B v Ls
theorem SHv.below {w w' : World} {C L B : Nat} {v : Value} {Ls : List (List Ro.Pt)} (h : SHv w C L B v Ls) (k : Below w.heap.size w w') : SHv w' C L B v Ls :=
  ⟨(k.block C (Array.getElem?_eq_some_iff.1 h.1).1).trans h.1, (k.block L (Array.getElem?_eq_some_iff.1 h.2.1).1).trans h.2.1, h.2.2.below k⟩
def SH (w : World) (C : Nat) (Ls : List (List Ro.Pt)) : Prop := ∃ L B v, SHv w C L B v Ls
theorem SH.below {w w' : World} {C : Nat} {Ls : List (List Ro.Pt)} (h : SH w C Ls) (k : Below w.heap.size w w') : SH w' C Ls := by
  obtain ⟨L, B, v, h1, h2, h3⟩ := h
  exact ⟨L, B, v, (k.block C (Array.getElem?_eq_some_iff.1 h1).1).trans h1, (k.block L (Array.getElem?_eq_some_iff.1 h2).1).trans h2, h3.below k⟩
def shF (T L n c : Nat) (p : Option Addr) (B : Nat) (Ls : List (List Ro.Pt)) : Nat → World → Value → Prop
  | 0, _, v => v = .pointer (some ⟨L, 0, none⟩)
  | 1, _, v => v = .pointer (some ⟨T, 0, none⟩)
  | 2, _, v => v = .pointer (some ⟨T, 0, none⟩)
  | 3, _, v => v = .pointer (some ⟨T, 0, none⟩)
  | 4, _, v => v = .pointer (some ⟨T, 0, none⟩)
  | 5, _, v => v = .slice p n c
  | 6, w, v => ∃ B', OPat w B' v Ls
  | 7, _, v => v = .pointer (some ⟨L, 0, none⟩)
  | 8, _, v => v = .pointer (some ⟨L, 0, none⟩)
  | _, _, _ => False
theorem shF_below {T L n c : Nat} {p : Option Addr} {B : Nat} {Ls : List (List Ro.Pt)} (j : Nat) (w w' : World) (v : Value) (h : shF T L n c p B Ls j w v) (hb : Below w.heap.size w w') : shF T L n c p B Ls j w' v := by
  match j, h with
  | 0, h | 1, h | 2, h | 3, h | 4, h | 5, h | 7, h | 8, h => exact h
  | 6, ⟨B', h⟩ => exact ⟨B', OPat.below h hb⟩
  | n + 9, h => exact h.elim
def shT (w0 : World) (_ : Nat → Bool) (w : World) : Prop := Below w0.heap.size w0 w
theorem rt_Shadowed (T : Nat) (Ls : List (List Ro.Pt)) (w : World) (h : TB w T Ls) (hl : Ls.length ≤ 100000) :
    Calls Tryz.prog 27 #[.pointer (some ⟨T, 0, none⟩)] w fun e w' => ∃ C, e = .returned (.func (.func 57) #[] #[.pointer (some ⟨C, 0, none⟩)]) ∧ SH w' C Ls ∧ w.heap.size ≤ C ∧ Below w.heap.size w w' := by
  have hmf : ∀ (fn : Fn) (first cap : Array Value) (w : World), (Instr.makeFunc fn first cap).run Tryz.prog w = .ok (.func fn first cap) w := fun _ _ _ _ => rfl
  obtain ⟨L, hL⟩ : ∃ z, w.heap.size = z := ⟨_, rfl⟩
  obtain ⟨W1, hW1⟩ : ∃ Z, (w.alloc (.cells #[.slice none 0 0] 72)).alloc (.cells #[.pointer (some ⟨w.heap.size, 0, none⟩)] 94) = Z := ⟨_, rfl⟩
  have hb1 : Below w.heap.size w W1 := by rw [← hW1]; exact ((Below.refl _ _).alloc (Nat.le_refl _) _).alloc (by simp) _
  have HB1 := Lib.hid hb1
  have HZ1 := Lib.hid (show W1.heap.size = L + 2 by rw [← hW1, ← hL]; simp)
  have HL1 := Lib.hid (show W1.heap[L]? = some (.cells #[.slice none 0 0] 72 (0, 0)) by rw [← hW1, ← hL, Below.heap_alloc _ _ _ (by simp)]; exact World.alloc_heap_new _ _)
  have HC1 := Lib.hid (show W1.heap[L + 1]? = some (.cells #[.pointer (some ⟨L, 0, none⟩)] 94 (0, 0)) by
    rw [← hW1, ← hL]
    have := World.alloc_heap_new (w.alloc (.cells #[.slice none 0 0] 72)) (.cells #[.pointer (some ⟨w.heap.size, 0, none⟩)] 94)
    simpa using this)
  obtain ⟨B, v, h1, h2⟩ := h.below hb1
  obtain ⟨p, c, rfl⟩ := h2.slice
  have KN := Lib.hid (rt_none T W1 _ true h1)
  have HT1 := Lib.hid h1
  have HO1 := Lib.hid h2
  have HTL := Lib.hid (show T < W1.heap.size from (Array.getElem?_eq_some_iff.1 h1).1)
  obtain ⟨n, hn⟩ : ∃ n, Ls.length = n := ⟨_, rfl⟩
  rw [hn] at HT1 HO1
  have hl2 : n ≤ 100000 := by rw [← hn]; exact hl
  have HN := Lib.hid hn
  clear hl
  have HW1 := Lib.hid (show (w.alloc (.cells #[.slice none 0 0] 72)).alloc (.cells #[.pointer (some ⟨L, 0, none⟩)] 94) = W1 by rw [← hL]; exact hW1)
  have HL := Lib.hid hL
  rw [hL] at HB1 ⊢
  clear h h1 h2 hb1 hW1 hn hL
  go_enter Tryz.func27, Tryz.ntmps27
  go_wp2_with fail
  rw [HL.out, HW1.out]
  refine KN.out.mono ?_
  rintro e w2 ⟨rfl, hw2⟩
  subst w2
  go_wp2_with fail
  refine region_last2 9 (fun i => 9 + min i 8) (shF T L n c p B Ls) (shT W1) (by kernel_rfl) (by kernel_rfl) rfl (by kernel_rfl) (fun i => by show 9 + min i 8 < _; simp; omega) (fun i j hi hj h => by have h : 9 + min i 8 = 9 + min j 8 := h; omega) ?start ?dst ?step ?last
  case dst =>
    intro i o hi ho
    match i, hi, ho with
    | 0, _, ho => cases ho; rfl
    | 1, _, ho => cases ho; rfl
    | 2, _, ho => cases ho; rfl
    | 3, _, ho => cases ho; rfl
    | 4, _, ho => cases ho; rfl
    | 5, _, ho => cases ho; rfl
    | 6, _, ho => cases ho; rfl
    | 7, _, ho => cases ho; rfl
    | 8, _, ho => cases ho; rfl
    | n + 9, hi, _ => exact absurd hi (by omega)
  case step =>
    intro f a' W i o hib ho hfi hpre hT hrest
    match i, hib, ho with
    | 0, _, ho =>
      cases ho
      have q3 : a'.tmps.getD 3 undef = .pointer (some ⟨L + 1, 0, none⟩) := (hrest 3 (by intro i hi; show 9 + min i 8 ≠ _; omega))
      have hC := (hT.block (L + 1) (by rw [HZ1.out]; omega)).trans HC1.out
      have x0 : W.cell? ⟨L + 1, 0, none⟩ = some (.pointer (some ⟨L, 0, none⟩)) := by simp [World.cell?, hC]
      have e3 := rg_ev q3
      exact rg_same2 (.pointer (some ⟨L, 0, none⟩)) (by unfold Oper.wp execOp; go_simp; all_goals ((try simp only [e3]); (try go_simp); (try rw [if_pos (by omega)]); (try rw [if_neg (by omega)]); first | done | rfl | exact ⟨rfl, rfl⟩ | trivial)) rfl (hT)
    | 1, _, ho =>
      cases ho
      have q0 : a'.tmps.getD 0 undef = .pointer (some ⟨T, 0, none⟩) := (hrest 0 (by intro i hi; show 9 + min i 8 ≠ _; omega))
      have e0 := rg_ev q0
      exact rg_same2 (.pointer (some ⟨T, 0, none⟩)) (by unfold Oper.wp execOp; go_simp; all_goals ((try simp only [e0]); (try go_simp); (try rw [if_pos (by omega)]); (try rw [if_neg (by omega)]); first | done | rfl | exact ⟨rfl, rfl⟩ | trivial)) rfl (hT)
    | 2, _, ho =>
      cases ho
      have f10 := (hpre { on := 1, ground := .data } (by simp) rfl).1
      have q10 : a'.tmps.getD 10 undef = .pointer (some ⟨T, 0, none⟩) := (hpre { on := 1, ground := .data } (by simp) rfl).2
      have e10 := rg_ev q10
      exact rg_same2 (.pointer (some ⟨T, 0, none⟩)) (by unfold Oper.wp execOp; go_simp; all_goals ((try simp only [e10]); (try go_simp); (try rw [if_pos (by omega)]); (try rw [if_neg (by omega)]); first | done | rfl | exact ⟨rfl, rfl⟩ | trivial)) rfl (hT)
    | 3, _, ho =>
      cases ho
      have f11 := (hpre { on := 2, ground := .data } (by simp) rfl).1
      have q11 : a'.tmps.getD 11 undef = .pointer (some ⟨T, 0, none⟩) := (hpre { on := 2, ground := .data } (by simp) rfl).2
      have e11 := rg_ev q11
      exact rg_same2 (.pointer (some ⟨T, 0, none⟩)) (by unfold Oper.wp execOp; go_simp; all_goals ((try simp only [e11]); (try go_simp); (try rw [if_pos (by omega)]); (try rw [if_neg (by omega)]); first | done | rfl | exact ⟨rfl, rfl⟩ | trivial)) rfl (hT)
    | 4, _, ho =>
      cases ho
      have f12 := (hpre { on := 3, ground := .data } (by simp) rfl).1
      have q12 : a'.tmps.getD 12 undef = .pointer (some ⟨T, 0, none⟩) := (hpre { on := 3, ground := .data } (by simp) rfl).2
      have e12 := rg_ev q12
      exact rg_same2 (.pointer (some ⟨T, 0, none⟩)) (by unfold Oper.wp execOp; go_simp; all_goals ((try simp only [e12]); (try go_simp); (try rw [if_pos (by omega)]); (try rw [if_neg (by omega)]); first | done | rfl | exact ⟨rfl, rfl⟩ | trivial)) rfl (hT)
    | 5, _, ho =>
      cases ho
      have f13 := (hpre { on := 4, ground := .data } (by simp) rfl).1
      have q13 : a'.tmps.getD 13 undef = .pointer (some ⟨T, 0, none⟩) := (hpre { on := 4, ground := .data } (by simp) rfl).2
      have hTT := (hT.block T HTL.out).trans HT1.out
      have x0 : W.cell? ⟨T, 0, none⟩ = some (.slice p n c) := by simp [World.cell?, hTT]
      have e13 := rg_ev q13
      exact rg_same2 (.slice p n c) (by unfold Oper.wp execOp; go_simp; all_goals ((try simp only [e13]); (try go_simp); (try rw [if_pos (by omega)]); (try rw [if_neg (by omega)]); first | done | rfl | exact ⟨rfl, rfl⟩ | trivial)) rfl (hT)
    | 6, _, ho =>
      cases ho
      have f14 := (hpre { on := 5, ground := .data } (by simp) rfl).1
      have q14 : a'.tmps.getD 14 undef = .slice p n c := (hpre { on := 5, ground := .data } (by simp) rfl).2
      exact rg_call 14 56 _ _ _ rfl q14 (enters_of Tryz.func56 (by kernel_rfl) rfl) (sl_cloneT (.slice p n c) B Ls W (HO1.out.below hT) (by rw [HN.out]; omega)) (fun e w' h => by
        obtain ⟨r, h1, h2, h3⟩ := h
        exact ⟨r, h1, _, rfl, ⟨_, h2⟩, hT.trans (h3.mono hT.size), fun j v' _ hF => shF_below j W w' v' hF h3⟩)
    | 7, _, ho =>
      cases ho
      have f9 := (hpre { on := 0, ground := .data } (by simp) rfl).1
      have q9 : a'.tmps.getD 9 undef = .pointer (some ⟨L, 0, none⟩) := (hpre { on := 0, ground := .data } (by simp) rfl).2
      have e9 := rg_ev q9
      exact rg_same2 (.pointer (some ⟨L, 0, none⟩)) (by unfold Oper.wp execOp; go_simp; all_goals ((try simp only [e9]); (try go_simp); (try rw [if_pos (by omega)]); (try rw [if_neg (by omega)]); first | done | rfl | exact ⟨rfl, rfl⟩ | trivial)) rfl (hT)
    | 8, _, ho =>
      cases ho
      have f16 := (hpre { on := 7, ground := .data } (by simp) rfl).1
      have q16 : a'.tmps.getD 16 undef = .pointer (some ⟨L, 0, none⟩) := (hpre { on := 7, ground := .data } (by simp) rfl).2
      have e16 := rg_ev q16
      exact rg_same2 (.pointer (some ⟨L, 0, none⟩)) (by unfold Oper.wp execOp; go_simp; all_goals ((try simp only [e16]); (try go_simp); (try rw [if_pos (by omega)]); (try rw [if_neg (by omega)]); first | done | rfl | exact ⟨rfl, rfl⟩ | trivial)) rfl (hT)
    | n + 9, hib, _ => exact absurd hib (by omega)
  case last =>
    intro f vs W oL ho hall hT hvs
    have hopL : oL.op = Op.store 70 (.tmp 17) (.tmp 15) := by cases ho; rfl
    have hdsL : oL.dst = none := by cases ho; rfl
    clear ho hall
    have v0 : vs 0 = .pointer (some ⟨L, 0, none⟩) := hvs 0 (by decide)
    have v1 : vs 1 = .pointer (some ⟨T, 0, none⟩) := hvs 1 (by decide)
    have v2 : vs 2 = .pointer (some ⟨T, 0, none⟩) := hvs 2 (by decide)
    have v3 : vs 3 = .pointer (some ⟨T, 0, none⟩) := hvs 3 (by decide)
    have v4 : vs 4 = .pointer (some ⟨T, 0, none⟩) := hvs 4 (by decide)
    have v5 : vs 5 = .slice p n c := hvs 5 (by decide)
    obtain ⟨y6, v6, w6⟩ : ∃ z, vs 6 = z ∧ shF T L n c p B Ls 6 W z := ⟨_, rfl, hvs 6 (by decide)⟩
    have v7 : vs 7 = .pointer (some ⟨L, 0, none⟩) := hvs 7 (by decide)
    have v8 : vs 8 = .pointer (some ⟨L, 0, none⟩) := hvs 8 (by decide)
    simp only [fillN, List.size_toArray, List.length_cons, List.length_nil, Nat.reduceAdd, show List.range 9 = [0, 1, 2, 3, 4, 5, 6, 7, 8] from rfl, List.foldl_cons, List.foldl_nil, show 9 + min 0 8 = 9 from rfl, show 9 + min 1 8 = 10 from rfl, show 9 + min 2 8 = 11 from rfl, show 9 + min 3 8 = 12 from rfl, show 9 + min 4 8 = 13 from rfl, show 9 + min 5 8 = 14 from rfl, show 9 + min 6 8 = 15 from rfl, show 9 + min 7 8 = 16 from rfl, show 9 + min 8 8 = 17 from rfl, v0, v1, v2, v3, v4, v5, v6, v7, v8]
    clear v0 v1 v2 v3 v4 v5 v6 v7 v8 hvs
    obtain ⟨Bc, ho⟩ := w6
    obtain ⟨pc, cc, rfl⟩ := ho.slice
    have hl := (hT.block L (by rw [HZ1.out]; omega)).trans HL1.out
    have hC := (hT.block (L + 1) (by rw [HZ1.out]; omega)).trans HC1.out
    have c0 : W.cell? ⟨L, 0, none⟩ = some (.slice none 0 0) := by simp [World.cell?, hl]
    have z0 : W.frozen? ⟨L, 0, none⟩ = false := frozen_of_row _ _ _ _ _ hl
    have HBW := Lib.hid (HB1.out.trans (hT.mono (by have := HZ1.out; omega)))
    have HS := Lib.hid (show SH (W.setCell ⟨L, 0, none⟩ (.slice pc Ls.length cc)) (L + 1) Ls from ⟨L, Bc, _, by rw [Below.heap_setCell _ _ _ _ (by simp)]; exact hC, heap_setCell_same _ _ 0 _ _ _ hl, ho.set1 hl (by decide) (by decide) 0 _⟩)
    clear hl hC hT ho
    unfold Oper.wp execOp
    simp only [hopL, hdsL]
    go_simp
    go_wp2_with fail
    go_ret
    exact ⟨_, rfl, HS.out, Nat.le_succ _, HBW.out.setCell (Nat.le_refl _) _⟩
  case start => exact (Below.drew (Below.refl _ _))
namespace Ro
/-- the place of the first that covers the one at i, of those ahead of it -/
def shp (Ls : List (List Pt)) (i : Nat) : Int := place (fun o => covers o (Ls.getD i [])) (Ls.take i)
/-- the shadowed ones among the first k -/
def shs (Ls : List (List Pt)) : Nat → List (Nat × Int)
  | 0 => []
  | k + 1 => shs Ls k ++ (if 0 ≤ shp Ls k then [(k, shp Ls k)] else [])
theorem shs_yes {Ls : List (List Pt)} {k : Nat} (h : 0 ≤ shp Ls k) : shs Ls (k + 1) = shs Ls k ++ [(k, shp Ls k)] := by
  show shs Ls k ++ _ = _
  rw [if_pos h]
theorem shs_no {Ls : List (List Pt)} {k : Nat} (h : ¬ 0 ≤ shp Ls k) : shs Ls (k + 1) = shs Ls k := by
  show shs Ls k ++ _ = _
  rw [if_neg h, List.append_nil]
theorem shs_more {Ls : List (List Pt)} {k : Nat} : ∀ {n : Nat}, k ≤ n → ∃ r, shs Ls n = shs Ls k ++ r
  | 0, h => by
    have : k = 0 := by omega
    subst this; exact ⟨[], by simp⟩
  | n + 1, h => by
    by_cases e : k = n + 1
    · subst e; exact ⟨[], by simp⟩
    · obtain ⟨r, hr⟩ := shs_more (Ls := Ls) (k := k) (n := n) (by omega)
      exact ⟨r ++ (if 0 ≤ shp Ls n then [(n, shp Ls n)] else []), by rw [← List.append_assoc, ← hr]; rfl⟩
theorem shs_at {Ls : List (List Pt)} {k n : Nat} (hk : k < n) (h : 0 ≤ shp Ls k) : (shs Ls k).length < (shs Ls n).length ∧ (shs Ls n).getD (shs Ls k).length (0, 0) = (k, shp Ls k) := by
  obtain ⟨r, hr⟩ := shs_more (Ls := Ls) (k := k + 1) (n := n) hk
  rw [hr, shs_yes h]
  refine ⟨by simp, ?_⟩
  rw [List.getD_eq_getElem?_getD, List.append_assoc, List.getElem?_append_right (Nat.le_refl _)]
  simp
theorem place_lt {g : List Pt → Bool} {Ls : List (List Pt)} (h : 0 ≤ place g Ls) : (place g Ls) < Ls.length := by
  unfold place at h ⊢
  cases hf : Ls.findIdx? g with
  | none => rw [hf] at h; simp at h
  | some k =>
    have := (List.findIdx?_eq_some_iff_getElem.1 hf).1
    simp; omega
theorem shs_len (Ls : List (List Pt)) : ∀ k, (shs Ls k).length ≤ k
  | 0 => Nat.le_refl _
  | k + 1 => by
    have := shs_len Ls k
    show (shs Ls k ++ _).length ≤ _
    rw [List.length_append]
    split <;> simp <;> omega
end Ro
theorem turn_bel {B : Nat} {own : Nat → Prop} {X Y : World} (hb : Below X.heap.size X Y) : Turn B own X Y := ⟨hb.os, hb.tape, hb.output, hb.size, fun k hk _ _ => hb.block k hk⟩
theorem shad1_enter (args : Array Value) (W : World) : (callFunc 58 args).run Tryz.prog W = .ok (.enter 58 args) W := by
  simp [callFunc, go_sem, Tryz.func58]
  rw [if_neg (by decide), if_neg (by decide)]
theorem rt_shad1 (x y : Value) (L P : List Ro.Pt) (D : Nat) (w : World) (hx : PtS w x L) (hD : w.cell? ⟨D, 0, none⟩ = some y) (hy : PtS w y P) (hL : L.length ≤ 100000) (hP : P.length ≤ 100000) :
    Calls Tryz.prog 58 #[x, .pointer (some ⟨D, 0, none⟩)] w fun e w' => e = .returned (.bool (Ro.covers L P)) ∧ Below w.heap.size w w' := by
  have K := Lib.hid (rt_covers x y L P w hx hy hL hP)
  obtain ⟨R, hR⟩ : ∃ R, Ro.covers L P = R := ⟨_, rfl⟩
  rw [hR] at K ⊢
  obtain ⟨p1, c1, rfl⟩ := hx.slice
  obtain ⟨p2, c2, rfl⟩ := hy.slice
  clear hx hy hR
  go_enter Tryz.func58, Tryz.ntmps58
  go_wp2_with fail
  refine K.out.mono ?_
  rintro e w2 ⟨rfl, hb⟩
  have HB := Lib.hid hb
  clear hb
  go_wp2_with fail
  go_ret
  exact ⟨rfl, HB.out⟩
theorem shad_it (m C L B : Nat) (v : Value) (Ls : List (List Ro.Pt)) (own : Nat → Prop) (Kp : World → World → Prop) (S : World → Prop) (hsm : Small Ls) (W : World)
    (hS : ∀ X, S X → SHv X C L B v Ls) (hKp : ∀ X Y, Kp X Y → S X → S Y) (hTu : ∀ X Y, Turn W.heap.size own X Y → S X → S Y) (hv : S W) :
    IterAt Fence.wide m Tryz.prog 57 #[.pointer (some ⟨C, 0, none⟩)] (fun j => #[.int .i64 ((Ro.shs Ls Ls.length).getD j (0, 0)).1, .int .i64 ((Ro.shs Ls Ls.length).getD j (0, 0)).2]) (Ro.shs Ls Ls.length).length own Kp W := by
  intro l J Jx hJ hJx hY h0
  obtain ⟨h1, h2, h3⟩ := hS W hv
  obtain ⟨p, c, rfl⟩ := h3.slice
  have c1 : W.cell? ⟨C, 0, none⟩ = some (.pointer (some ⟨L, 0, none⟩)) := by simp [World.cell?, h1]
  have c2 : W.cell? ⟨L, 0, none⟩ = some (.slice p Ls.length c) := by simp [World.cell?, h2]
  obtain ⟨N, hN⟩ : ∃ n, Ls.length = n := ⟨_, rfl⟩
  have hl : N ≤ 1000 := by rw [← hN]; exact hsm.1
  rw [hN] at c2 hY ⊢
  have HN := Lib.hid hN
  have HV := Lib.hid hv
  have HS := Lib.hid hS
  have HSM := Lib.hid hsm
  have HTU := Lib.hid hTu
  have HKP := Lib.hid hKp
  have HJ := Lib.hid hJ
  have HY := Lib.hid hY
  clear hN hv h1 h2 h3 hS hsm hTu hKp hJ hY
  refine callsIn_of_wp Tryz.func57 rfl trivial ?_ rfl
  simp only [Tryz.ntmps57, List.size_toArray, List.length_cons, List.length_nil, Nat.reduceAdd, Nat.reduceSub, Array.replicate_succ, Array.replicate_zero, List.push_toArray, List.append_toArray, List.nil_append, List.cons_append]
  gi_wp2_with fail
  refine wpW_scope ?_
  gi_step
  apply wpIn_label
  gi_wp2_with fail
  gi_loopw [11] (fun i wr => ∃ k : Nat, k ≤ N ∧ i = .int .i64 k ∧ J (Ro.shs Ls k).length wr ∧ S wr) (fun i _ => N - (intOf i).toNat)
  case atStart => exact ⟨0, Nat.zero_le _, rfl, h0, HV.out⟩
  case round =>
    obtain ⟨k, hk, rfl, hj, hs⟩ := hrel
    have HJK := Lib.hid hj
    have HSW := Lib.hid hs
    clear hj hs
    by_cases hlt : k < N
    · have HLK := Lib.hid (show k < Ls.length by rw [HN.out]; exact hlt)
      obtain ⟨h1, h2, h3⟩ := HS.out wr HSW.out
      have hps := h3.psl
      rw [HN.out] at hps
      obtain ⟨b, off, rfl, hb, hc⟩ := hps.cells HLK.out
      obtain ⟨x, hx, hxp⟩ := hc k HLK.out
      have HXP := Lib.hid hxp
      obtain ⟨xp, xc, rfl⟩ := hxp.slice
      have hmem : Ls.getD k [] ∈ Ls := by rw [List.getD_eq_getElem?_getD, List.getElem?_eq_getElem HLK.out]; exact List.getElem_mem _
      have HXL := Lib.hid (HSM.out.2 _ hmem).1
      obtain ⟨xn, hxn⟩ : ∃ z, (Ls.getD k []).length = z := ⟨_, rfl⟩
      rw [hxn] at hx
      have HXN := Lib.hid hxn
      obtain ⟨W2, hW2⟩ : ∃ Z, wr.alloc (.cells #[.slice xp xn xc] 87) = Z := ⟨_, rfl⟩
      have hb2 : Below wr.heap.size wr W2 := by rw [← hW2]; exact (Below.refl _ _).alloc (Nat.le_refl _) _
      have HB2 := Lib.hid hb2
      have HD := Lib.hid (show W2.cell? ⟨wr.heap.size, 0, none⟩ = some (.slice xp xn xc) by rw [← hW2]; simp)
      have HZ2 := Lib.hid (show W2.heap.size = wr.heap.size + 1 by rw [← hW2]; simp)
      have hc1 : (wr.alloc (.cells #[.slice xp xn xc] 87)).cell? ⟨C, 0, none⟩ = some (.pointer (some ⟨L, 0, none⟩)) := by
        rw [hW2]
        have : W2.heap[C]? = _ := (hb2.block C (Array.getElem?_eq_some_iff.1 h1).1).trans h1
        simp [World.cell?, this]
      have hc2 : W2.cell? ⟨L, 0, none⟩ = some (.slice (some ⟨b, off, none⟩) Ls.length c) := by
        have : W2.heap[L]? = _ := (hb2.block L (Array.getElem?_eq_some_iff.1 h2).1).trans h2
        simp [World.cell?, this]
      have hpl := h3.psl.below hb2
      have KF := Lib.hid (rt_first L (some ⟨b, off, none⟩) c k 58 #[.pointer (some ⟨wr.heap.size, 0, none⟩)] (fun o => Ro.covers o (Ls.getD k [])) Ls W2 hc2 hpl (by rw [HN.out]; omega) (by rw [HN.out]; omega) shad1_enter (fun y P hP W' hb' hy => rt_shad1 y _ P (Ls.getD k []) wr.heap.size W' hy ((hb'.cell (p := ⟨wr.heap.size, 0, none⟩) (by show wr.heap.size < W2.heap.size; rw [HZ2.out]; omega)).trans HD.out) (by rw [← HXN.out]; exact (HXP.out.below HB2.out).below hb') (by have := (HSM.out.2 P (List.mem_of_mem_take hP)).1; omega) (by have := HXL.out; omega)))
      obtain ⟨q, hq⟩ : ∃ q, Ro.place (fun o => Ro.covers o (Ls.getD k [])) (Ls.take k) = q := ⟨_, rfl⟩
      have HQ := Lib.hid (show Ro.shp Ls k = q from hq)
      rw [hq] at KF
      have KFW := Lib.hid ((callsIn_wide (n := m - 1)).2 KF.out)
      have HW2 := Lib.hid hW2
      clear h1 h2 h3 hps hc hxp hmem hxn hb2 hc2 hpl hq hW2 KF c1 c2
      gi_wp2_with fail
      rw [HW2.out]
      refine ⟨trivial, (fun h => by cases h), KFW.out.mono ?_⟩
      rintro e w3 ⟨rfl, hb3⟩
      have hbb := HB2.out.trans (hb3.mono HB2.out.size)
      have HJ3 := Lib.hid (HJ.out _ _ _ HJK.out (turn_bel hbb))
      have HS3 := Lib.hid (HTU.out _ _ (turn_bel hbb) HSW.out)
      clear hb3 hbb KFW
      by_cases hq : 0 ≤ q
      · have HAT := Lib.hid (Ro.shs_at (Ls := Ls) hlt (by rw [HQ.out]; exact hq))
        have HSY := Lib.hid (Ro.shs_yes (Ls := Ls) (k := k) (by rw [HQ.out]; exact hq))
        obtain ⟨fn, tmps, assign, body, hy, hR⟩ := HY.out _ _ HAT.out.1 HJ3.out
        rw [HAT.out.2, HQ.out] at hy
        simp only at hy
        gi_wp2_with fail
        refine ⟨(fun h => by cases h), hR.mono ?_⟩
        rintro z Y (⟨rfl, hj', hkp, _⟩ | ⟨rfl, hjx, _⟩)
        · have HSZ := Lib.hid (HKP.out _ _ hkp HS3.out)
          have HJ4 := Lib.hid (show J (Ro.shs Ls (k + 1)).length Y by rw [HSY.out, List.length_append]; exact hj')
          clear hy hR hj' hkp
          gi_wp2
          go_roundw
          case rel => exact ⟨k + 1, hlt, by go_num, HJ4.out, HSZ.out⟩
          case measure => simp [intOf]; omega
        · clear hy hR
          gi_wp2
          rw [Exit.noGoto_normal]
          go_end0
          exact ⟨⟨_, rfl⟩, .inr hjx⟩
      · have hqd : decide (0 ≤ q) = false := decide_eq_false hq
        have HSN := Lib.hid (Ro.shs_no (Ls := Ls) (k := k) (by rw [HQ.out]; exact hq))
        gi_wp2_with fail
        refine ⟨(fun f h => by cases h), ?_⟩
        gi_wp2_with fail
        go_roundw
        case rel => exact ⟨k + 1, hlt, by go_num, by rw [HSN.out]; exact HJ3.out, HS3.out⟩
        case measure => simp [intOf]; omega
    · obtain rfl : k = N := by omega
      gi_wp2
      rw [Exit.noGoto_normal]
      go_end0
      exact ⟨⟨_, rfl⟩, .inl HJK.out⟩
end Go.Proofs.YtgfammlmbjmkoaaGreatDoor

/- Ranges over functions whose frame the walk finds by itself; worlds that agree on old blocks. -/
namespace Go.Proofs.YtgfammlmbjmkoaaGreatDoor
set_option linter.unusedVariables false
set_option linter.unusedSimpArgs false
open Go.RowKit Go.Shelf
set_option maxHeartbeats 2000000
section
variable {F : Fence} {n : Nat} {P : Program}
theorem rf_outerE {g : Operand} {ps : Array Tmp} {assign body : Code} {Q : Exit → Act → World → Prop} {a : Act} {w : World}
    (hro : F.round = none) (h1 : 1 ≤ n) {gf : Nat} {lb : Array Value} (hg : a.eval g = .func (.func gf) #[] lb) (hFg : F.fn gf) (eg : ∀ args w, (callFunc gf args).run P w = .ok (.enter gf args) w)
    {encs : Nat → Array Value} {N : Nat} {own : Nat → Prop} {Kp : World → World → Prop} (hps : ∀ k, (encs k).size = ps.size) (hrow : ∀ b, own b → b ≠ w.heap.size ∧ b ≠ w.heap.size + 1)
    (hit : ∀ W, Below w.heap.size w W → W.heap.size = w.heap.size + 2 → IterAt F (n - 1) P gf lb encs N own Kp W)
    (hKt : ∀ {A B C : World}, Kp A B → Kp B C → Kp A C) (hKb : ∀ (W : World) (o o' : Obj), W.heap[w.heap.size + 1]? = some o → o.isCells = false → Kp W (W.putObj (w.heap.size + 1) o'))
    (I : Nat → World → Prop) (Ix : Code → World → Prop) (hI : ∀ k X Y, I k X → Turn w.heap.size own X Y → I k Y) (hIx : ∀ c X Y, Ix c X → Turn w.heap.size own X Y → Ix c Y) (h0 : I 0 w)
    (hE : ∃ A2 : Nat → Act, (∀ (l k : Nat) (W : World) (K : Act → World → Prop), k < N → I k W → (∀ W', KeepsFrom w.heap.size W W' → Kp W W' → I k W' → K (A2 k) W') →
        assign.wpIn (F.inRound l) (n - 1 - 1) P (Exit.then K (fun _ _ _ => False)) { tmps := (ps.zip (encs k)).foldl (fun t (p, v) => t.setIfInBounds p v) a.tmps, defers := [] } W) ∧
      (∀ (l k : Nat) (W : World), w.heap.size ≤ l → (∃ r, W.heap[l]? = some (.loop r)) → k < N → I k W → body.wpIn (F.inRound l) (n - 1 - 1) P (rfPost w.heap.size Kp (I (k + 1)) Ix W) (A2 k) W) ∧ (∀ (D : Nat) (W : World), w.heap.size ≤ D → I N W → W.heap[D]? = some (.deferred (some [])) → Q .normal { a with defers := { target := .collected D, args := #[] } :: a.defers } W) ∧ (∀ (D : Nat) (c : Code) (W : World), w.heap.size ≤ D → Ix c W → W.heap[D]? = some (.deferred (some [])) → c.wpIn F n P Q { a with defers := { target := .collected D, args := #[] } :: a.defers } W)) :
    (Code.rangeFunc g ps assign body).wpIn F n P Q a w := by
  obtain ⟨A2, h1', h2', h3', h4'⟩ := hE
  exact rf_outer hro h1 hg hFg eg hps hrow hit hKt hKb I Ix hI hIx h0 (fun k b _ => b = A2 k) (fun _ _ _ _ h _ => h) (fun l k W K hk hi hK => h1' l k W K hk hi (fun W' a b c => hK _ W' a b c rfl)) (fun l k b W hl hr hk hi hb => by subst hb; exact h2' l k W hl hr hk hi) h3' h4'
theorem rf_innerE {g : Operand} {ps : Array Tmp} {assign body : Code} {Q : Exit → Act → World → Prop} {a : Act} {w : World} {l₀ : Nat} {r₀ : Loop}
    (hro : F.round = some l₀) (hr₀ : w.heap[l₀]? = some (.loop r₀)) (h1 : 1 ≤ n) {gf : Nat} {lb : Array Value} (hg : a.eval g = .func (.func gf) #[] lb) (hFg : F.fn gf) (eg : ∀ args w, (callFunc gf args).run P w = .ok (.enter gf args) w)
    {encs : Nat → Array Value} {N : Nat} {own : Nat → Prop} {Kp : World → World → Prop} (hps : ∀ k, (encs k).size = ps.size) (hrow : ∀ b, own b → b ≠ w.heap.size)
    (hit : ∀ W, Below w.heap.size w W → W.heap.size = w.heap.size + 1 → IterAt F (n - 1) P gf lb encs N own Kp W)
    (hKt : ∀ {A B C : World}, Kp A B → Kp B C → Kp A C) (hKb : ∀ (W : World) (o o' : Obj), W.heap[w.heap.size]? = some o → o.isCells = false → Kp W (W.putObj w.heap.size o'))
    (I : Nat → World → Prop) (Ix : Code → World → Prop) (hI : ∀ k X Y, I k X → Turn w.heap.size own X Y → I k Y) (hIx : ∀ c X Y, Ix c X → Turn w.heap.size own X Y → Ix c Y) (h0 : I 0 w)
    (hE : ∃ A2 : Nat → Act, (∀ (l k : Nat) (W : World) (K : Act → World → Prop), k < N → I k W → (∀ W', KeepsFrom w.heap.size W W' → Kp W W' → I k W' → K (A2 k) W') →
        assign.wpIn (F.inRound l) (n - 1 - 1) P (Exit.then K (fun _ _ _ => False)) { tmps := (ps.zip (encs k)).foldl (fun t (p, v) => t.setIfInBounds p v) a.tmps, defers := [] } W) ∧
      (∀ (l k : Nat) (W : World), w.heap.size ≤ l → (∃ r, W.heap[l]? = some (.loop r)) → k < N → I k W → body.wpIn (F.inRound l) (n - 1 - 1) P (rfPost w.heap.size Kp (I (k + 1)) Ix W) (A2 k) W) ∧ (∀ (W : World), I N W → Q .normal a W) ∧ (∀ (c : Code) (W : World), Ix c W → c.wpIn F n P Q a W)) :
    (Code.rangeFunc g ps assign body).wpIn F n P Q a w := by
  obtain ⟨A2, h1', h2', h3', h4'⟩ := hE
  exact rf_inner hro hr₀ h1 hg hFg eg hps hrow hit hKt hKb I Ix hI hIx h0 (fun k b _ => b = A2 k) (fun _ _ _ _ h _ => h) (fun l k W K hk hi hK => h1' l k W K hk hi (fun W' a b c => hK _ W' a b c rfl)) (fun l k b W hl hr hk hi hb => by subst hb; exact h2' l k W hl hr hk hi) h3' h4'
theorem rf_breakE {g : Operand} {ps : Array Tmp} {assign body : Code} {Q : Exit → Act → World → Prop} {id : Nat} {a : Act} {w : World}
    (hro : F.round = none) (h1 : 1 ≤ n) {gf : Nat} {lb : Array Value} (hg : a.eval g = .func (.func gf) #[] lb) (hFg : F.fn gf) (eg : ∀ args w, (callFunc gf args).run P w = .ok (.enter gf args) w)
    {encs : Nat → Array Value} {N : Nat} {own : Nat → Prop} {Kp : World → World → Prop} (hps : ∀ k, (encs k).size = ps.size) (hrow : ∀ b, own b → b ≠ w.heap.size ∧ b ≠ w.heap.size + 1)
    (hit : ∀ W, Below w.heap.size w W → W.heap.size = w.heap.size + 2 → IterAt F (n - 1) P gf lb encs N own Kp W)
    (hKt : ∀ {A B C : World}, Kp A B → Kp B C → Kp A C) (hKb : ∀ (W : World) (o o' : Obj), W.heap[w.heap.size + 1]? = some o → o.isCells = false → Kp W (W.putObj (w.heap.size + 1) o'))
    (I : Nat → World → Prop) (IE : World → Prop) (hI : ∀ k X Y, I k X → Turn w.heap.size own X Y → I k Y) (hIE : ∀ X Y, IE X → Turn w.heap.size own X Y → IE Y) (h0 : I 0 w)
    (hE : ∃ A2 : Nat → Act, (∀ (l k : Nat) (W : World) (K : Act → World → Prop), k < N → I k W → (∀ W', KeepsFrom w.heap.size W W' → Kp W W' → I k W' → K (A2 k) W') →
        assign.wpIn (F.inRound l) (n - 1 - 1) P (Exit.then K (fun _ _ _ => False)) { tmps := (ps.zip (encs k)).foldl (fun t (p, v) => t.setIfInBounds p v) a.tmps, defers := [] } W) ∧
      (∀ (l k : Nat) (W : World), w.heap.size ≤ l → (∃ r, W.heap[l]? = some (.loop r)) → k < N → I k W → body.wpIn (F.inRound l) (n - 1 - 1) P (rfPost w.heap.size Kp (I (k + 1)) (fun c X => c = .exit id ∧ IE X) W) (A2 k) W) ∧ (∀ W, I N W → IE W) ∧ (∀ (D : Nat) (W : World), w.heap.size ≤ D → IE W → W.heap[D]? = some (.deferred (some [])) → Q .normal { a with defers := { target := .collected D, args := #[] } :: a.defers } W)) :
    (Code.rangeFunc g ps assign body).wpIn F n P (Exit.inBlock id Q) a w := by
  obtain ⟨A2, h1', h2', h3', h4'⟩ := hE
  exact rf_break hro h1 hg hFg eg hps hrow hit hKt hKb I IE hI hIE h0 (fun k b _ => b = A2 k) (fun _ _ _ _ h _ => h) (fun l k W K hk hi hK => h1' l k W K hk hi (fun W' a b c => hK _ W' a b c rfl)) (fun l k b W hl hr hk hi hb => by subst hb; exact h2' l k W hl hr hk hi) h3' h4'
theorem rf_breakE_inner {g : Operand} {ps : Array Tmp} {assign body : Code} {Q : Exit → Act → World → Prop} {id : Nat} {a : Act} {w : World} {l₀ : Nat} {r₀ : Loop}
    (hro : F.round = some l₀) (hr₀ : w.heap[l₀]? = some (.loop r₀)) (h1 : 1 ≤ n) {gf : Nat} {lb : Array Value} (hg : a.eval g = .func (.func gf) #[] lb) (hFg : F.fn gf) (eg : ∀ args w, (callFunc gf args).run P w = .ok (.enter gf args) w)
    {encs : Nat → Array Value} {N : Nat} {own : Nat → Prop} {Kp : World → World → Prop} (hps : ∀ k, (encs k).size = ps.size) (hrow : ∀ b, own b → b ≠ w.heap.size)
    (hit : ∀ W, Below w.heap.size w W → W.heap.size = w.heap.size + 1 → IterAt F (n - 1) P gf lb encs N own Kp W)
    (hKt : ∀ {A B C : World}, Kp A B → Kp B C → Kp A C) (hKb : ∀ (W : World) (o o' : Obj), W.heap[w.heap.size]? = some o → o.isCells = false → Kp W (W.putObj w.heap.size o'))
    (I : Nat → World → Prop) (IE : World → Prop) (hI : ∀ k X Y, I k X → Turn w.heap.size own X Y → I k Y) (hIE : ∀ X Y, IE X → Turn w.heap.size own X Y → IE Y) (h0 : I 0 w)
    (hE : ∃ A2 : Nat → Act, (∀ (l k : Nat) (W : World) (K : Act → World → Prop), k < N → I k W → (∀ W', KeepsFrom w.heap.size W W' → Kp W W' → I k W' → K (A2 k) W') →
        assign.wpIn (F.inRound l) (n - 1 - 1) P (Exit.then K (fun _ _ _ => False)) { tmps := (ps.zip (encs k)).foldl (fun t (p, v) => t.setIfInBounds p v) a.tmps, defers := [] } W) ∧
      (∀ (l k : Nat) (W : World), w.heap.size ≤ l → (∃ r, W.heap[l]? = some (.loop r)) → k < N → I k W → body.wpIn (F.inRound l) (n - 1 - 1) P (rfPost w.heap.size Kp (I (k + 1)) (fun c X => c = .exit id ∧ IE X) W) (A2 k) W) ∧ (∀ W, I N W → IE W) ∧ (∀ (W : World), IE W → Q .normal a W)) :
    (Code.rangeFunc g ps assign body).wpIn F n P (Exit.inBlock id Q) a w := by
  obtain ⟨A2, h1', h2', h3', h4'⟩ := hE
  exact rf_break_inner hro hr₀ h1 hg hFg eg hps hrow hit hKt hKb I IE hI hIE h0 (fun k b _ => b = A2 k) (fun _ _ _ _ h _ => h) (fun l k W K hk hi hK => h1' l k W K hk hi (fun W' a b c => hK _ W' a b c rfl)) (fun l k b W hl hr hk hi hb => by subst hb; exact h2' l k W hl hr hk hi) h3' h4'
end
/-- the old blocks as they were -/
def Ag (W X : World) : Prop := ∀ b, b < W.heap.size → X.heap[b]? = W.heap[b]?
theorem Ag.size {W X : World} (h : Ag W X) : W.heap.size ≤ X.heap.size := by
  rcases Nat.eq_zero_or_pos W.heap.size with h0 | h0
  · omega
  · have h1 := h (W.heap.size - 1) (by omega)
    rw [Array.getElem?_eq_getElem (by omega : W.heap.size - 1 < W.heap.size)] at h1
    have := (Array.getElem?_eq_some_iff.1 h1).1
    omega
theorem Ag.refl (W : World) : Ag W W := fun _ _ => rfl
theorem Ag.of {W X : World} (h : Below W.heap.size W X) : Ag W X := fun b hb => h.block b hb
def likeA (W X : World) : World := { X with os := W.os, tape := W.tape, output := W.output }
theorem Ag.like {W X : World} (h : Ag W X) : Below W.heap.size W (likeA W X) := ⟨rfl, rfl, rfl, h.size, h⟩
theorem Ag.kx {W X : World} (h : Ag W X) (hk : KX W) : KX X :=
  have k := hk.below (w' := likeA W X) h.like
  ⟨k.mx, k.pos, k.tabs⟩
theorem Ag.shv {W X : World} {C L B : Nat} {v : Value} {Ls : List (List Ro.Pt)} (h : Ag W X) (hs : SHv W C L B v Ls) : SHv X C L B v Ls := SHv.below (w' := likeA W X) hs h.like
theorem Ag.xs {W X : World} {v : Value} {L : List (List UInt8)} (h : Ag W X) (hs : XS W v L) : XS X v L := XS.below (w' := likeA W X) hs h.like
theorem Ag.tb {W X : World} {T : Nat} {Ls : List (List Ro.Pt)} (h : Ag W X) (hs : TB W T Ls) : TB X T Ls := TB.below (w' := likeA W X) hs h.like
theorem Ag.trans {W X Y : World} (h : Ag W X) (k : Ag X Y) : Ag W Y := fun b hb => (k b (Nat.lt_of_lt_of_le hb h.size)).trans (h b hb)
theorem Ag.turn {B : Nat} {W X Y : World} (h : Ag W X) (ht : Turn B (fun _ => False) X Y) (hB : W.heap.size ≤ B) : Ag W Y :=
  fun b hb => (ht.block b (Nat.lt_of_lt_of_le hb h.size) id (fun h => by omega)).trans (h b hb)
theorem Ag.keep {W X Y : World} {E : Nat} (h : Ag W X) (ht : KeepB W.heap.size E X Y) : Ag W Y :=
  fun b hb => (ht b (.inl hb) (Nat.lt_of_lt_of_le hb h.size)).trans (h b hb)
theorem Ag.set {W X : World} (h : Ag W X) (g i : Nat) (y : Value) (hg : W.heap.size ≤ g) : Ag W (X.setCell ⟨g, i, none⟩ y) :=
  fun b hb => (Below.heap_setCell _ _ _ _ (by show b ≠ g; omega)).trans (h b hb)
theorem lw_num (n : Int) (w : World) (h : -9223372036854775808 ≤ n ∧ n ≤ 9223372036854775807) :
    Calls Tryz.prog 15 #[.int .i64 n] w fun e w' => e = .returned (.int .i64 n) ∧ w' = w := by
  go_enter Tryz.func15, Tryz.ntmps15
  go_wp2
  go_ret
  exact ⟨rfl, rfl⟩
end Go.Proofs.YtgfammlmbjmkoaaGreatDoor

/- The law's works. -/
namespace Go.Proofs.YtgfammlmbjmkoaaGreatDoor
set_option linter.unusedVariables false
set_option linter.unusedSimpArgs false
open Go.RowKit Go.Shelf
attribute [local go_sem] Oper.semAt_some
set_option maxHeartbeats 8000000
set_option maxRecDepth 100000
theorem pts_lit {W : World} {b c : Nat} (L : List Ro.Pt) (h : W.heap[b]? = some (.cells (pts L).toArray 35 (0, 0))) (h1 : L.length ≤ c) (h2 : c ≤ maxLen) : PtS W (.slice (some ⟨b, 0, none⟩) L.length c) L := by
  refine .inr ⟨b, 0, c, rfl, h1, h2, fun j hj => ?_⟩
  obtain ⟨h3, h4⟩ := pts_get L j hj
  rw [Nat.zero_add]
  constructor
  · simp only [World.cell?, h, Option.isSome_none, Bool.false_eq_true, if_false]; rw [← h3]; simp
  · simp only [World.cell?, h, Option.isSome_none, Bool.false_eq_true, if_false]; rw [← h4]; simp
theorem xs_lit {W : World} {b c : Nat} {t : TypeId} (L : List (List UInt8)) (h : W.heap[b]? = some (.cells (L.map sv).toArray t (0, 0))) : XS W (.slice (some ⟨b, 0, none⟩) L.length c) L := by
  refine .inr ⟨b, 0, c, rfl, fun j hj => ?_⟩
  rw [Nat.zero_add]
  simp [World.cell?, h, List.getElem?_eq_getElem hj, List.getD_eq_getElem?_getD]
theorem pts_nil (W : World) : PtS W (.slice none 0 0) [] := .inl ⟨none, 0, rfl, rfl⟩
theorem xs_nil (W : World) : XS W (.slice none 0 0) [] := .inl ⟨none, 0, rfl, rfl⟩
def wkL : List Ro.Pt := [(1, [97]), (2, []), (3, [])]
theorem wk_p1 : Ro.parse (⟨#[47, 97, 47, 42, 47, 42, 42]⟩ : ByteArray).data.toList = some wkL := by decide +kernel
def wkR : List (List Ro.Pt) := [[(1, [97]), (1, [98])], [(1, [97]), (2, [])], [(1, [97]), (1, [99])]]
def wkT : List (List UInt8) := [[47, 97, 47, 98], [47, 97, 47, 42], [47, 97, 47, 99]]
theorem wk_new : Gt.all? Ro.parse wkT = some wkR := by decide +kernel
theorem wk_t1 : Ro.text [(1, [97, 47, 98]), (3, [])] = some [47, 97, 37, 50, 70, 98, 47, 42, 42] := by decide +kernel
theorem wk_t2 : Ro.text [(3, []), (1, [97])] = none := by decide +kernel
theorem wk_t3 : Ro.text [] = none := by decide +kernel
theorem wk_t4 : Ro.text [(1, [])] = some [47] := by decide +kernel
theorem wk_at : Ro.text (wkR.getD 2 []) = some [47, 97, 47, 99] := by decide +kernel
theorem wk_f1 : Ro.place (fun L => Ro.fits L [[97], [99]]) wkR = 1 := by decide +kernel
theorem wk_f2 : Ro.place (fun L => Ro.fits L [[98]]) wkR = -1 := by decide +kernel
theorem wk_sh : Ro.shs wkR wkR.length = [(2, 1)] := by decide +kernel
theorem wk_small : Small wkR := by
  refine ⟨by decide, fun L hL => ?_⟩
  simp only [wkR, List.mem_cons, List.not_mem_nil, or_false] at hL
  rcases hL with rfl | rfl | rfl
  all_goals
    refine ⟨by decide, fun p hp => ?_⟩
    simp only [List.mem_cons, List.not_mem_nil, or_false] at hp
    rcases hp with rfl | rfl <;> decide
theorem wk_c1 : Ro.parse (⟨#[47, 97, 47, 42, 42, 47, 98]⟩ : ByteArray).data.toList = none := by decide +kernel
theorem wk_c2 : Ro.parse (⟨#[97]⟩ : ByteArray).data.toList = none := by decide +kernel
theorem wk_c3 : Ro.parse (⟨#[47, 97, 37, 50, 102, 98]⟩ : ByteArray).data.toList = none := by decide +kernel
theorem wk_c4 : Ro.parse (⟨#[47, 97, 37, 50, 70, 98]⟩ : ByteArray).data.toList = some [(1, [97, 47, 98])] := by decide +kernel
theorem wk_g1 : Ro.fitsT (⟨#[47, 97, 47, 42]⟩ : ByteArray).data.toList [[97], [98]] = true := by decide +kernel
theorem wk_g2 : Ro.fitsT (⟨#[47, 97, 47, 42]⟩ : ByteArray).data.toList [[97]] = false := by decide +kernel
theorem wk_g3 : Ro.fitsT (⟨#[47, 97, 47, 42, 42]⟩ : ByteArray).data.toList [[97]] = true := by decide +kernel
theorem wk_g4 : Ro.fitsT (⟨#[47, 42, 42]⟩ : ByteArray).data.toList [] = true := by decide +kernel
theorem wk_h1 : Ro.coversT (⟨#[47, 97, 47, 42, 42]⟩ : ByteArray).data.toList (⟨#[47, 97, 47, 42]⟩ : ByteArray).data.toList = true := by decide +kernel
theorem wk_h2 : Ro.coversT (⟨#[47, 97, 47, 42]⟩ : ByteArray).data.toList (⟨#[47, 97, 47, 42, 42]⟩ : ByteArray).data.toList = false := by decide +kernel
/-- a block of calls put off that stays empty -/
def KD (w : World) (D : Nat) : Prop := w.heap[D]? = some (.deferred (some []))
theorem KD.below {w w' : World} {D : Nat} (h : KD w D) (k : Below w.heap.size w w') : KD w' D := (k.block D (Array.getElem?_eq_some_iff.1 h).1).trans h
theorem seq_nil (f : Fn) (a c : Array Value) (W : World) : (binOp BinOp.eql 55 (.func f a c) .nilFunc).run Tryz.prog W = .ok (.bool false) W := by kernel_rfl
theorem New_yes {B : Nat} {L : List (List UInt8)} {R : List (List Ro.Pt)} {e : Ending} {w : World} (h : NwOut B L e w) (h1 : L.length ≤ 256) (h2 : Gt.all? Ro.parse L = some R) : ∃ T, e = .returned (.tuple #[.pointer (some ⟨T, 0, none⟩), .int .i64 0]) ∧ TB w T R ∧ B ≤ T := by
  rcases h with ⟨R', T, _, h3, h4, h5, h6⟩ | ⟨_, h3, _⟩ | ⟨h3, _⟩
  · rw [h2] at h3; cases h3; exact ⟨T, h4, h5, h6⟩
  · rw [h2] at h3; cases h3
  · omega

theorem lw_works (w : World) (hk : KX w) :
    Calls Tryz.prog 11 #[] w fun e w' => e = .returned (.bool true) ∧ Below w.heap.size w w' := by
  have HK := Lib.hid hk
  clear hk
  have HNU := Lib.hid lw_num
  refine callsIn_wide.1 (callsIn_of_wp_marks (F := Fence.wide) (n := 9) Tryz.func11 rfl trivial ?_ rfl)
  simp only [Tryz.ntmps11, List.size_toArray, List.length_cons, List.length_nil, Nat.reduceAdd, Nat.reduceSub, Array.replicate_succ, Array.replicate_zero, List.push_toArray, List.append_toArray, List.nil_append, List.cons_append]
  obtain ⟨B, hB⟩ : ∃ B, w.heap.size = B := ⟨_, rfl⟩
  have HBB := Lib.hid hB
  obtain ⟨w0, hw0⟩ : ∃ Z, w.alloc (.cells #[.bool false] 4) = Z := ⟨_, rfl⟩
  have HB0 : Hid (Below w.heap.size w w0) := Lib.hid (by rw [← hw0]; exact (Below.refl _ w).alloc (Nat.le_refl _) _)
  have HR0 : Hid (Boxed w0 B 4 (.bool false)) := Lib.hid (by rw [← hw0, ← hB]; exact Boxed.new w 4 (.bool false))
  have HW0 := Lib.hid hw0
  clear hB hw0
  gi_wp2_with fail
  rw [HW0.out, HBB.out]
  have K1 := Lib.hid (rt_Parse ⟨#[47, 97, 47, 42, 47, 42, 42]⟩ w0 (by decide) (HK.out.below HB0.out))
  gi_wp2_with fail
  rw [wk_p1] at K1
  refine ⟨trivial, (callsIn_wide.2 K1.out).mono ?_⟩
  rintro e w1 ⟨⟨r1, rfl, hp1⟩, hb⟩
  have HL := Lib.hid hp1
  obtain ⟨lp, lc, rfl⟩ := hp1.slice
  have HB1 : Hid (Below w.heap.size w w1) := Lib.hid (HB0.out.trans (hb.mono HB0.out.size))
  have HR1 : Hid (Boxed w1 B 4 (.bool false)) := Lib.hid ((hb.block _ HR0.out.lt).trans HR0.out)
  clear hb hp1 K1
  obtain ⟨w2, hw2⟩ : ∃ Z, w1.alloc (.cells #[.int .i64 1, .string ⟨#[97, 47, 98]⟩, .int .i64 3, .string ⟨#[]⟩] 35) = Z := ⟨_, rfl⟩
  have hl2 : Below w1.heap.size w1 w2 := by rw [← hw2]; exact (Below.refl _ _).alloc (Nat.le_refl _) _
  have HG2 := Lib.hid (show w2.heap[w1.heap.size]? = some (.cells #[.int .i64 1, .string ⟨#[97, 47, 98]⟩, .int .i64 3, .string ⟨#[]⟩] 35 (0, 0)) by rw [← hw2]; exact World.alloc_heap_new _ _)
  have HB2 : Hid (Below w.heap.size w w2) := Lib.hid (HB1.out.trans (hl2.mono HB1.out.size))
  have HR2 : Hid (Boxed w2 B 4 (.bool false)) := Lib.hid ((hl2.block _ HR1.out.lt).trans HR1.out)
  have HL := Lib.hid (HL.out.below hl2)
  have HW2 := Lib.hid hw2
  clear hl2 hw2
  have K3 := Lib.hid (rt_Text (.slice (some ⟨w1.heap.size, 0, none⟩) 2 2) [(1, [97, 47, 98]), (3, [])] w2 (pts_lit [(1, [97, 47, 98]), (3, [])] HG2.out (by decide) (by decide)) (by decide) (by decide) (HK.out.below HB2.out))
  gi_wp2_with fail
  rw [wk_t1] at K3
  simp only [txOut, rtErr, sv, Option.getD_some, Option.getD_none, Option.isSome_some, Option.isSome_none, if_true, Bool.false_eq_true, if_false] at K3
  rw [HW2.out]
  refine ⟨trivial, (callsIn_wide.2 K3.out).mono ?_⟩
  rintro e w3 ⟨rfl, hb⟩
  have HB3 : Hid (Below w.heap.size w w3) := Lib.hid (HB2.out.trans (hb.mono HB2.out.size))
  have HR3 : Hid (Boxed w3 B 4 (.bool false)) := Lib.hid ((hb.block _ HR2.out.lt).trans HR2.out)
  have HL := Lib.hid (HL.out.below hb)
  clear hb K3
  obtain ⟨w4, hw4⟩ : ∃ Z, w3.alloc (.cells #[.int .i64 3, .string ⟨#[]⟩, .int .i64 1, .string ⟨#[97]⟩] 35) = Z := ⟨_, rfl⟩
  have hl4 : Below w3.heap.size w3 w4 := by rw [← hw4]; exact (Below.refl _ _).alloc (Nat.le_refl _) _
  have HG4 := Lib.hid (show w4.heap[w3.heap.size]? = some (.cells #[.int .i64 3, .string ⟨#[]⟩, .int .i64 1, .string ⟨#[97]⟩] 35 (0, 0)) by rw [← hw4]; exact World.alloc_heap_new _ _)
  have HB4 : Hid (Below w.heap.size w w4) := Lib.hid (HB3.out.trans (hl4.mono HB3.out.size))
  have HR4 : Hid (Boxed w4 B 4 (.bool false)) := Lib.hid ((hl4.block _ HR3.out.lt).trans HR3.out)
  have HL := Lib.hid (HL.out.below hl4)
  have HW4 := Lib.hid hw4
  clear hl4 hw4
  have K5 := Lib.hid (rt_Text (.slice (some ⟨w3.heap.size, 0, none⟩) 2 2) [(3, []), (1, [97])] w4 (pts_lit [(3, []), (1, [97])] HG4.out (by decide) (by decide)) (by decide) (by decide) (HK.out.below HB4.out))
  gi_wp2_with fail
  rw [wk_t2] at K5
  simp only [txOut, rtErr, sv, Option.getD_some, Option.getD_none, Option.isSome_some, Option.isSome_none, if_true, Bool.false_eq_true, if_false] at K5
  rw [HW4.out]
  refine ⟨trivial, (callsIn_wide.2 K5.out).mono ?_⟩
  rintro e w5 ⟨rfl, hb⟩
  have HB5 : Hid (Below w.heap.size w w5) := Lib.hid (HB4.out.trans (hb.mono HB4.out.size))
  have HR5 : Hid (Boxed w5 B 4 (.bool false)) := Lib.hid ((hb.block _ HR4.out.lt).trans HR4.out)
  have HL := Lib.hid (HL.out.below hb)
  clear hb K5
  have K6 := Lib.hid (rt_Text (.slice none 0 0) [] w5 (pts_nil _) (by decide) (by decide) (HK.out.below HB5.out))
  gi_wp2_with fail
  rw [wk_t3] at K6
  simp only [txOut, rtErr, sv, Option.getD_some, Option.getD_none, Option.isSome_some, Option.isSome_none, if_true, Bool.false_eq_true, if_false] at K6
  refine ⟨trivial, (callsIn_wide.2 K6.out).mono ?_⟩
  rintro e w6 ⟨rfl, hb⟩
  have HB6 : Hid (Below w.heap.size w w6) := Lib.hid (HB5.out.trans (hb.mono HB5.out.size))
  have HR6 : Hid (Boxed w6 B 4 (.bool false)) := Lib.hid ((hb.block _ HR5.out.lt).trans HR5.out)
  have HL := Lib.hid (HL.out.below hb)
  clear hb K6
  obtain ⟨w7, hw7⟩ : ∃ Z, w6.alloc (.cells #[.int .i64 1, .string ⟨#[]⟩] 35) = Z := ⟨_, rfl⟩
  have hl7 : Below w6.heap.size w6 w7 := by rw [← hw7]; exact (Below.refl _ _).alloc (Nat.le_refl _) _
  have HG7 := Lib.hid (show w7.heap[w6.heap.size]? = some (.cells #[.int .i64 1, .string ⟨#[]⟩] 35 (0, 0)) by rw [← hw7]; exact World.alloc_heap_new _ _)
  have HB7 : Hid (Below w.heap.size w w7) := Lib.hid (HB6.out.trans (hl7.mono HB6.out.size))
  have HR7 : Hid (Boxed w7 B 4 (.bool false)) := Lib.hid ((hl7.block _ HR6.out.lt).trans HR6.out)
  have HL := Lib.hid (HL.out.below hl7)
  have HW7 := Lib.hid hw7
  clear hl7 hw7
  have K8 := Lib.hid (rt_Text (.slice (some ⟨w6.heap.size, 0, none⟩) 1 1) [(1, [])] w7 (pts_lit [(1, [])] HG7.out (by decide) (by decide)) (by decide) (by decide) (HK.out.below HB7.out))
  gi_wp2_with fail
  rw [wk_t4] at K8
  simp only [txOut, rtErr, sv, Option.getD_some, Option.getD_none, Option.isSome_some, Option.isSome_none, if_true, Bool.false_eq_true, if_false] at K8
  rw [HW7.out]
  refine ⟨trivial, (callsIn_wide.2 K8.out).mono ?_⟩
  rintro e w8 ⟨rfl, hb⟩
  have HB8 : Hid (Below w.heap.size w w8) := Lib.hid (HB7.out.trans (hb.mono HB7.out.size))
  have HR8 : Hid (Boxed w8 B 4 (.bool false)) := Lib.hid ((hb.block _ HR7.out.lt).trans HR7.out)
  have HL := Lib.hid (HL.out.below hb)
  clear hb K8
  obtain ⟨w9, hw9⟩ : ∃ Z, w8.alloc (.cells #[.string ⟨#[47, 97, 47, 98]⟩, .string ⟨#[47, 97, 47, 42]⟩, .string ⟨#[47, 97, 47, 99]⟩] 9) = Z := ⟨_, rfl⟩
  have hl9 : Below w8.heap.size w8 w9 := by rw [← hw9]; exact (Below.refl _ _).alloc (Nat.le_refl _) _
  have HG9 := Lib.hid (show w9.heap[w8.heap.size]? = some (.cells #[.string ⟨#[47, 97, 47, 98]⟩, .string ⟨#[47, 97, 47, 42]⟩, .string ⟨#[47, 97, 47, 99]⟩] 9 (0, 0)) by rw [← hw9]; exact World.alloc_heap_new _ _)
  have HB9 : Hid (Below w.heap.size w w9) := Lib.hid (HB8.out.trans (hl9.mono HB8.out.size))
  have HR9 : Hid (Boxed w9 B 4 (.bool false)) := Lib.hid ((hl9.block _ HR8.out.lt).trans HR8.out)
  have HL := Lib.hid (HL.out.below hl9)
  have HW9 := Lib.hid hw9
  clear hl9 hw9
  have K10 := Lib.hid (rt_New (.slice (some ⟨w8.heap.size, 0, none⟩) 3 3) wkT w9 (xs_lit wkT HG9.out) (by decide) (by decide) (HK.out.below HB9.out))
  gi_wp2_with fail
  rw [HW9.out]
  refine ⟨trivial, (callsIn_wide.2 K10.out).mono ?_⟩
  rintro e w10 ⟨ho, hb⟩
  obtain ⟨T, rfl, ht, _⟩ := New_yes ho (by decide) wk_new
  have HB10 : Hid (Below w.heap.size w w10) := Lib.hid (HB9.out.trans (hb.mono HB9.out.size))
  have HR10 : Hid (Boxed w10 B 4 (.bool false)) := Lib.hid ((hb.block _ HR9.out.lt).trans HR9.out)
  have HL := Lib.hid (HL.out.below hb)
  have HT := Lib.hid ht
  clear hb ht ho K10
  gi_wp2_with fail
  refine ⟨trivial, (callsIn_wide.2 (HNU.out 0 w10 (by omega))).mono ?_⟩
  rintro e wx ⟨rfl, hwx⟩
  subst wx
  gi_wp2_with fail
  refine ⟨trivial, (callsIn_wide.2 (HNU.out 0 w10 (by omega))).mono ?_⟩
  rintro e wx ⟨rfl, hwx⟩
  subst wx
  gi_wp2_with fail
  refine ⟨trivial, (callsIn_wide.2 (HNU.out 0 w10 (by omega))).mono ?_⟩
  rintro e wx ⟨rfl, hwx⟩
  subst wx
  gi_wp2_with fail
  refine ⟨trivial, (callsIn_wide.2 (HNU.out 0 w10 (by omega))).mono ?_⟩
  rintro e wx ⟨rfl, hwx⟩
  subst wx
  gi_wp2_with fail
  refine ⟨trivial, (callsIn_wide.2 (HNU.out 360 w10 (by omega))).mono ?_⟩
  rintro e wx ⟨rfl, hwx⟩
  subst wx
  gi_wp2_with fail
  refine ⟨trivial, (callsIn_wide.2 (HNU.out 360 w10 (by omega))).mono ?_⟩
  rintro e wx ⟨rfl, hwx⟩
  subst wx
  gi_wp2_with fail
  obtain ⟨w11, hw11⟩ : ∃ Z, w10.alloc (.cells #[.int .i64 1, .string ⟨#[97]⟩, .int .i64 2, .string ⟨#[]⟩, .int .i64 3, .string ⟨#[]⟩] 35) = Z := ⟨_, rfl⟩
  have hl11 : Below w10.heap.size w10 w11 := by rw [← hw11]; exact (Below.refl _ _).alloc (Nat.le_refl _) _
  have HG11 := Lib.hid (show w11.heap[w10.heap.size]? = some (.cells #[.int .i64 1, .string ⟨#[97]⟩, .int .i64 2, .string ⟨#[]⟩, .int .i64 3, .string ⟨#[]⟩] 35 (0, 0)) by rw [← hw11]; exact World.alloc_heap_new _ _)
  have HB11 : Hid (Below w.heap.size w w11) := Lib.hid (HB10.out.trans (hl11.mono HB10.out.size))
  have HR11 : Hid (Boxed w11 B 4 (.bool false)) := Lib.hid ((hl11.block _ HR10.out.lt).trans HR10.out)
  have HL := Lib.hid (HL.out.below hl11)
  have HT := Lib.hid (HT.out.below hl11)
  have HW11 := Lib.hid hw11
  clear hl11 hw11
  rw [HW11.out]
  have K12 := Lib.hid (rf_Parts _ (.slice (some ⟨w10.heap.size, 0, none⟩) 3 3) wkL wkL w11 HL.out (pts_lit wkL HG11.out (by decide) (by decide)) (by decide) (by decide))
  rw [show decide (wkL = wkL) = true from decide_eq_true rfl] at K12
  refine ⟨trivial, (callsIn_wide.2 K12.out).mono ?_⟩
  rintro e w12 ⟨rfl, jn, rfl⟩
  have hb : Below w11.heap.size w11 (w11.drewN jn) := below_drewN (Below.refl _ _) jn
  obtain ⟨w12, hwd⟩ : ∃ Z, w11.drewN jn = Z := ⟨_, rfl⟩
  rw [hwd] at hb ⊢
  have HB12 : Hid (Below w.heap.size w w12) := Lib.hid (HB11.out.trans (hb.mono HB11.out.size))
  have HR12 : Hid (Boxed w12 B 4 (.bool false)) := Lib.hid ((hb.block _ HR11.out.lt).trans HR11.out)
  have HL := Lib.hid (HL.out.below hb)
  have HT := Lib.hid (HT.out.below hb)
  clear hb hwd K12
  clear HL
  obtain ⟨w13, hw13⟩ : ∃ Z, w12.alloc (.cells #[.string ⟨#[97]⟩, .string ⟨#[99]⟩] 9) = Z := ⟨_, rfl⟩
  have hl13 : Below w12.heap.size w12 w13 := by rw [← hw13]; exact (Below.refl _ _).alloc (Nat.le_refl _) _
  have HG13 := Lib.hid (show w13.heap[w12.heap.size]? = some (.cells #[.string ⟨#[97]⟩, .string ⟨#[99]⟩] 9 (0, 0)) by rw [← hw13]; exact World.alloc_heap_new _ _)
  have HB13 : Hid (Below w.heap.size w w13) := Lib.hid (HB12.out.trans (hl13.mono HB12.out.size))
  have HR13 : Hid (Boxed w13 B 4 (.bool false)) := Lib.hid ((hl13.block _ HR12.out.lt).trans HR12.out)
  have HT := Lib.hid (HT.out.below hl13)
  have HW13 := Lib.hid hw13
  clear hl13 hw13
  have K14 := Lib.hid (rt_Find T (.slice (some ⟨w12.heap.size, 0, none⟩) 2 2) wkR [[97], [99]] w13 HT.out (xs_lit [[97], [99]] HG13.out) wk_small (by decide))
  gi_wp2_with fail
  rw [wk_f1] at K14
  unfold fdOut at K14
  rw [HW13.out]
  refine ⟨trivial, (callsIn_wide.2 K14.out).mono ?_⟩
  rintro e w14 ⟨rfl, hb⟩
  have HB14 : Hid (Below w.heap.size w w14) := Lib.hid (HB13.out.trans (hb.mono HB13.out.size))
  have HR14 : Hid (Boxed w14 B 4 (.bool false)) := Lib.hid ((hb.block _ HR13.out.lt).trans HR13.out)
  have HT := Lib.hid (HT.out.below hb)
  clear hb K14
  obtain ⟨w15, hw15⟩ : ∃ Z, w14.alloc (.cells #[.string ⟨#[98]⟩] 9) = Z := ⟨_, rfl⟩
  have hl15 : Below w14.heap.size w14 w15 := by rw [← hw15]; exact (Below.refl _ _).alloc (Nat.le_refl _) _
  have HG15 := Lib.hid (show w15.heap[w14.heap.size]? = some (.cells #[.string ⟨#[98]⟩] 9 (0, 0)) by rw [← hw15]; exact World.alloc_heap_new _ _)
  have HB15 : Hid (Below w.heap.size w w15) := Lib.hid (HB14.out.trans (hl15.mono HB14.out.size))
  have HR15 : Hid (Boxed w15 B 4 (.bool false)) := Lib.hid ((hl15.block _ HR14.out.lt).trans HR14.out)
  have HT := Lib.hid (HT.out.below hl15)
  have HW15 := Lib.hid hw15
  clear hl15 hw15
  have K16 := Lib.hid (rt_Find T (.slice (some ⟨w14.heap.size, 0, none⟩) 1 1) wkR [[98]] w15 HT.out (xs_lit [[98]] HG15.out) wk_small (by decide))
  gi_wp2_with fail
  rw [wk_f2] at K16
  unfold fdOut at K16
  rw [HW15.out]
  refine ⟨trivial, (callsIn_wide.2 K16.out).mono ?_⟩
  rintro e w16 ⟨rfl, hb⟩
  have HB16 : Hid (Below w.heap.size w w16) := Lib.hid (HB15.out.trans (hb.mono HB15.out.size))
  have HR16 : Hid (Boxed w16 B 4 (.bool false)) := Lib.hid ((hb.block _ HR15.out.lt).trans HR15.out)
  have HT := Lib.hid (HT.out.below hb)
  clear hb K16
  have K17 := Lib.hid (rt_At T 2 wkR w16 HT.out wk_small (by decide) (HK.out.below HB16.out))
  gi_wp2_with fail
  rw [wk_at] at K17
  simp only [sv, Option.getD_some] at K17
  refine ⟨trivial, (callsIn_wide.2 K17.out).mono ?_⟩
  rintro e w17 ⟨rfl, hb⟩
  have HB17 : Hid (Below w.heap.size w w17) := Lib.hid (HB16.out.trans (hb.mono HB16.out.size))
  have HR17 : Hid (Boxed w17 B 4 (.bool false)) := Lib.hid ((hb.block _ HR16.out.lt).trans HR16.out)
  have HT := Lib.hid (HT.out.below hb)
  clear hb K17
  have K18 := Lib.hid (rt_Shadowed T wkR w17 HT.out (by decide))
  gi_wp2_with fail
  refine ⟨trivial, (callsIn_wide.2 K18.out).mono ?_⟩
  rintro e w18 ⟨C, rfl, hs, _, hb⟩
  have HB18 : Hid (Below w.heap.size w w18) := Lib.hid (HB17.out.trans (hb.mono HB17.out.size))
  have HR18 : Hid (Boxed w18 B 4 (.bool false)) := Lib.hid ((hb.block _ HR17.out.lt).trans HR17.out)
  have HT := Lib.hid (HT.out.below hb)
  obtain ⟨L, Bs, v, hsv⟩ := hs
  have HS := Lib.hid hsv
  clear hb hsv K18 HT
  have hsq := seq_nil
  obtain ⟨G, hG⟩ : ∃ G, w18.heap.size = G := ⟨_, rfl⟩
  obtain ⟨V0, hV0⟩ : ∃ Z, w18.alloc (.cells #[.int .i64 0] 3) = Z := ⟨_, rfl⟩
  have a0 : Below w18.heap.size w18 V0 := by rw [← hV0]; exact (Below.refl _ _).alloc (Nat.le_refl _) _
  have bG : Boxed V0 G 3 (.int .i64 0) := by rw [← hV0, ← hG]; exact Boxed.new _ _ _
  have HGG := Lib.hid hG
  have HV0 := Lib.hid hV0
  have HA0 := Lib.hid a0
  have HbG := Lib.hid bG
  have HVL := Lib.hid (show V0.heap.size = G + 1 by rw [← hV0, ← hG]; simp)
  clear hG hV0 a0 bG
  gi_wp2_with fail
  rw [HV0.out, HGG.out]
  have hb0 := HbG.out
  refine rf_outerE (N := (Ro.shs wkR wkR.length).length) (own := fun _ => False) (Kp := KeepB G 0) (encs := fun j => #[.int .i64 ((Ro.shs wkR wkR.length).getD j (0, 0)).1, .int .i64 ((Ro.shs wkR wkR.length).getD j (0, 0)).2]) rfl (by omega) (gf := 57) (lb := #[.pointer (some ⟨C, 0, none⟩)]) rfl trivial (enters_of Tryz.func57 (by kernel_rfl) rfl)
    (fun _ => rfl) (fun b hb => hb.elim) ?iter KeepB.trans (fun X o o' h2 h3 => KeepB.putObj _ _ (by have := HVL.out; omega))
    (fun k X => Below w18.heap.size w18 X ∧ Boxed X G 3 (.int .i64 k)) (fun c X => False)
    (fun k X Y hs ht => ⟨hs.1.trans (ht.below (by have := HVL.out; have := HGG.out; omega) hs.1.size (fun b hb => hb.elim)), ht.boxed hs.2 id⟩) (fun c X Y hs ht => hs) ⟨HA0.out, HbG.out⟩ ?E
  case iter =>
    intro X hX hs
    refine shad_it _ C L Bs v wkR _ _ (fun X => Ag w18 X) wk_small X (fun X hX => hX.shv HS.out) (fun X Y hk hx => hx.keep (E := 0) (by rw [HGG.out]; exact hk)) (fun X' Y ht hx => hx.turn ht (by have := HVL.out; have := HGG.out; omega)) ((Ag.of HA0.out).trans (Ag.of hX))
  case E =>
    apply Exists.intro
    refine ⟨?asg, ?bod, ?don, ?stp⟩
    case asg =>
      intro l' k X K hk hi hK
      have HKK := Lib.hid hK
      clear hK hk
      gi_wp2
      exact HKK.out _ (KeepsFrom.refl _ _) (KeepB.refl _ _ _) hi
    case bod =>
      rintro l' k X hl' ⟨r, hr⟩ hk ⟨hA, hb⟩
      rw [wk_sh] at hk
      obtain rfl : k = 0 := by simpa using hk
      rw [wk_sh]
      have HA := Lib.hid hA
      have HBX := Lib.hid hb
      have c0 := hb.cell
      have f0 := hb.frozen
      clear hA hb hk
      gi_wp2_with fail
      change KeepsFrom _ _ _ ∧ _ ∧ _
      exact ⟨(KeepsOthers.setCell _ _ _).from _, KeepB.setCell _ _ (by have h1 := HR18.out.lt; have h2 := HGG.out; intro hh; rcases hh with hh | hh <;> omega), HA.out.setCell (p := ⟨G, 0, none⟩) (by show w18.heap.size ≤ G; rw [HGG.out]; exact Nat.le_refl _) _, HBX.out.set _⟩
    case stp => exact fun D c X hD hf => hf.elim
    case don =>
      rintro D w19 hD ⟨hb, bn⟩ hKD
      rw [wk_sh] at bn
      have cn := bn.cell
      have HD := Lib.hid hD
      have HKD := Lib.hid (show KD w19 D from hKD)
      have HB19 : Hid (Below w.heap.size w w19) := Lib.hid (HB18.out.trans (hb.mono HB18.out.size))
      have HR19 : Hid (Boxed w19 B 4 (.bool false)) := Lib.hid ((hb.block _ HR18.out.lt).trans HR18.out)
      clear hb bn hKD hD hb0
      have K20 := Lib.hid (rt_Check ⟨#[47, 97, 47, 42, 42, 47, 98]⟩ w19 (by decide) (HK.out.below HB19.out))
      gi_wp2_with fail
      rw [wk_c1] at K20
      simp only [rtErr, Option.isSome_some, Option.isSome_none, if_true, Bool.false_eq_true, if_false] at K20
      refine ⟨trivial, (callsIn_wide.2 K20.out).mono ?_⟩
      rintro e w20 ⟨rfl, hb⟩
      have HB20 : Hid (Below w.heap.size w w20) := Lib.hid (HB19.out.trans (hb.mono HB19.out.size))
      have HR20 : Hid (Boxed w20 B 4 (.bool false)) := Lib.hid ((hb.block _ HR19.out.lt).trans HR19.out)
      have HKD := Lib.hid (HKD.out.below hb)
      clear hb K20
      clear cn
      gi_wp2_with fail
      refine ⟨trivial, (callsIn_wide.2 (HNU.out 360 w20 (by omega))).mono ?_⟩
      rintro e wx ⟨rfl, hwx⟩
      subst wx
      have K21 := Lib.hid (rt_Check ⟨#[97]⟩ w20 (by decide) (HK.out.below HB20.out))
      gi_wp2_with fail
      rw [wk_c2] at K21
      simp only [rtErr, Option.isSome_some, Option.isSome_none, if_true, Bool.false_eq_true, if_false] at K21
      refine ⟨trivial, (callsIn_wide.2 K21.out).mono ?_⟩
      rintro e w21 ⟨rfl, hb⟩
      have HB21 : Hid (Below w.heap.size w w21) := Lib.hid (HB20.out.trans (hb.mono HB20.out.size))
      have HR21 : Hid (Boxed w21 B 4 (.bool false)) := Lib.hid ((hb.block _ HR20.out.lt).trans HR20.out)
      have HKD := Lib.hid (HKD.out.below hb)
      clear hb K21
      gi_wp2_with fail
      refine ⟨trivial, (callsIn_wide.2 (HNU.out 360 w21 (by omega))).mono ?_⟩
      rintro e wx ⟨rfl, hwx⟩
      subst wx
      have K22 := Lib.hid (rt_Check ⟨#[47, 97, 37, 50, 102, 98]⟩ w21 (by decide) (HK.out.below HB21.out))
      gi_wp2_with fail
      rw [wk_c3] at K22
      simp only [rtErr, Option.isSome_some, Option.isSome_none, if_true, Bool.false_eq_true, if_false] at K22
      refine ⟨trivial, (callsIn_wide.2 K22.out).mono ?_⟩
      rintro e w22 ⟨rfl, hb⟩
      have HB22 : Hid (Below w.heap.size w w22) := Lib.hid (HB21.out.trans (hb.mono HB21.out.size))
      have HR22 : Hid (Boxed w22 B 4 (.bool false)) := Lib.hid ((hb.block _ HR21.out.lt).trans HR21.out)
      have HKD := Lib.hid (HKD.out.below hb)
      clear hb K22
      gi_wp2_with fail
      refine ⟨trivial, (callsIn_wide.2 (HNU.out 360 w22 (by omega))).mono ?_⟩
      rintro e wx ⟨rfl, hwx⟩
      subst wx
      have K23 := Lib.hid (rt_Check ⟨#[47, 97, 37, 50, 70, 98]⟩ w22 (by decide) (HK.out.below HB22.out))
      gi_wp2_with fail
      rw [wk_c4] at K23
      simp only [rtErr, Option.isSome_some, Option.isSome_none, if_true, Bool.false_eq_true, if_false] at K23
      refine ⟨trivial, (callsIn_wide.2 K23.out).mono ?_⟩
      rintro e w23 ⟨rfl, hb⟩
      have HB23 : Hid (Below w.heap.size w w23) := Lib.hid (HB22.out.trans (hb.mono HB22.out.size))
      have HR23 : Hid (Boxed w23 B 4 (.bool false)) := Lib.hid ((hb.block _ HR22.out.lt).trans HR22.out)
      have HKD := Lib.hid (HKD.out.below hb)
      clear hb K23
      gi_wp2_with fail
      refine ⟨trivial, (callsIn_wide.2 (HNU.out 0 w23 (by omega))).mono ?_⟩
      rintro e wx ⟨rfl, hwx⟩
      subst wx
      obtain ⟨w24, hw24⟩ : ∃ Z, w23.alloc (.cells #[.string ⟨#[97]⟩, .string ⟨#[98]⟩] 9) = Z := ⟨_, rfl⟩
      have hl24 : Below w23.heap.size w23 w24 := by rw [← hw24]; exact (Below.refl _ _).alloc (Nat.le_refl _) _
      have HG24 := Lib.hid (show w24.heap[w23.heap.size]? = some (.cells #[.string ⟨#[97]⟩, .string ⟨#[98]⟩] 9 (0, 0)) by rw [← hw24]; exact World.alloc_heap_new _ _)
      have HB24 : Hid (Below w.heap.size w w24) := Lib.hid (HB23.out.trans (hl24.mono HB23.out.size))
      have HR24 : Hid (Boxed w24 B 4 (.bool false)) := Lib.hid ((hl24.block _ HR23.out.lt).trans HR23.out)
      have HKD := Lib.hid (HKD.out.below hl24)
      have HW24 := Lib.hid hw24
      clear hl24 hw24
      have K25 := Lib.hid (rt_Fits ⟨#[47, 97, 47, 42]⟩ (.slice (some ⟨w23.heap.size, 0, none⟩) 2 2) [[97], [98]] w24 (by decide) (xs_lit [[97], [98]] HG24.out) (by decide) (HK.out.below HB24.out))
      gi_wp2_with fail
      rw [wk_g1] at K25
      rw [HW24.out]
      refine ⟨trivial, (callsIn_wide.2 K25.out).mono ?_⟩
      rintro e w25 ⟨rfl, hb⟩
      have HB25 : Hid (Below w.heap.size w w25) := Lib.hid (HB24.out.trans (hb.mono HB24.out.size))
      have HR25 : Hid (Boxed w25 B 4 (.bool false)) := Lib.hid ((hb.block _ HR24.out.lt).trans HR24.out)
      have HKD := Lib.hid (HKD.out.below hb)
      clear hb K25
      obtain ⟨w26, hw26⟩ : ∃ Z, w25.alloc (.cells #[.string ⟨#[97]⟩] 9) = Z := ⟨_, rfl⟩
      have hl26 : Below w25.heap.size w25 w26 := by rw [← hw26]; exact (Below.refl _ _).alloc (Nat.le_refl _) _
      have HG26 := Lib.hid (show w26.heap[w25.heap.size]? = some (.cells #[.string ⟨#[97]⟩] 9 (0, 0)) by rw [← hw26]; exact World.alloc_heap_new _ _)
      have HB26 : Hid (Below w.heap.size w w26) := Lib.hid (HB25.out.trans (hl26.mono HB25.out.size))
      have HR26 : Hid (Boxed w26 B 4 (.bool false)) := Lib.hid ((hl26.block _ HR25.out.lt).trans HR25.out)
      have HKD := Lib.hid (HKD.out.below hl26)
      have HW26 := Lib.hid hw26
      clear hl26 hw26
      have K27 := Lib.hid (rt_Fits ⟨#[47, 97, 47, 42]⟩ (.slice (some ⟨w25.heap.size, 0, none⟩) 1 1) [[97]] w26 (by decide) (xs_lit [[97]] HG26.out) (by decide) (HK.out.below HB26.out))
      gi_wp2_with fail
      rw [wk_g2] at K27
      rw [HW26.out]
      refine ⟨trivial, (callsIn_wide.2 K27.out).mono ?_⟩
      rintro e w27 ⟨rfl, hb⟩
      have HB27 : Hid (Below w.heap.size w w27) := Lib.hid (HB26.out.trans (hb.mono HB26.out.size))
      have HR27 : Hid (Boxed w27 B 4 (.bool false)) := Lib.hid ((hb.block _ HR26.out.lt).trans HR26.out)
      have HKD := Lib.hid (HKD.out.below hb)
      clear hb K27
      obtain ⟨w28, hw28⟩ : ∃ Z, w27.alloc (.cells #[.string ⟨#[97]⟩] 9) = Z := ⟨_, rfl⟩
      have hl28 : Below w27.heap.size w27 w28 := by rw [← hw28]; exact (Below.refl _ _).alloc (Nat.le_refl _) _
      have HG28 := Lib.hid (show w28.heap[w27.heap.size]? = some (.cells #[.string ⟨#[97]⟩] 9 (0, 0)) by rw [← hw28]; exact World.alloc_heap_new _ _)
      have HB28 : Hid (Below w.heap.size w w28) := Lib.hid (HB27.out.trans (hl28.mono HB27.out.size))
      have HR28 : Hid (Boxed w28 B 4 (.bool false)) := Lib.hid ((hl28.block _ HR27.out.lt).trans HR27.out)
      have HKD := Lib.hid (HKD.out.below hl28)
      have HW28 := Lib.hid hw28
      clear hl28 hw28
      have K29 := Lib.hid (rt_Fits ⟨#[47, 97, 47, 42, 42]⟩ (.slice (some ⟨w27.heap.size, 0, none⟩) 1 1) [[97]] w28 (by decide) (xs_lit [[97]] HG28.out) (by decide) (HK.out.below HB28.out))
      gi_wp2_with fail
      rw [wk_g3] at K29
      rw [HW28.out]
      refine ⟨trivial, (callsIn_wide.2 K29.out).mono ?_⟩
      rintro e w29 ⟨rfl, hb⟩
      have HB29 : Hid (Below w.heap.size w w29) := Lib.hid (HB28.out.trans (hb.mono HB28.out.size))
      have HR29 : Hid (Boxed w29 B 4 (.bool false)) := Lib.hid ((hb.block _ HR28.out.lt).trans HR28.out)
      have HKD := Lib.hid (HKD.out.below hb)
      clear hb K29
      have K30 := Lib.hid (rt_Fits ⟨#[47, 42, 42]⟩ (.slice none 0 0) [] w29 (by decide) (xs_nil _) (by decide) (HK.out.below HB29.out))
      gi_wp2_with fail
      rw [wk_g4] at K30
      refine ⟨trivial, (callsIn_wide.2 K30.out).mono ?_⟩
      rintro e w30 ⟨rfl, hb⟩
      have HB30 : Hid (Below w.heap.size w w30) := Lib.hid (HB29.out.trans (hb.mono HB29.out.size))
      have HR30 : Hid (Boxed w30 B 4 (.bool false)) := Lib.hid ((hb.block _ HR29.out.lt).trans HR29.out)
      have HKD := Lib.hid (HKD.out.below hb)
      clear hb K30
      have K31 := Lib.hid (rt_Covers ⟨#[47, 97, 47, 42, 42]⟩ ⟨#[47, 97, 47, 42]⟩ w30 (by decide) (by decide) (HK.out.below HB30.out))
      gi_wp2_with fail
      rw [wk_h1] at K31
      refine ⟨trivial, (callsIn_wide.2 K31.out).mono ?_⟩
      rintro e w31 ⟨rfl, hb⟩
      have HB31 : Hid (Below w.heap.size w w31) := Lib.hid (HB30.out.trans (hb.mono HB30.out.size))
      have HR31 : Hid (Boxed w31 B 4 (.bool false)) := Lib.hid ((hb.block _ HR30.out.lt).trans HR30.out)
      have HKD := Lib.hid (HKD.out.below hb)
      clear hb K31
      have K32 := Lib.hid (rt_Covers ⟨#[47, 97, 47, 42]⟩ ⟨#[47, 97, 47, 42, 42]⟩ w31 (by decide) (by decide) (HK.out.below HB31.out))
      gi_wp2_with fail
      rw [wk_h2] at K32
      refine ⟨trivial, (callsIn_wide.2 K32.out).mono ?_⟩
      rintro e w32 ⟨rfl, hb⟩
      have HB32 : Hid (Below w.heap.size w w32) := Lib.hid (HB31.out.trans (hb.mono HB31.out.size))
      have HR32 : Hid (Boxed w32 B 4 (.bool false)) := Lib.hid ((hb.block _ HR31.out.lt).trans HR31.out)
      have HKD := Lib.hid (HKD.out.below hb)
      clear hb K32
      have cR := HR32.out.cell
      have fR := HR32.out.frozen
      gi_wp2
      have hBw := HBB.out
      have hBD : B < D := by have h1 := HR18.out.lt; have h2 := HD.out; have h3 := HVL.out; have h4 := HGG.out; omega
      have L9 : (w32.setCell ⟨B, 0, none⟩ (.bool true)).heap[D]? = some (.deferred (some [])) := (Below.heap_setCell _ _ _ _ (by show D ≠ B; omega)).trans HKD.out
      have L0 : Boxed ((w32.setCell ⟨B, 0, none⟩ (.bool true)).putObj D (.deferred none)) B 4 (.bool true) := (World.putObj_heap_other (by omega)).trans (HR32.out.set _)
      have c0 := L0.cell
      refine ⟨by simp, .inl ⟨_, _, rfl, run_takeDeferred L9, ?_⟩⟩
      refine ⟨.bool true, ?_, rfl, ?_⟩
      · simp [results, Tryz.results11, go_sem, c0]
      · refine (HB32.out.setCell (p := ⟨B, 0, none⟩) (by show w.heap.size ≤ B; omega) _).trans (belowK_b (w := w) (Nat.le_refl _) _ D _ _ (by omega) L9 rfl rfl)
end Go.Proofs.YtgfammlmbjmkoaaGreatDoor

/- short: are texts at most so many, of at most so many bytes? -/
namespace Go.Proofs.YtgfammlmbjmkoaaGreatDoor
set_option linter.unusedVariables false
set_option linter.unusedSimpArgs false
open Go.RowKit Go.Shelf
set_option maxHeartbeats 4000000
set_option maxRecDepth 100000
theorem KX.of {w : World} (h : Mx w) (t : Tabs w) : KX w := ⟨h, by obtain ⟨m, hm⟩ := h; exact lt_of_cell hm, t⟩
theorem rtErr_is {α : Type} (o : Option α) : rtErr o = 0 ∨ rtErr o = 360 := by unfold rtErr; split <;> simp
theorem rtErr_bnd {α : Type} (o : Option α) : -9223372036854775808 ≤ rtErr o ∧ rtErr o ≤ 9223372036854775807 := by rcases rtErr_is o with h | h <;> rw [h] <;> omega
def isShort (L : List (List UInt8)) (m z : Nat) : Bool := decide (L.length ≤ m ∧ ∀ x ∈ L, x.length ≤ z)
theorem isShort_many {L : List (List UInt8)} {m z : Nat} (h : m < L.length) : isShort L m z = false := decide_eq_false (fun hh => by omega)
theorem isShort_long {L : List (List UInt8)} {m z k : Nat} (hk : k < L.length) (h : z < (L.getD k []).length) : isShort L m z = false :=
  decide_eq_false (fun hh => by
    have := hh.2 _ (List.getElem_mem hk)
    rw [getD_is L [] k hk] at h
    omega)
theorem isShort_yes {L : List (List UInt8)} {m z : Nat} (h : L.length ≤ m) (h2 : ∀ j, j < L.length → (L.getD j []).length ≤ z) : isShort L m z = true :=
  decide_eq_true ⟨h, fun x hx => by
    obtain ⟨j, hj, rfl⟩ := List.getElem_of_mem hx
    have := h2 j hj
    rw [getD_is L [] j hj] at this
    exact this⟩
theorem lw_short (v : Value) (L : List (List UInt8)) (m z : Nat) (w : World) (hv : XS w v L) (hL : L.length ≤ maxLen) (hm : m ≤ 1000) (hz : z ≤ 1000) :
    Calls Tryz.prog 19 #[v, .int .i64 m, .int .i64 z] w fun e w' => e = .returned (.bool (isShort L m z)) ∧ w' = w := by
  obtain ⟨p, c, rfl⟩ := hv.slice
  obtain ⟨n, hn⟩ : ∃ n, L.length = n := ⟨_, rfl⟩
  rw [hn] at hv hL ⊢
  obtain ⟨R, hR⟩ : ∃ R, isShort L m z = R := ⟨_, rfl⟩
  rw [hR]
  have HV := Lib.hid hv
  have HN := Lib.hid hn
  have HR := Lib.hid hR
  clear hv hn hR hL
  go_enter Tryz.func19, Tryz.ntmps19
  go_wp2_with fail
  go_loopw [7] (fun i wr => ∃ k : Nat, k ≤ n ∧ k ≤ m + 1 ∧ i = .int .i64 k ∧ wr = w ∧ ∀ j, j < k → (L.getD j []).length ≤ z) (fun i _ => n - (intOf i).toNat)
  case atStart => exact ⟨0, Nat.zero_le _, Nat.zero_le _, rfl, rfl, fun j hj => absurd hj (Nat.not_lt_zero _)⟩
  case round =>
    obtain ⟨k, hk, hk1, rfl, rfl, hat⟩ := hrel
    have HAT := Lib.hid hat
    clear hat
    by_cases hlt : k < n
    · have HLK := Lib.hid (show k < L.length by rw [HN.out]; exact hlt)
      by_cases hkm : k ≤ m
      · obtain ⟨b, off, rfl, hc⟩ := HV.out.cells HLK.out
        have x0 := hc k HLK.out
        obtain ⟨q, hq⟩ : ∃ q, L.getD k [] = q := ⟨_, rfl⟩
        rw [hq] at x0
        obtain ⟨qb, hqb, hql⟩ := sv_is q
        rw [hqb] at x0
        have HQ := Lib.hid hq
        have HZQ := Lib.hid (show qb.size = q.length by rw [← hql]; rfl)
        clear hc hq hqb hql
        by_cases hs : z < qb.size
        · have HNO := Lib.hid (show R = false by rw [← HR.out]; exact isShort_long HLK.out (by rw [HQ.out, ← HZQ.out]; exact hs))
          have hsI : ((z : Int) < (qb.size : Int)) := by omega
          have hI1 : ((k : Int) < (n : Int)) := by omega
          have hI2 : ((k : Int) ≤ (m : Int)) := by omega
          go_wp2_with fail
          go_ret
          exact ⟨by rw [HNO.out]; rfl, rfl⟩
        · have hsI : ¬ ((z : Int) < (qb.size : Int)) := by omega
          have hI1 : ((k : Int) < (n : Int)) := by omega
          have hI2 : ((k : Int) ≤ (m : Int)) := by omega
          have HST := Lib.hid (show ∀ j, j < k + 1 → (L.getD j []).length ≤ z by
            intro j hj
            by_cases hjk : j = k
            · subst hjk; rw [HQ.out, ← HZQ.out]; omega
            · exact HAT.out j (by omega))
          go_wp2_with fail
          exact ⟨⟨k + 1, hlt, by omega, by simp, trivial, HST.out⟩, by simp [intOf]; omega⟩
      · have hkI : ¬ ((k : Int) ≤ (m : Int)) := by omega
        have hI1 : ((k : Int) < (n : Int)) := by omega
        have hmn : ¬ ((n : Int) ≤ (m : Int)) := by omega
        have HNO := Lib.hid (show R = false by rw [← HR.out]; exact isShort_many (by rw [HN.out]; omega))
        go_wp2_with fail
        go_ret
        exact ⟨by rw [HNO.out]; rfl, rfl⟩
    · have hkI : ¬ ((k : Int) < (n : Int)) := by omega
      obtain rfl : k = n := by omega
      by_cases hkm : k ≤ m
      · have hI2 : ((k : Int) ≤ (m : Int)) := by omega
        have HYES := Lib.hid (show R = true by rw [← HR.out]; exact isShort_yes (by rw [HN.out]; exact hkm) (by rw [HN.out]; exact HAT.out))
        go_wp2_with fail
        go_ret
        exact ⟨by rw [HYES.out]; rfl, rfl⟩
      · have hI2 : ¬ ((k : Int) ≤ (m : Int)) := by omega
        have HNO := Lib.hid (show R = false by rw [← HR.out]; exact isShort_many (by rw [HN.out]; omega))
        go_wp2_with fail
        go_ret
        exact ⟨by rw [HNO.out]; rfl, rfl⟩
end Go.Proofs.YtgfammlmbjmkoaaGreatDoor

/- Slices of texts, and of parts, that come in. -/
namespace Go.Proofs.YtgfammlmbjmkoaaGreatDoor
set_option linter.unusedVariables false
set_option linter.unusedSimpArgs false
open Go.RowKit Go.Shelf
set_option maxHeartbeats 2000000
set_option maxRecDepth 100000
/-- a text's bytes -/
def bsO (o : Option Value) : List UInt8 := match o with
  | some (.string s) => s.data.toList
  | _ => []
def inO (o : Option Value) : Int := match o with
  | some (.int _ n) => n
  | _ => 0
section
variable {H : Type} {enc : TypeId × Value → H} {w : World} {base : Nat} {spare : Nat → Bool} {held : Bool}
open Go.ChangeShapes Go.WideShapes
theorem strs_in {r : Reach} {b0 : Nat} {v : Value} {d : DataW H} {p : List MemPlace} (hv : Value.okWide Tryz.prog w r b0 41 v) (h : DataW.Trod enc Tryz.prog w base spare held 41 v d p) :
    ∃ P, XS w v P ∧ P.length ≤ maxLen := by
  obtain ⟨a0, len0, cap0, rfl⟩ := okWide_slice Tryz.underlying41 hv
  have hspot : ∀ x, a0 = some x → x.spot = none := by
    rintro x rfl
    simp only [Value.okWide, Tryz.underlying41, Cell.okWide, Cell.ok] at hv
    exact hv.2.2.2.1
  obtain ⟨fuel, hf⟩ := h
  rcases open_strings Tryz.underlying41 Tryz.underlying9 (by kernel_rfl) hf with ⟨hcs, _⟩ | ⟨a, len, cap, ss, hcs, _, hl, hm, hz, _, hc, hs⟩
  · simp [Value.cells] at hcs
    obtain ⟨rfl, rfl, rfl⟩ := hcs
    exact ⟨[], .inl ⟨none, 0, rfl, rfl⟩, by simp⟩
  · simp [Value.cells] at hcs
    obtain ⟨rfl, rfl, rfl⟩ := hcs
    obtain ⟨b, off, spot⟩ := a
    have hsp : spot = none := hspot _ rfl
    subst hsp
    have hlen : len0 ≤ ss.length := by rw [hz]; split <;> omega
    refine ⟨(ss.take len0).map (·.data.toList), .inr ⟨b, off, cap0, by rw [List.length_map, List.length_take, Nat.min_eq_left hlen], fun j hj => ?_⟩, by rw [List.length_map, List.length_take]; omega⟩
    rw [List.length_map, List.length_take, Nat.min_eq_left hlen] at hj
    have h1 := hc j (by omega)
    rw [Lib.add_plain] at h1
    rw [h1]
    have h2 : ss[j]? = some (ss.getD j ByteArray.empty) := by
      rw [List.getD_eq_getElem?_getD, List.getElem?_eq_getElem (by omega)]; rfl
    have h3 : ((ss.take len0).map (·.data.toList)).getD j [] = (ss.getD j ByteArray.empty).data.toList := by
      rw [List.getD_eq_getElem?_getD, List.getElem?_map, List.getElem?_take_of_lt hj, h2]; rfl
    rw [h3]
    rfl
theorem parts_in {r : Reach} {b0 : Nat} {v : Value} {d : DataW H} {p : List MemPlace} (hv : Value.okWide Tryz.prog w r b0 23 v) (h : DataW.Trod enc Tryz.prog w base spare held 23 v d p) :
    ∃ P, PtS w v P ∧ P.length ≤ maxLen := by
  obtain ⟨a0, len0, cap0, rfl⟩ := okWide_slice Tryz.underlying23 hv
  have hspot : ∀ x, a0 = some x → x.spot = none := by
    rintro x rfl
    simp only [Value.okWide, Tryz.underlying23, Cell.okWide, Cell.ok] at hv
    exact hv.2.2.2.1
  obtain ⟨fuel, hf⟩ := h
  rcases DataW.trod_slice Tryz.underlying23 hf with ⟨hcs, _⟩ | ⟨a, len, cap, elems, rest, n, _, hcs, hyd, hb, hl, hm, hlen, hel, _, _⟩
  · simp [Value.cells] at hcs
    obtain ⟨rfl, rfl, rfl⟩ := hcs
    exact ⟨[], .inl ⟨none, 0, rfl, rfl⟩, by simp⟩
  · simp [Value.cells] at hcs
    obtain ⟨rfl, rfl, rfl⟩ := hcs
    obtain ⟨b, off, spot⟩ := a
    have hsp : spot = none := hspot _ rfl
    subst hsp
    have hc2 : Tryz.prog.cellsOf 35 = 2 := by kernel_rfl
    have each : ∀ j, j < len0 → ∃ (k : Int) (v : ByteArray), w.cell? ⟨b, off + j * 2, none⟩ = some (.int .i64 k) ∧ w.cell? ⟨b, off + j * 2 + 1, none⟩ = some (.string v) ∧ (Lit.int .i64 k).wf = true := by
      intro j hj
      have h1 := hel j hj
      rw [List.getElem?_eq_getElem (by omega), Option.bind_eq_some_iff] at h1
      obtain ⟨cs, h2, h3⟩ := h1
      have h6 := (World.cells?_some h2).2
      match cs, h6.1, h3, h6.2 with
      | [c0, c1], _, h3, h6 =>
        obtain ⟨y0, y1, n', hx, _, h4, h5⟩ := trod_struct2 Tryz.underlying35 h3
        have hc1 : Tryz.prog.cellsOf 33 = 1 := by kernel_rfl
        have hc3 : Tryz.prog.cellsOf 9 = 1 := by kernel_rfl
        have h7 := h6 0 (by rw [hc2]; omega)
        have h8 := h6 1 (by rw [hc2]; omega)
        simp only [hc2, Lib.add_plain, List.getElem?_cons_zero, List.getElem?_cons_succ, Nat.add_zero] at h7 h8
        simp [hc1, hc3] at h4 h5
        obtain ⟨k, hk, hy0, hks⟩ := DataW.trod_int Tryz.underlying33 h4
        obtain ⟨u, hu, hy1, hus⟩ := DataW.trod_string Tryz.underlying9 h5
        simp only [List.cons.injEq, and_true] at hk hu
        subst hk
        subst hu
        exact ⟨k, u, h7, h8, hks⟩
    refine ⟨(List.range len0).map fun j => (inO (w.cell? ⟨b, off + j * 2, none⟩), bsO (w.cell? ⟨b, off + j * 2 + 1, none⟩)), .inr ⟨b, off, cap0, by simp, by simp; omega, by omega, fun j hj => ?_⟩, by simp; omega⟩
    · simp only [List.length_map, List.length_range] at hj
      obtain ⟨k, u, h1, h2, _⟩ := each j hj
      have e : (((List.range len0).map fun j => (inO (w.cell? ⟨b, off + j * 2, none⟩), bsO (w.cell? ⟨b, off + j * 2 + 1, none⟩))).getD j (0, [])) = (k, u.data.toList) := by
        rw [List.getD_eq_getElem?_getD, List.getElem?_map, List.getElem?_range hj]
        simp only [Option.map_some, Option.getD_some, h1, h2, bsO, inO]
      rw [e]
      exact ⟨h1, h2⟩
end
end Go.Proofs.YtgfammlmbjmkoaaGreatDoor
