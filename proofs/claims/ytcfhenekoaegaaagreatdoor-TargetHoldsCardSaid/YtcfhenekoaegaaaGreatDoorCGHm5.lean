/- Texts of this claim, one behind the other: LGH. -/
import Derived.Test.YtcfhenekoaegaaaGreatDoorCGHm4
import Derived.Test.YtcfhenekoaegaaaGreatDoorCGHm2
/- TargetHolds returns true for any target and any text: the walk. -/
namespace Go.Proofs.YtcfhenekoaegaaaGreatDoor
set_option linter.unusedVariables false
set_option linter.unusedSimpArgs false
open Go.RowKit Go.Shelf
set_option maxHeartbeats 8000000
set_option maxRecDepth 100000
theorem two_cells {W : World} {B : Nat} {x y : Value} {t : TypeId} (h : W.heap[B]? = some (.cells #[x, y] t (0, 0))) : W.cell? ⟨B, 0, none⟩ = some x ∧ W.cell? ⟨B, 1, none⟩ = some y := by
  constructor <;> simp [World.cell?, h]
theorem TS.sr {w : World} {v : Value} {L : List (List UInt8)} (h : TS w v L) : SR w v (L.map fun l => ⟨l.toArray⟩) := by
  rcases h with ⟨p, c, rfl, rfl⟩ | ⟨b, off, cap, rfl, h3⟩
  · exact .inl ⟨p, c, rfl, rfl⟩
  · cases L with
    | nil => exact .inl ⟨some ⟨b, off, none⟩, cap, rfl, rfl⟩
    | cons x L =>
      have h0 := h3 0 (by simp)
      refine .inr ⟨b, off, cap, by simp, lt_of_cell h0, fun j hj => ?_⟩
      rw [List.length_map] at hj
      rw [h3 j hj, List.getElem_map]
      simp only [tx, List.getD_eq_getElem?_getD, List.getElem?_eq_getElem hj, Option.getD_some]
theorem right_any (v : Value) (P : List (List UInt8)) (w : World) (hv : TS w v P) (hP : P.length ≤ 1000000) (hs : ∀ p ∈ P, p.length ≤ 1000000) (a2 : Option Addr) (n2 c2 : Nat) :
    Calls Tryz.prog 16 #[.agg #[v, .slice a2 n2 c2]] w fun e w' => e = .returned (.bool (Gt.right P)) ∧ Below w.heap.size w w' := by
  have h := ref_Right v _ w hv.sr (by simpa using hP) (fun s hs' => by
    obtain ⟨p, hp, rfl⟩ := List.mem_map.1 hs'
    rw [ba_size]; exact hs p hp) a2 n2 c2
  rw [List.map_map, show ((fun x : ByteArray => x.data.toList) ∘ fun l : List UInt8 => (⟨l.toArray⟩ : ByteArray)) = id from by funext l; simp, List.map_id] at h
  exact h
theorem walkGH (v1 v2 : Value) (P : List (List UInt8)) (Q : List (List UInt8 × List UInt8)) (s : ByteArray) (w : World) (h1 : TS w v1 P) (h2 : PS w v2 Q)
    (hs1 : ∀ p ∈ P, p.length ≤ maxLen) (hl1 : P.length ≤ maxLen) (hs2 : ∀ q ∈ Q, q.1.length ≤ reachBytes ∧ q.2.length ≤ reachBytes) (hl2 : Q.length ≤ maxLen) (hs : s.size ≤ maxLen) (hk : KX w) :
    Calls Tryz.prog 4 #[.agg #[v1, v2], .string s] w fun e w' => e = .returned (.bool true) ∧ Below w.heap.size w w' := by
  have WK := Lib.hid (fun W (h : KX W) => law_works W h)
  have HK := Lib.hid hk
  have HN := Lib.hid law_num
  obtain ⟨p1, c1, rfl⟩ := h1.slice
  obtain ⟨p2, c2, rfl⟩ := h2.slice
  obtain ⟨n1, hn1⟩ : ∃ n, P.length = n := ⟨_, rfl⟩
  obtain ⟨n2, hn2⟩ : ∃ n, Q.length = n := ⟨_, rfl⟩
  have hl1' := hl1
  have hl2' := hl2
  rw [hn1] at h1 ⊢
  rw [hn2] at h2 ⊢
  obtain ⟨G, hG⟩ : ∃ z, w.heap.size = z := ⟨_, rfl⟩
  obtain ⟨W1, hW1⟩ : ∃ Z, w.alloc (.cells #[.slice p1 n1 c1, .slice p2 n2 c2] 26) = Z := ⟨_, rfl⟩
  have HBW1 := Lib.hid (show Below w.heap.size w W1 by rw [← hW1]; exact (Below.refl _ _).alloc (Nat.le_refl _) _)
  have HG1 := Lib.hid (show W1.heap[G]? = some (.cells #[.slice p1 n1 c1, .slice p2 n2 c2] 26 (0, 0)) by rw [← hW1, ← hG]; exact World.alloc_heap_new _ _)
  have HZ1 := Lib.hid (show W1.heap.size = G + 1 by rw [← hW1, ← hG]; simp)
  have HT1 := Lib.hid (h1.below HBW1.out)
  have HQ1 := Lib.hid (h2.below HBW1.out)
  have FW := Lib.hid (law_few (.slice p1 n1 c1) (.slice p2 n2 c2) P Q W1 HT1.out HQ1.out hs1 hl1 hs2 hl2)
  have HN1 := Lib.hid hn1
  have HN2 := Lib.hid hn2
  have g10 := (two_cells HG1.out).1
  have g11 := (two_cells HG1.out).2
  clear h1 h2 hs1 hl1 hs2 hl2 hn1 hn2 hk hl1' hl2'
  have hs' : s.size ≤ 9223372036854775807 := hs
  clear hs
  go_enter Tryz.func4, Tryz.ntmps4
  go_wp2_with fail
  clear hW1 hG
  refine FW.out.mono ?_
  rintro e w2 ⟨b, rfl, hfw, hb2⟩
  have HB2 := Lib.hid hb2
  have HBW2 := Lib.hid (HBW1.out.trans (hb2.mono HBW1.out.size))
  clear hb2 g10 g11
  cases b with
  | false =>
    go_wp2_with fail
    refine (WK.out _ (HK.out.below HBW2.out)).mono ?_
    rintro e w3 ⟨rfl, hb3⟩
    have HB3 := Lib.hid (HBW2.out.trans (hb3.mono HBW2.out.size))
    clear hb3
    go_wp2_with fail
    go_ret
    exact ⟨rfl, HB3.out⟩
  | true =>
    have HFW := Lib.hid (hfw rfl)
    clear hfw
    by_cases hl : s.size ≤ 200
    · have HSZ := Lib.hid (show s.data.toList.length = s.size from rfl)
      have HSL := Lib.hid hl
      cases ho : Gt.parse s.data.toList with
      | none =>
        have PN := Lib.hid (fun W (h : KX W) => parse_no s W (by have := HSL.out; omega) h ho)
        clear ho
        go_wp2_with fail
        refine (PN.out _ (HK.out.below HBW2.out)).mono ?_
        rintro e w3 ⟨rfl, hb3⟩
        obtain ⟨W4, hW4⟩ : ∃ Z, w3.alloc (.cells #[.slice none 0 0, .slice none 0 0] 26) = Z := ⟨_, rfl⟩
        have hb4 : Below w3.heap.size w3 W4 := by rw [← hW4]; exact (Below.refl _ _).alloc (Nat.le_refl _) _
        have HB4 := Lib.hid (HB2.out.trans ((hb3.trans (hb4.mono hb3.size)).mono HB2.out.size))
        have HW4 := Lib.hid hW4
        clear hb3 hb4 hW4
        go_wp2_with fail
        rw [HW4.out]
        refine (HN.out 210 _ (by omega)).mono ?_
        rintro e w5 ⟨rfl, hw5⟩
        subst hw5
        have HT2 := Lib.hid (HT1.out.below HB4.out)
        have HQ2 := Lib.hid (HQ1.out.below HB4.out)
        have hgx := two_cells ((HB4.out.block G (by rw [HZ1.out]; omega)).trans HG1.out)
        have gx0 := hgx.1
        have gx1 := hgx.2
        have RT := Lib.hid (fun W (h : TS W (.slice p1 n1 c1) P) => right_any (.slice p1 n1 c1) P W h (by have := HFW.out.path; omega) (fun p hp => by have := HFW.out.part p hp; omega) p2 n2 c2)
        clear hgx
        cases hr : Gt.right P with
        | false =>
          rw [hr] at RT
          clear hr
          go_wp2_with fail
          refine (RT.out _ HT2.out).mono ?_
          rintro e w20 ⟨rfl, hb20⟩
          have HB20 := Lib.hid (HBW1.out.trans ((HB4.out.trans (hb20.mono HB4.out.size)).mono HBW1.out.size))
          clear hb20 gx0 gx1
          go_wp2_with fail
          refine (WK.out _ (HK.out.below HB20.out)).mono ?_
          rintro e w21 ⟨rfl, hb21⟩
          have HB21 := Lib.hid (HB20.out.trans (hb21.mono HB20.out.size))
          clear hb21
          go_wp2_with fail
          go_ret
          exact ⟨rfl, HB21.out⟩
        | true =>
          rw [hr] at RT
          have TX := Lib.hid (fun W (a : TS W (.slice p1 n1 c1) P) (b : PS W (.slice p2 n2 c2) Q) (t : Tabs W) => tg_Text (.slice p1 n1 c1) (.slice p2 n2 c2) P Q W a b (by have := HFW.out.path; omega) (fun p hp => by have := HFW.out.part p hp; omega) (by have := HFW.out.query; omega) (fun q hq => by have := HFW.out.pair q hq; omega) t)
          have hpt := Gt.parse_text (Q := Q) hr
          unfold txtOut at TX
          rw [if_pos hr] at TX
          have hsz := Gt.few_text HFW.out
          have hsz2 := ba_size (Gt.text P Q)
          obtain ⟨x, hx⟩ : ∃ z : ByteArray, (⟨(Gt.text P Q).toArray⟩ : ByteArray) = z := ⟨_, rfl⟩
          have hxl : x.data.toList = Gt.text P Q := by rw [← hx]
          rw [hx] at TX hsz2
          have HXS := Lib.hid (show x.size ≤ 90000 by omega)
          have PY := Lib.hid (fun W (h : KX W) => parse_yes x P Q W HXS.out h (by rw [hxl]; exact hpt))
          rw [HN1.out, HN2.out] at PY
          clear hr hpt hsz hsz2 hx hxl
          go_wp2_with fail
          refine (RT.out _ HT2.out).mono ?_
          rintro e w20 ⟨rfl, hb20⟩
          have HBT := Lib.hid (HB4.out.trans (hb20.mono HB4.out.size))
          have HBU := Lib.hid (HBW1.out.trans (HBT.out.mono HBW1.out.size))
          have hgy := two_cells ((HBT.out.block G (by rw [HZ1.out]; omega)).trans HG1.out)
          have gy0 := hgy.1
          have gy1 := hgy.2
          clear hgy hb20 gx0 gx1
          go_wp2_with fail
          refine (TX.out _ (HT1.out.below HBT.out) (HQ1.out.below HBT.out) (HK.out.tabs.below HBU.out)).mono ?_
          rintro e w22 ⟨rfl, hb22⟩
          have HBV := Lib.hid (HBT.out.trans (hb22.mono HBT.out.size))
          have HBV' := Lib.hid (HBW1.out.trans (HBV.out.mono HBW1.out.size))
          clear hb22 gy0 gy1
          go_wp2_with fail
          refine (PY.out _ (HK.out.below HBV'.out)).mono ?_
          rintro e w23 ⟨p5, c5, q5, d5, rfl, ht5, hq5, hb23⟩
          obtain ⟨V, hV⟩ : ∃ z, w23.heap.size = z := ⟨_, rfl⟩
          obtain ⟨W6, hW6⟩ : ∃ Z, w23.alloc (.cells #[.slice p5 n1 c5, .slice q5 n2 d5] 26) = Z := ⟨_, rfl⟩
          have hb6 : Below w23.heap.size w23 W6 := by rw [← hW6]; exact (Below.refl _ _).alloc (Nat.le_refl _) _
          have hv6 := two_cells (show W6.heap[V]? = some (.cells #[.slice p5 n1 c5, .slice q5 n2 d5] 26 (0, 0)) by rw [← hW6, ← hV]; exact World.alloc_heap_new _ _)
          have hv60 := hv6.1
          have hv61 := hv6.2
          have HT6 := Lib.hid (ht5.below hb6)
          have HQ6 := Lib.hid (hq5.below hb6)
          have HBG := Lib.hid (HBV.out.trans ((hb23.trans (hb6.mono hb23.size)).mono HBV.out.size))
          have HBG' := Lib.hid (HBW1.out.trans (HBG.out.mono HBW1.out.size))
          have hgz := two_cells ((HBG.out.block G (by rw [HZ1.out]; omega)).trans HG1.out)
          have gz0 := hgz.1
          have gz1 := hgz.2
          have SM := Lib.hid (tg_Same (.slice p5 n1 c5) (.slice q5 n2 d5) (.slice p1 n1 c1) (.slice p2 n2 c2) P P Q Q W6 HT6.out HQ6.out (HT1.out.below HBG.out) (HQ1.out.below HBG.out) (by have := HFW.out.path; omega) (by have := HFW.out.query; omega) (by have := HFW.out.path; omega) (by have := HFW.out.query; omega))
          rw [decide_eq_true (show P = P ∧ Q = Q from ⟨rfl, rfl⟩)] at SM
          clear ht5 hq5 hb23 hb6 hv6 hgz
          go_wp2_with fail
          refine (HN.out 0 _ (by omega)).mono ?_
          rintro e w24 ⟨rfl, rfl⟩
          go_wp2_with fail
          refine (HN.out 0 _ (by omega)).mono ?_
          rintro e w25 ⟨rfl, rfl⟩
          clear hW6 hV
          go_wp2_with fail
          refine SM.out.mono ?_
          rintro e w26 ⟨rfl, hb26⟩
          have HB26 := Lib.hid (HBG'.out.trans (hb26.mono HBG'.out.size))
          clear hb26
          go_wp2_with fail
          refine (WK.out _ (HK.out.below HB26.out)).mono ?_
          rintro e w27 ⟨rfl, hb27⟩
          have HB27 := Lib.hid (HB26.out.trans (hb27.mono HB26.out.size))
          clear hb27
          go_wp2_with fail
          go_ret
          exact ⟨rfl, HB27.out⟩
      | some r =>
        obtain ⟨P3, Q3⟩ := r
        have PS3 := Lib.hid (fun W (h : KX W) => parse_yes s P3 Q3 W (by have := HSL.out; omega) h ho)
        have HBD := Lib.hid (Gt.parse_bound ho)
        have hrt := Gt.parse_right ho
        have hpt := Gt.parse_text (Q := Q3) hrt
        have hln := Gt.parse_text_len ho (by have := HSL.out; have := HSZ.out; omega)
        obtain ⟨m1, hm1⟩ : ∃ n, P3.length = n := ⟨_, rfl⟩
        obtain ⟨m2, hm2⟩ : ∃ n, Q3.length = n := ⟨_, rfl⟩
        have hml : m1 ≤ 201 ∧ m2 ≤ 201 := by have := HBD.out.1; have := HBD.out.2.1; have := HSL.out; have := HSZ.out; omega
        have HML := Lib.hid hml
        have hxs := ba_size (Gt.text P3 Q3)
        have TX3 := Lib.hid (fun W v1 v2 (a : TS W v1 P3) (b : PS W v2 Q3) (t : Tabs W) => tg_Text v1 v2 P3 Q3 W a b (by have := HML.out; omega) (fun p hp => by have := HBD.out.2.2.1 p hp; have := HSL.out; have := HSZ.out; omega) (by have := HML.out; omega) (fun q hq => by have := HBD.out.2.2.2 q hq; have := HSL.out; have := HSZ.out; omega) t)
        unfold txtOut at TX3
        rw [if_pos hrt] at TX3
        have RT3 := Lib.hid (fun W v1 (h : TS W v1 P3) a n c => right_any v1 P3 W h (by have := HML.out; omega) (fun p hp => by have := HBD.out.2.2.1 p hp; have := HSL.out; have := HSZ.out; omega) a n c)
        rw [hrt] at RT3
        obtain ⟨x, hx⟩ : ∃ z : ByteArray, (⟨(Gt.text P3 Q3).toArray⟩ : ByteArray) = z := ⟨_, rfl⟩
        have hxl : x.data.toList = Gt.text P3 Q3 := by rw [← hx]
        rw [hx] at TX3 hxs
        have PX := Lib.hid (fun W (h : KX W) => parse_yes x P3 Q3 W (by omega) h (by rw [hxl]; exact hpt))
        rw [hm1, hm2] at PS3 PX
        have HM1 := Lib.hid hm1
        have HM2 := Lib.hid hm2
        clear ho hrt hpt hln hml hxs hx hxl hm1 hm2
        go_wp2_with fail
        refine (PS3.out _ (HK.out.below HBW2.out)).mono ?_
        rintro e w3 ⟨p3, c3, q3, d3, rfl, ht3, hq3, hb3⟩
        obtain ⟨U, hU⟩ : ∃ z, w3.heap.size = z := ⟨_, rfl⟩
        obtain ⟨W4, hW4⟩ : ∃ Z, w3.alloc (.cells #[.slice p3 m1 c3, .slice q3 m2 d3] 26) = Z := ⟨_, rfl⟩
        have hb4 : Below w3.heap.size w3 W4 := by rw [← hW4]; exact (Below.refl _ _).alloc (Nat.le_refl _) _
        have HU4 := Lib.hid (show W4.heap[U]? = some (.cells #[.slice p3 m1 c3, .slice q3 m2 d3] 26 (0, 0)) by rw [← hW4, ← hU]; exact World.alloc_heap_new _ _)
        have HUZ := Lib.hid (show W4.heap.size = U + 1 by rw [← hW4, ← hU]; simp)
        have HB4 := Lib.hid (HB2.out.trans ((hb3.trans (hb4.mono hb3.size)).mono HB2.out.size))
        have HBW4 := Lib.hid (HBW1.out.trans (HB4.out.mono HBW1.out.size))
        have HT4 := Lib.hid (ht3.below hb4)
        have HQ4 := Lib.hid (hq3.below hb4)
        have u40 := (two_cells HU4.out).1
        have u41 := (two_cells HU4.out).2
        clear hb3 hb4 ht3 hq3
        go_wp2_with fail
        clear hW4 hU
        refine (HN.out 0 _ (by omega)).mono ?_
        rintro e w5 ⟨rfl, hw5⟩
        subst hw5
        go_wp2_with fail
        refine (RT3.out _ _ HT4.out _ _ _).mono ?_
        rintro e w6 ⟨rfl, hb6⟩
        have HC6 := Lib.hid hb6
        have HB6 := Lib.hid (HB4.out.trans (hb6.mono HB4.out.size))
        have HBW6 := Lib.hid (HBW1.out.trans (HB6.out.mono HBW1.out.size))
        have u60 := (two_cells ((HC6.out.block U (by rw [HUZ.out]; omega)).trans HU4.out)).1
        have u61 := (two_cells ((HC6.out.block U (by rw [HUZ.out]; omega)).trans HU4.out)).2
        clear u40 u41 hb6
        go_wp2_with fail
        refine (TX3.out _ _ _ (HT4.out.below HC6.out) (HQ4.out.below HC6.out) (HK.out.tabs.below HBW6.out)).mono ?_
        rintro e w7 ⟨rfl, hb7⟩
        have HC7 := Lib.hid (HC6.out.trans (hb7.mono HC6.out.size))
        have HB7 := Lib.hid (HB6.out.trans (hb7.mono HB6.out.size))
        have HBW7 := Lib.hid (HBW1.out.trans (HB7.out.mono HBW1.out.size))
        clear hb7 u60 u61
        go_wp2_with fail
        refine (PX.out _ (HK.out.below HBW7.out)).mono ?_
        rintro e w8 ⟨p8, c8, q8, d8, rfl, ht8, hq8, hb8⟩
        obtain ⟨V8, hV8⟩ : ∃ z, w8.heap.size = z := ⟨_, rfl⟩
        obtain ⟨W9, hW9⟩ : ∃ Z, w8.alloc (.cells #[.slice p8 m1 c8, .slice q8 m2 d8] 26) = Z := ⟨_, rfl⟩
        have hb9 : Below w8.heap.size w8 W9 := by rw [← hW9]; exact (Below.refl _ _).alloc (Nat.le_refl _) _
        have hv9 := two_cells (show W9.heap[V8]? = some (.cells #[.slice p8 m1 c8, .slice q8 m2 d8] 26 (0, 0)) by rw [← hW9, ← hV8]; exact World.alloc_heap_new _ _)
        have hv90 := hv9.1
        have hv91 := hv9.2
        have HC9 := Lib.hid (HC7.out.trans ((hb8.trans (hb9.mono hb8.size)).mono HC7.out.size))
        have HB9 := Lib.hid (HB7.out.trans ((hb8.trans (hb9.mono hb8.size)).mono HB7.out.size))
        have u90 := (two_cells ((HC9.out.block U (by rw [HUZ.out]; omega)).trans HU4.out)).1
        have u91 := (two_cells ((HC9.out.block U (by rw [HUZ.out]; omega)).trans HU4.out)).2
        have SM9 := Lib.hid (tg_Same (.slice p3 m1 c3) (.slice q3 m2 d3) (.slice p8 m1 c8) (.slice q8 m2 d8) P3 P3 Q3 Q3 W9 (HT4.out.below HC9.out) (HQ4.out.below HC9.out) (ht8.below hb9) (hq8.below hb9) (by have := HML.out; have := HM1.out; omega) (by have := HML.out; have := HM2.out; omega) (by have := HML.out; have := HM1.out; omega) (by have := HML.out; have := HM2.out; omega))
        rw [decide_eq_true (show P3 = P3 ∧ Q3 = Q3 from ⟨rfl, rfl⟩)] at SM9
        clear hb8 hb9 hv9 ht8 hq8
        go_wp2_with fail
        clear hW9 hV8
        refine (HN.out 0 _ (by omega)).mono ?_
        rintro e w10 ⟨rfl, hw10⟩
        subst hw10
        go_wp2_with fail
        refine (HN.out 0 _ (by omega)).mono ?_
        rintro e w11 ⟨rfl, hw11⟩
        subst hw11
        go_wp2_with fail
        refine SM9.out.mono ?_
        rintro e w12 ⟨rfl, hb12⟩
        have HB12 := Lib.hid (HB9.out.trans (hb12.mono HB9.out.size))
        clear hb12 u90 u91 hv90 hv91
        have HT2 := Lib.hid (HT1.out.below HB12.out)
        have HQ2 := Lib.hid (HQ1.out.below HB12.out)
        have hgx := two_cells ((HB12.out.block G (by rw [HZ1.out]; omega)).trans HG1.out)
        have gx0 := hgx.1
        have gx1 := hgx.2
        have RT := Lib.hid (fun W (h : TS W (.slice p1 n1 c1) P) => right_any (.slice p1 n1 c1) P W h (by have := HFW.out.path; omega) (fun p hp => by have := HFW.out.part p hp; omega) p2 n2 c2)
        clear hgx
        cases hr : Gt.right P with
        | false =>
          rw [hr] at RT
          clear hr
          go_wp2_with fail
          refine (RT.out _ HT2.out).mono ?_
          rintro e w20 ⟨rfl, hb20⟩
          have HB20 := Lib.hid (HBW1.out.trans ((HB12.out.trans (hb20.mono HB12.out.size)).mono HBW1.out.size))
          clear hb20 gx0 gx1
          go_wp2_with fail
          refine (WK.out _ (HK.out.below HB20.out)).mono ?_
          rintro e w21 ⟨rfl, hb21⟩
          have HB21 := Lib.hid (HB20.out.trans (hb21.mono HB20.out.size))
          clear hb21
          go_wp2_with fail
          go_ret
          exact ⟨rfl, HB21.out⟩
        | true =>
          rw [hr] at RT
          have TX := Lib.hid (fun W (a : TS W (.slice p1 n1 c1) P) (b : PS W (.slice p2 n2 c2) Q) (t : Tabs W) => tg_Text (.slice p1 n1 c1) (.slice p2 n2 c2) P Q W a b (by have := HFW.out.path; omega) (fun p hp => by have := HFW.out.part p hp; omega) (by have := HFW.out.query; omega) (fun q hq => by have := HFW.out.pair q hq; omega) t)
          have hpt := Gt.parse_text (Q := Q) hr
          unfold txtOut at TX
          rw [if_pos hr] at TX
          have hsz := Gt.few_text HFW.out
          have hsz2 := ba_size (Gt.text P Q)
          obtain ⟨x, hx⟩ : ∃ z : ByteArray, (⟨(Gt.text P Q).toArray⟩ : ByteArray) = z := ⟨_, rfl⟩
          have hxl : x.data.toList = Gt.text P Q := by rw [← hx]
          rw [hx] at TX hsz2
          have HXS := Lib.hid (show x.size ≤ 90000 by omega)
          have PY := Lib.hid (fun W (h : KX W) => parse_yes x P Q W HXS.out h (by rw [hxl]; exact hpt))
          rw [HN1.out, HN2.out] at PY
          clear hr hpt hsz hsz2 hx hxl
          go_wp2_with fail
          refine (RT.out _ HT2.out).mono ?_
          rintro e w20 ⟨rfl, hb20⟩
          have HBT := Lib.hid (HB12.out.trans (hb20.mono HB12.out.size))
          have HBU := Lib.hid (HBW1.out.trans (HBT.out.mono HBW1.out.size))
          have hgy := two_cells ((HBT.out.block G (by rw [HZ1.out]; omega)).trans HG1.out)
          have gy0 := hgy.1
          have gy1 := hgy.2
          clear hgy hb20 gx0 gx1
          go_wp2_with fail
          refine (TX.out _ (HT1.out.below HBT.out) (HQ1.out.below HBT.out) (HK.out.tabs.below HBU.out)).mono ?_
          rintro e w22 ⟨rfl, hb22⟩
          have HBV := Lib.hid (HBT.out.trans (hb22.mono HBT.out.size))
          have HBV' := Lib.hid (HBW1.out.trans (HBV.out.mono HBW1.out.size))
          clear hb22 gy0 gy1
          go_wp2_with fail
          refine (PY.out _ (HK.out.below HBV'.out)).mono ?_
          rintro e w23 ⟨p5, c5, q5, d5, rfl, ht5, hq5, hb23⟩
          obtain ⟨V, hV⟩ : ∃ z, w23.heap.size = z := ⟨_, rfl⟩
          obtain ⟨W6, hW6⟩ : ∃ Z, w23.alloc (.cells #[.slice p5 n1 c5, .slice q5 n2 d5] 26) = Z := ⟨_, rfl⟩
          have hb6 : Below w23.heap.size w23 W6 := by rw [← hW6]; exact (Below.refl _ _).alloc (Nat.le_refl _) _
          have hv6 := two_cells (show W6.heap[V]? = some (.cells #[.slice p5 n1 c5, .slice q5 n2 d5] 26 (0, 0)) by rw [← hW6, ← hV]; exact World.alloc_heap_new _ _)
          have hv60 := hv6.1
          have hv61 := hv6.2
          have HT6 := Lib.hid (ht5.below hb6)
          have HQ6 := Lib.hid (hq5.below hb6)
          have HBG := Lib.hid (HBV.out.trans ((hb23.trans (hb6.mono hb23.size)).mono HBV.out.size))
          have HBG' := Lib.hid (HBW1.out.trans (HBG.out.mono HBW1.out.size))
          have hgz := two_cells ((HBG.out.block G (by rw [HZ1.out]; omega)).trans HG1.out)
          have gz0 := hgz.1
          have gz1 := hgz.2
          have SM := Lib.hid (tg_Same (.slice p5 n1 c5) (.slice q5 n2 d5) (.slice p1 n1 c1) (.slice p2 n2 c2) P P Q Q W6 HT6.out HQ6.out (HT1.out.below HBG.out) (HQ1.out.below HBG.out) (by have := HFW.out.path; omega) (by have := HFW.out.query; omega) (by have := HFW.out.path; omega) (by have := HFW.out.query; omega))
          rw [decide_eq_true (show P = P ∧ Q = Q from ⟨rfl, rfl⟩)] at SM
          clear ht5 hq5 hb23 hb6 hv6 hgz
          go_wp2_with fail
          refine (HN.out 0 _ (by omega)).mono ?_
          rintro e w24 ⟨rfl, rfl⟩
          go_wp2_with fail
          refine (HN.out 0 _ (by omega)).mono ?_
          rintro e w25 ⟨rfl, rfl⟩
          clear hW6 hV
          go_wp2_with fail
          refine SM.out.mono ?_
          rintro e w26 ⟨rfl, hb26⟩
          have HB26 := Lib.hid (HBG'.out.trans (hb26.mono HBG'.out.size))
          clear hb26
          go_wp2_with fail
          refine (WK.out _ (HK.out.below HB26.out)).mono ?_
          rintro e w27 ⟨rfl, hb27⟩
          have HB27 := Lib.hid (HB26.out.trans (hb27.mono HB26.out.size))
          clear hb27
          go_wp2_with fail
          go_ret
          exact ⟨rfl, HB27.out⟩
    · go_wp2_with fail
      refine (WK.out _ (HK.out.below HBW2.out)).mono ?_
      rintro e w3 ⟨rfl, hb3⟩
      have HB3 := Lib.hid (HBW2.out.trans (hb3.mono HBW2.out.size))
      clear hb3
      go_wp2_with fail
      go_ret
      exact ⟨rfl, HB3.out⟩
end Go.Proofs.YtcfhenekoaegaaaGreatDoor
