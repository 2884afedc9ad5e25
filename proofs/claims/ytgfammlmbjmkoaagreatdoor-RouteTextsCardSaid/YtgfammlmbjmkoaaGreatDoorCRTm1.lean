/- Texts of this claim, one behind the other: LRT. -/
import Derived.Test.YtgfammlmbjmkoaaGreatDoorOwm4
/- RouteTexts returns true for any parts: the walk. -/
namespace Go.Proofs.YtgfammlmbjmkoaaGreatDoor
set_option linter.unusedVariables false
set_option linter.unusedSimpArgs false
open Go.RowKit Go.Shelf
attribute [local go_sem] Oper.semAt_some
set_option maxHeartbeats 8000000
set_option maxRecDepth 100000
theorem pts_split (L : List Ro.Pt) (j : Nat) (u : Value) (h : (pts L)[j]? = some u) : ∃ i, i < L.length ∧ ((j = i * 2 ∧ u = .int .i64 (L.getD i (0, [])).1) ∨ (j = i * 2 + 1 ∧ u = sv (L.getD i (0, [])).2)) := by
  have hj : j < L.length * 2 := by rw [← pts_length]; exact (List.getElem?_eq_some_iff.1 h).1
  have hp := pts_get L (j / 2) (by omega)
  refine ⟨j / 2, by omega, ?_⟩
  rcases Nat.mod_two_eq_zero_or_one j with hm | hm
  · left
    have e : j / 2 * 2 = j := by omega
    rw [e, h] at hp
    exact ⟨e.symm, Option.some.inj hp.1⟩
  · right
    have e : j / 2 * 2 + 1 = j := by omega
    rw [e, h] at hp
    exact ⟨e.symm, Option.some.inj hp.2⟩
theorem walkRT (v : Value) (L : List Ro.Pt) (w : World) (hv : PtS w v L) (hL : L.length ≤ maxLen) (hk : KX w) :
    Calls Tryz.prog 4 #[v] w fun e w' => e = .returned (.bool true) ∧ Below w.heap.size w w' := by
  obtain ⟨i0, hi, hz0, hz1, hz2⟩ := info_parts (show (Tryz.prog.info? 35).map (fun i => (i.zero, i.size, i.bytes)) = some (some (.agg #[.int .i64 0, .string ByteArray.empty]), 2, 24) by kernel_rfl)
  have WK := Lib.hid (fun W (h : KX W) => lw_works W h)
  have HK := Lib.hid hk
  have HV0 := Lib.hid hv
  obtain ⟨p, c, rfl⟩ := hv.slice
  have HV := Lib.hid hv
  obtain ⟨n, hn⟩ : ∃ n, L.length = n := ⟨_, rfl⟩
  have HN := Lib.hid hn
  have HVn : Hid (PtS w (.slice p n c) L) := Lib.hid (by rw [← hn]; exact hv)
  rw [hn] at hL ⊢
  obtain ⟨no, hno⟩ : ∃ x, rtErr (Ro.text L) = x := ⟨_, rfl⟩
  have HNB : Hid (-9223372036854775808 ≤ no ∧ no ≤ 9223372036854775807) := Lib.hid (by rw [← hno]; exact rtErr_bnd _)
  have HNU := Lib.hid (fun W => lw_num no W HNB.out)
  obtain ⟨tb, htb, _⟩ := sv_is ((Ro.text L).getD [])
  have HTX : Hid (txOut (Ro.text L) = .returned (.tuple #[.string tb, .int .i64 no])) := Lib.hid (by unfold txOut; rw [htb, hno])
  have hss : (tb.toList == tb.toList) = true := beq_self_eq_true _
  have hnn : (no == no) = true := beq_self_eq_true _
  clear hk hv hn hno htb HV0
  go_enter Tryz.func4, Tryz.ntmps4
  go_wp2_with fail
  go_loopw [3] (fun i wr => ∃ k : Nat, k ≤ n ∧ k ≤ 13 ∧ i = .int .i64 k ∧ wr = w ∧ ∀ j, j < k → (L.getD j (0, [])).2.length ≤ 40) (fun i _ => n - (intOf i).toNat)
  case atStart => exact ⟨0, Nat.zero_le _, Nat.zero_le _, rfl, rfl, fun j hj => absurd hj (Nat.not_lt_zero _)⟩
  case round =>
    obtain ⟨k, hk, hk1, rfl, rfl, hat⟩ := hrel
    have HAT := Lib.hid hat
    clear hat
    by_cases hlt : k < n
    · have HLK := Lib.hid (show k < L.length by rw [HN.out]; exact hlt)
      have hI1 : ((k : Int) < (n : Int)) := by omega
      by_cases hkm : k < 13
      · obtain ⟨b, off, rfl, hlc, hcm, hbw, hc⟩ := HVn.out.cells HLK.out
        have x1 := (hc k HLK.out).2
        obtain ⟨q, hq⟩ : ∃ q, (L.getD k (0, [])).2 = q := ⟨_, rfl⟩
        rw [hq] at x1
        obtain ⟨qb, hqb, hql⟩ := sv_is q
        rw [hqb] at x1
        have HQ := Lib.hid hq
        have HZQ := Lib.hid (show qb.size = q.length by rw [← hql]; rfl)
        have hI2 : ((k : Int) < 13) := by omega
        clear hc hq hqb hql
        by_cases hs : 40 < qb.size
        · have hsI : ((40 : Int) < (qb.size : Int)) := by omega
          go_wp2_with fail
          refine (WK.out _ HK.out).mono ?_
          rintro e w4 ⟨rfl, b4⟩
          go_wp2
          go_ret
          exact ⟨rfl, b4⟩
        · have hsI : ¬ ((40 : Int) < (qb.size : Int)) := by omega
          have HST := Lib.hid (show ∀ j, j < k + 1 → (L.getD j (0, [])).2.length ≤ 40 by
            intro j hj
            by_cases hjk : j = k
            · subst hjk; rw [HQ.out, ← HZQ.out]; omega
            · exact HAT.out j (by omega))
          go_wp2_with fail
          exact ⟨⟨k + 1, hlt, by omega, by simp, trivial, HST.out⟩, by simp [intOf]; omega⟩
      · have hkI : ¬ ((k : Int) < 13) := by omega
        have hmn : ((12 : Int) < (n : Int)) := by omega
        go_wp2_with fail
        refine (WK.out _ HK.out).mono ?_
        rintro e w4 ⟨rfl, b4⟩
        go_wp2
        go_ret
        exact ⟨rfl, b4⟩
    · have hkI : ¬ ((k : Int) < (n : Int)) := by omega
      obtain rfl : k = n := by omega
      by_cases hkm : k ≤ 12
      · have hmn : ¬ ((12 : Int) < (k : Int)) := by omega
        have hI2 : ((k : Int) < 13) := by omega
        have HLL := Lib.hid (show ∀ q ∈ L, q.2.length ≤ 30000 from fun q hq => by
          obtain ⟨j, hj, rfl⟩ := List.getElem_of_mem hq
          have := HAT.out j (by rw [← HN.out]; exact hj)
          rw [getD_is L (0, []) j hj] at this
          omega)
        have HO : Hid ((wr.alloc (.cells #[] 35)).ownsRow wr.heap.size 35 2 (.slice (some ⟨wr.heap.size, 0, none⟩) 0 0) 0 []) :=
          ⟨rfl, .inr ⟨wr.heap.size, 0, #[], rfl, Nat.le_refl _, World.alloc_heap_new wr _, Nat.le_refl _, Nat.zero_le _, rfl, rfl⟩⟩
        cases p with
        | none =>
          have hnil : L = [] := by
            rcases HVn.out with ⟨p', c', hsl, hnil⟩ | ⟨b, off, cap, hsl, hcl, hcm, hcc⟩
            · exact hnil
            · cases hsl
          have hk0 : k = 0 := by rw [← HN.out, hnil]; rfl
          subst hk0
          have HB : Hid (Below wr.heap.size wr (wr.alloc (.cells #[] 35))) := Lib.hid ((Below.refl _ _).alloc (Nat.le_refl _) _)
          have HP : Hid (PtS (wr.alloc (.cells #[] 35)) (.slice (some ⟨wr.heap.size, 0, none⟩) 0 0) L) := Lib.hid (.inl ⟨_, _, rfl, hnil⟩)
          obtain ⟨w1, hw1⟩ : ∃ z, wr.alloc (.cells #[] 35) = z := ⟨_, rfl⟩
          rw [hw1] at HB HP
          have HW1 := Lib.hid hw1
          clear hw1 hnil HO
          have KT := Lib.hid (rt_Text _ L w1 HP.out (by rw [HN.out]; omega) HLL.out (HK.out.below HB.out))
          rw [HTX.out] at KT
          go_wp2_with fail
          rw [HW1.out]
          refine KT.out.mono ?_
          rintro e w2 ⟨rfl, hb2⟩
          have HB2 := Lib.hid (HB.out.trans (hb2.mono HB.out.size))
          clear hb2 KT
          have KR := Lib.hid (rf_Text _ L w2 (by have h := HVn.out.below HB2.out; exact h) (by rw [HN.out]; omega) HLL.out)
          rw [HTX.out] at KR
          go_wp2_with fail
          refine KR.out.mono ?_
          rintro e w3 ⟨rfl, hb3⟩
          have HB3 := Lib.hid (HB2.out.trans (hb3.mono HB2.out.size))
          clear hb3 KR
          go_wp2_with fail
          refine (HNU.out _).mono ?_
          rintro e wx ⟨rfl, hwx⟩
          subst wx
          go_wp2_with fail
          refine (WK.out _ (HK.out.below HB3.out)).mono ?_
          rintro e w4 ⟨rfl, hb4⟩
          have HB4 := Lib.hid (HB3.out.trans (hb4.mono HB3.out.size))
          clear hb4
          go_wp2_with fail
          go_ret
          exact ⟨rfl, HB4.out⟩
        | some a =>
          have HC2 := Lib.hid (show ∀ j u, (pts L)[j]? = some u → ∃ g o, a = ⟨g, o, none⟩ ∧ wr.cell? ⟨g, o + j, none⟩ = some u by
            intro j u hj
            obtain ⟨i, hi2, hh⟩ := pts_split L j u hj
            obtain ⟨b, off, he, _, _, _, hc⟩ := HVn.out.cells hi2
            have he' := Option.some.inj he
            rcases hh with ⟨rfl, rfl⟩ | ⟨rfl, rfl⟩
            · exact ⟨b, off, he', (hc i hi2).1⟩
            · exact ⟨b, off, he', by rw [← Nat.add_assoc]; exact (hc i hi2).2⟩)
          go_wp2_with (at_builtin; refine wpList_append_own _ rfl _ _ 23 rfl wr.heap.size 35 i0 (.agg #[.int .i64 0, .string ByteArray.empty]) 2 24 Tryz.underlying23 hi hz0 hz1 hz2 rfl (by decide) _ _ _ rfl HO.out a k c (pts L) rfl ?c1 ?c2 ?c3 ?c4 ?c5 ?c6 ?_)
          case c1 => rw [pts_length, HN.out]
          case c2 =>
            intro j u hj
            obtain ⟨g, o, rfl, hcl⟩ := HC2.out j u hj
            rw [Lib.add_plain]
            exact cell_below ((Below.refl _ wr).alloc (Nat.le_refl _) _) hcl
          case c3 =>
            intro u hu
            obtain ⟨j, hj⟩ := List.getElem?_of_mem hu
            obtain ⟨i, _, ⟨_, rfl⟩ | ⟨_, rfl⟩⟩ := pts_split L j u hj <;> rfl
          case c5 => omega
          intro v' w1 hown hgrow _
          have hB : Below wr.heap.size wr w1 := ((Below.refl _ wr).alloc (Nat.le_refl _) _).grown hgrow (by simp) (fun k hk => by simp [Value.ownBlock] at hk; omega)
          have HP : Hid (PtS w1 v' L) := Lib.hid (PtS.of (B := wr.heap.size) (by rw [HN.out]; simpa using hown))
          have HB := Lib.hid hB
          clear hown hgrow hB HO
          obtain ⟨pp, cc, rfl⟩ := HP.out.slice
          have KT := Lib.hid (rt_Text _ L w1 HP.out (by rw [HN.out]; omega) HLL.out (HK.out.below HB.out))
          rw [HTX.out] at KT
          go_wp2_with fail
          refine KT.out.mono ?_
          rintro e w2 ⟨rfl, hb2⟩
          have HB2 := Lib.hid (HB.out.trans (hb2.mono HB.out.size))
          clear hb2 KT
          have KR := Lib.hid (rf_Text _ L w2 (by have h := HVn.out.below HB2.out; exact h) (by rw [HN.out]; omega) HLL.out)
          rw [HTX.out] at KR
          go_wp2_with fail
          refine KR.out.mono ?_
          rintro e w3 ⟨rfl, hb3⟩
          have HB3 := Lib.hid (HB2.out.trans (hb3.mono HB2.out.size))
          clear hb3 KR
          go_wp2_with fail
          refine (HNU.out _).mono ?_
          rintro e wx ⟨rfl, hwx⟩
          subst wx
          go_wp2_with fail
          refine (WK.out _ (HK.out.below HB3.out)).mono ?_
          rintro e w4 ⟨rfl, hb4⟩
          have HB4 := Lib.hid (HB3.out.trans (hb4.mono HB3.out.size))
          clear hb4
          go_wp2_with fail
          go_ret
          exact ⟨rfl, HB4.out⟩
      · have hmn : ((12 : Int) < (k : Int)) := by omega
        go_wp2_with fail
        refine (WK.out _ HK.out).mono ?_
        rintro e w4 ⟨rfl, b4⟩
        go_wp2
        go_ret
        exact ⟨rfl, b4⟩
end Go.Proofs.YtgfammlmbjmkoaaGreatDoor
