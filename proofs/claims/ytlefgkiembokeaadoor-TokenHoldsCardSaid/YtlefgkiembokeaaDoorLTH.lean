/- TokenHolds: for any text the law answers true. -/
import Derived.Test.YtlefgkiembokeaaDoorLTT
import Derived.Test.YtlefgkiembokeaaDoorTh
namespace Go.Proofs.YtlefgkiembokeaaDoor
set_option linter.unusedVariables false
set_option linter.unusedSimpArgs false
open Go.RowKit Go.Shelf
set_option maxHeartbeats 4000000
theorem slice_one (u : ByteArray) (w : World) (k : Nat) (hk : k < u.size) (hu : u.size ≤ 9223372036854775807) : (Instr.slice 9 (.string u) (some (.int .i64 (k : Int))) (some (.int .i64 ((k : Int) + 1))) none).run Tryd.prog w = .ok (.string (u.extract k (k + 1))) w := by
  have h0 : (0 : Int) ≤ (k : Int) + 1 := by omega
  have h1 : (k : Int) ≤ (k : Int) + 1 := by omega
  have h2 : (k : Int) + 1 ≤ u.size := by omega
  have h4 : ((k : Int) + 1).toNat = k + 1 := by omega
  simp [go_sem, Tryd.underlying9, h0, h1, h2, h4]
theorem q_next {q s : ByteArray} {k : Nat} (h : q.data.toList = 34 :: Tp.esc (s.data.toList.take k)) (hk : k < s.size) : (q ++ ⟨#[92]⟩ ++ s.extract k (k + 1)).data.toList = 34 :: Tp.esc (s.data.toList.take (k + 1)) := by
  rw [take_snoc s k hk, Tp.esc_snoc]
  have e1 : (q ++ ⟨#[92]⟩ ++ s.extract k (k + 1)).data.toList = q.data.toList ++ [92] ++ (s.extract k (k + 1)).data.toList := by simp
  rw [e1, h, Lib.extract_data]
  have e2 : (s.data.toList.drop k).take (k + 1 - k) = [s[k]] := by
    rw [drop_here _ k hk, show k + 1 - k = 1 by omega]
    rfl
  rw [e2]
  simp
theorem q_size {q : ByteArray} {l : List UInt8} {k : Nat} (h : q.data.toList = 34 :: Tp.esc (l.take k)) (hk : k ≤ l.length) : q.size = 2 * k + 1 := by
  have : q.data.toList.length = 2 * k + 1 := by rw [h, List.length_cons, Tp.esc_length, List.length_take]; omega
  exact this
theorem q_last {q : ByteArray} {l : List UInt8} (h : q.data.toList = 34 :: Tp.esc l) : (q ++ ⟨#[34]⟩).data.toList = 34 :: (Tp.esc l ++ [34]) := by
  have e1 : (q ++ ⟨#[34]⟩).data.toList = q.data.toList ++ [34] := by simp
  rw [e1, h]
  rfl
set_option maxRecDepth 100000 in
theorem walkTH (s : ByteArray) (w : World) (hs : s.size ≤ maxLen) (hm : ML w) :
    Calls Tryd.prog 12 #[.string s] w fun e w' => e = .returned (.bool true) ∧ Below w.heap.size w w' := by
  have WK := Lib.hid (fun W (h : ML W) => law09_works W h)
  have HM := Lib.hid hm
  clear hm
  by_cases hl : s.size ≤ 100
  · have A3 := Lib.hid (fun W => tok_trim s W (by omega))
    have A4 := Lib.hid (fun W => tok_lower s W (by omega))
    have V := Lib.hid (fun W => tok_value s W (by omega))
    have IT := Lib.hid (fun W h => tok_items s W (by omega) h)
    obtain ⟨tb, ht⟩ : ∃ x : ByteArray, (⟨(Tp.trim s.data.toList).toArray⟩ : ByteArray) = x := ⟨_, rfl⟩
    obtain ⟨lb, hlb⟩ : ∃ x : ByteArray, (⟨(Tp.lower s.data.toList).toArray⟩ : ByteArray) = x := ⟨_, rfl⟩
    have htd : tb.data.toList = Tp.trim s.data.toList := by rw [← ht]
    have hld : lb.data.toList = Tp.lower s.data.toList := by rw [← hlb]
    have hts : tb.size ≤ s.size := by
      have h1 : tb.data.toList.length ≤ s.data.toList.length := by
        rw [htd]
        unfold Tp.trim Tp.trimR Tp.trimL
        rw [List.length_reverse]
        refine Nat.le_trans (List.dropWhile_sublist _).length_le ?_
        rw [List.length_reverse]
        exact (List.dropWhile_sublist _).length_le
      exact h1
    have hls : lb.size = s.size := by
      have h1 : lb.data.toList.length = s.data.toList.length := by rw [hld]; unfold Tp.lower; rw [List.length_map]
      exact h1
    have A3b := Lib.hid (fun W => tok_trim tb W (by omega))
    have A4b := Lib.hid (fun W => tok_lower lb W (by omega))
    have SM := Lib.hid (fun W => tok_same s lb W (by omega) (by omega))
    rw [ht] at A3
    rw [hlb] at A4
    rw [htd, Tp.trim_idem, ht] at A3b
    rw [hld, Tp.lower_idem, hlb] at A4b
    rw [hld, Tp.lower_idem, beq_self_eq_true] at SM
    have htt : (tb.toList == tb.toList) = true := beq_self_eq_true _
    have hll : (lb.toList == lb.toList) = true := beq_self_eq_true _
    have htq : (tb.toList == s.toList) = (Tp.trim s.data.toList == s.data.toList) := by rw [← ht]; exact beq_bytes s _
    clear ht hlb htd hld hts hls
    have HIV := Lib.hid (fun p (h : Tp.isVal s.data.toList = true) (hp : p ∈ Tp.items s.data.toList) => Tp.items_val h hp)
    have HIC := Lib.hid (fun p (hp : p ∈ Tp.items s.data.toList) => Tp.items_comma hp)
    have HIS := Lib.hid (fun p (hp : p ∈ Tp.items s.data.toList) => (Tp.items_mem hp).1)
    have HIL := Lib.hid (fun p (hp : p ∈ Tp.items s.data.toList) => (show p.length ≤ s.data.toList.length by
      obtain ⟨_, r, hr, rfl⟩ := Tp.items_mem hp
      have h1 := Tp.parts_len s.data.toList [] r hr
      refine Nat.le_trans ?_ (by simpa using h1)
      unfold Tp.trim Tp.trimR Tp.trimL
      rw [List.length_reverse]
      refine Nat.le_trans (List.dropWhile_sublist _).length_le ?_
      rw [List.length_reverse]
      exact (List.dropWhile_sublist _).length_le))
    have HLN := Lib.hid (items_length s.data.toList)
    obtain ⟨L, hL⟩ : ∃ L, Tp.items s.data.toList = L := ⟨_, rfl⟩
    rw [hL] at IT HIV HIC HIS HIL HLN
    clear hL
    obtain ⟨v, hv⟩ : ∃ p, Tp.isVal s.data.toList = p := ⟨_, rfl⟩
    rw [hv] at V HIV
    have HV := Lib.hid hv
    have hvt : v = true → (tb.toList == s.toList) = true := by
      intro e
      rw [htq]
      rw [e] at hv
      unfold Tp.isVal at hv
      exact (Bool.and_eq_true_iff.1 hv).1
    clear hv htq
    have HVT := Lib.hid hvt
    clear hvt
    go_enter Tryd.func12, Tryd.ntmps12
    go_wp2_with fail
    refine (A3.out _).mono ?_
    rintro e w1 ⟨rfl, b1⟩
    go_wp2_with fail
    refine (A4.out _).mono ?_
    rintro e w2 ⟨rfl, b2'⟩
    have b2 := b1.trans (b2'.mono b1.size)
    clear b2' b1
    go_wp2_with fail
    refine (A3b.out _).mono ?_
    rintro e w3 ⟨rfl, b3'⟩
    have b3 := b2.trans (b3'.mono b2.size)
    clear b3' b2
    go_wp2_with fail
    refine (A4b.out _).mono ?_
    rintro e w4 ⟨rfl, b4'⟩
    have b4 := b3.trans (b4'.mono b3.size)
    clear b4' b3
    go_wp2_with fail
    refine (SM.out _).mono ?_
    rintro e w5 ⟨rfl, b5'⟩
    have b5 := b4.trans (b5'.mono b4.size)
    clear b5' b4
    go_wp2_with fail
    refine (V.out _).mono ?_
    rintro e w6 ⟨rfl, b6'⟩
    have b6 := b5.trans (b6'.mono b5.size)
    clear b6' b5
    have hm6 := Lib.hid (HM.out.below b6)
    cases v
    · go_wp2_with fail
      refine (IT.out _ hm6.out).mono ?_
      rintro e w7 ⟨r, rfl, hr, b7'⟩
      have b7 := b6.trans (b7'.mono b6.size)
      clear b7' b6
      obtain ⟨p, cap, rfl, hrow⟩ := hr
      obtain ⟨n, hn⟩ : ∃ n, L.length = n := ⟨_, rfl⟩
      rw [hn] at hrow HLN ⊢
      have HN := Lib.hid hn
      have HR := Lib.hid hrow
      have hnl : n ≤ 1000 := by have := HLN.out; have : s.data.toList.length = s.size := rfl; omega
      clear hrow hn HLN
      go_wp2_with fail
      go_loopw [6] (fun i wr => ∃ k : Nat, k ≤ n ∧ i = .int .i64 k ∧ Below w7.heap.size w7 wr) (fun i _ => n - (intOf i).toNat)
      case atStart => exact ⟨0, Nat.zero_le _, rfl, Below.refl _ _⟩
      case round =>
        obtain ⟨k, hk, rfl, hbr⟩ := hrel
        have HB := Lib.hid hbr
        clear hbr
        by_cases hlt : k < n
        · obtain ⟨g, rfl, hc⟩ := HR.out.resolve_left (by intro e; have := HN.out; rw [e] at this; simp at this; omega)
          have hx := cell_below HB.out (hc k hlt)
          have hmem : L.getD k [] ∈ L := by rw [List.getD_eq_getElem?_getD, List.getElem?_eq_getElem (show k < L.length by rw [HN.out]; exact hlt)]; exact List.getElem_mem _
          obtain ⟨x, hxx⟩ : ∃ x, L.getD k [] = x := ⟨_, rfl⟩
          rw [hxx] at hx hmem
          clear hc hxx
          obtain ⟨xb, hxb⟩ : ∃ z : ByteArray, (⟨x.toArray⟩ : ByteArray) = z := ⟨_, rfl⟩
          have hxd : xb.data.toList = x := by rw [← hxb]
          unfold tx at hx
          rw [hxb] at hx
          have hxs : xb.size ≤ 100 := by
            have h1 := HIL.out x hmem
            have h2 : xb.data.toList.length = xb.size := rfl
            have h3 : s.data.toList.length = s.size := rfl
            rw [hxd] at h2
            omega
          have hne : xb.toList.isEmpty = false := by
            have h1 := HIS.out x hmem
            unfold Tp.some? at h1
            rw [ByteArray.toList_eq, hxd]
            simpa using h1
          have hne2 : (xb.toList == []) = false := by
            cases hq : xb.toList with
            | nil => rw [hq] at hne; exact absurd hne (by decide)
            | cons _ _ => rfl
          have HC := Lib.hid (HIC.out x hmem)
          rw [← hxd] at HC
          clear hmem hxb hxd
          go_wp2_with fail
          refine (V.out _).mono ?_
          rintro e w8 ⟨rfl, b8'⟩
          have hb8 := HB.out.trans (b8'.mono HB.out.size)
          have hx8 := cell_below b8' hx
          have HB8 := Lib.hid hb8
          clear b8' hb8 hx HB
          go_wp2_with fail
          go_loop [7] (fun j => ∃ i : Nat, i ≤ xb.size ∧ j = .int .i64 i) (fun j => xb.size - (intOf j).toNat)
          case atStart => exact ⟨0, Nat.zero_le _, rfl⟩
          case round =>
            obtain ⟨i, hi, rfl⟩ := hrel
            by_cases hil : i < xb.size
            · have hb44 : (((xb[i]).toNat : Int) == 44) = false := by
                refine beq_eq_false_iff_ne.2 fun e => ?_
                have h1 : xb[i] ∈ xb.data.toList := List.getElem_mem (l := xb.data.toList) (by exact hil)
                exact HC.out _ h1 (UInt8.toNat_inj.1 (by show (xb[i]).toNat = 44; omega))
              go_wp2_with fail
              go_round
              case rel => exact ⟨i + 1, by omega, by go_num⟩
              case measure => simp [intOf]; omega
            · go_wp2_with fail
              go_roundw
              case rel => exact ⟨k + 1, by omega, by go_num, HB8.out⟩
              case measure => simp [intOf]; omega
        · go_wp2_with fail
          refine (V.out _).mono ?_
          rintro e w10 ⟨rfl, b10'⟩
          have b10 := b7.trans ((HB.out.trans (b10'.mono HB.out.size)).mono b7.size)
          have hm10 := Lib.hid (HM.out.below b10)
          clear b10'
          go_wp2_with fail
          refine (WK.out _ hm10.out).mono ?_
          rintro e w11 ⟨rfl, b11⟩
          go_wp2
          go_ret
          exact ⟨rfl, b10.trans (b11.mono b10.size)⟩
    · have hts := HVT.out rfl
      go_wp2_with fail
      refine (IT.out _ hm6.out).mono ?_
      rintro e w7 ⟨r, rfl, hr, b7'⟩
      have b7 := b6.trans (b7'.mono b6.size)
      clear b7' b6
      obtain ⟨p, cap, rfl, hrow⟩ := hr
      obtain ⟨n, hn⟩ : ∃ n, L.length = n := ⟨_, rfl⟩
      rw [hn] at hrow HLN ⊢
      have HN := Lib.hid hn
      have HR := Lib.hid hrow
      have hnl : n ≤ 1000 := by have := HLN.out; have : s.data.toList.length = s.size := rfl; omega
      clear hrow hn HLN
      go_wp2_with fail
      go_loopw [6] (fun i wr => ∃ k : Nat, k ≤ n ∧ i = .int .i64 k ∧ Below w7.heap.size w7 wr) (fun i _ => n - (intOf i).toNat)
      case atStart => exact ⟨0, Nat.zero_le _, rfl, Below.refl _ _⟩
      case round =>
        obtain ⟨k, hk, rfl, hbr⟩ := hrel
        have HB := Lib.hid hbr
        clear hbr
        by_cases hlt : k < n
        · obtain ⟨g, rfl, hc⟩ := HR.out.resolve_left (by intro e; have := HN.out; rw [e] at this; simp at this; omega)
          have hx := cell_below HB.out (hc k hlt)
          have hmem : L.getD k [] ∈ L := by rw [List.getD_eq_getElem?_getD, List.getElem?_eq_getElem (show k < L.length by rw [HN.out]; exact hlt)]; exact List.getElem_mem _
          obtain ⟨x, hxx⟩ : ∃ x, L.getD k [] = x := ⟨_, rfl⟩
          rw [hxx] at hx hmem
          clear hc hxx
          obtain ⟨xb, hxb⟩ : ∃ z : ByteArray, (⟨x.toArray⟩ : ByteArray) = z := ⟨_, rfl⟩
          have hxd : xb.data.toList = x := by rw [← hxb]
          unfold tx at hx
          rw [hxb] at hx
          have hxs : xb.size ≤ 100 := by
            have h1 := HIL.out x hmem
            have h2 : xb.data.toList.length = xb.size := rfl
            have h3 : s.data.toList.length = s.size := rfl
            rw [hxd] at h2
            omega
          have hne : xb.toList.isEmpty = false := by
            have h1 := HIS.out x hmem
            unfold Tp.some? at h1
            rw [ByteArray.toList_eq, hxd]
            simpa using h1
          have hne2 : (xb.toList == []) = false := by
            cases hq : xb.toList with
            | nil => rw [hq] at hne; exact absurd hne (by decide)
            | cons _ _ => rfl
          have HC := Lib.hid (HIC.out x hmem)
          rw [← hxd] at HC
          have XV := Lib.hid (fun W => tok_value xb W (by omega))
          have hxv : Tp.isVal xb.data.toList = true := by rw [hxd]; exact HIV.out x trivial hmem
          rw [hxv] at XV
          clear hxv
          clear hmem hxb hxd
          go_wp2_with fail
          refine (V.out _).mono ?_
          rintro e w8 ⟨rfl, b8'⟩
          have hb8 := HB.out.trans (b8'.mono HB.out.size)
          have hx8 := cell_below b8' hx
          have HB8 := Lib.hid hb8
          clear b8' hb8 hx HB
          go_wp2_with fail
          refine (XV.out _).mono ?_
          rintro e w9 ⟨rfl, b9'⟩
          have hb9 := HB8.out.trans (b9'.mono HB8.out.size)
          have hx9 := cell_below b9' hx8
          have HB9 := Lib.hid hb9
          clear b9' hb9 hx8 HB8
          go_wp2_with fail
          go_loop [7] (fun j => ∃ i : Nat, i ≤ xb.size ∧ j = .int .i64 i) (fun j => xb.size - (intOf j).toNat)
          case atStart => exact ⟨0, Nat.zero_le _, rfl⟩
          case round =>
            obtain ⟨i, hi, rfl⟩ := hrel
            by_cases hil : i < xb.size
            · have hb44 : (((xb[i]).toNat : Int) == 44) = false := by
                refine beq_eq_false_iff_ne.2 fun e => ?_
                have h1 : xb[i] ∈ xb.data.toList := List.getElem_mem (l := xb.data.toList) (by exact hil)
                exact HC.out _ h1 (UInt8.toNat_inj.1 (by show (xb[i]).toNat = 44; omega))
              go_wp2_with fail
              go_round
              case rel => exact ⟨i + 1, by omega, by go_num⟩
              case measure => simp [intOf]; omega
            · go_wp2_with fail
              go_roundw
              case rel => exact ⟨k + 1, by omega, by go_num, HB9.out⟩
              case measure => simp [intOf]; omega
        · go_wp2_with fail
          refine (V.out _).mono ?_
          rintro e w10 ⟨rfl, b10'⟩
          have b10 := b7.trans ((HB.out.trans (b10'.mono HB.out.size)).mono b7.size)
          have hm10 := Lib.hid (HM.out.below b10)
          clear b10'
          go_wp2_with fail
          go_loop [8, 9] (fun q i => ∃ (k : Nat) (qb : ByteArray), k ≤ s.size ∧ i = .int .i64 k ∧ q = .string qb ∧ Hid (qb.data.toList = 34 :: Tp.esc (s.data.toList.take k))) (fun _ i => s.size - (intOf i).toNat)
          case atStart => exact ⟨0, ⟨#[34]⟩, Nat.zero_le _, rfl, rfl, Lib.hid rfl⟩
          case round =>
            obtain ⟨j, qb, hj, rfl, rfl, HQ⟩ := hrel
            have hqs : qb.size ≤ 300 := by have := q_size HQ.out (by exact hj); omega
            by_cases hjl : j < s.size
            · have hsl := slice_one s w10 j hjl (by omega)
              have HNX := Lib.hid (q_next HQ.out hjl)
              obtain ⟨y, hy⟩ : ∃ y, s.extract j (j + 1) = y := ⟨_, rfl⟩
              have hys : y.size ≤ 1 := by rw [← hy, ByteArray.size_extract]; omega
              rw [hy] at hsl HNX
              clear hy
              go_wp2_with fail
              go_round
              case rel => exact ⟨j + 1, _, by omega, by go_num, rfl, HNX⟩
              case measure => simp [intOf]; omega
            · have hjs : j = s.size := by omega
              have HL := q_last (q := qb) (l := s.data.toList) (by have := HQ.out; rwa [List.take_of_length_le (by show s.data.toList.length ≤ j; have : s.data.toList.length = s.size := rfl; omega)] at this)
              obtain ⟨z, hz⟩ : ∃ z : ByteArray, qb ++ ⟨#[34]⟩ = z := ⟨_, rfl⟩
              rw [hz] at HL
              have hzs : z.size ≤ 1000000 := by rw [← hz, ByteArray.size_append]; show qb.size + 1 ≤ _; omega
              have QC := Lib.hid (tok_quoted z w10 hzs)
              have hval : Tp.allT Tp.valB s.data.toList = true := by
                have := HV.out
                unfold Tp.isVal at this
                exact (Bool.and_eq_true_iff.1 this).2
              have hqe := Tp.quoted_esc hval
              rw [HL, hqe.1, hqe.2] at QC
              have hss : (s.toList == s.toList) = true := beq_self_eq_true _
              clear hzs hval hqe HL hjs
              go_wp2_with fail
              refine QC.out.mono ?_
              rintro e w11 ⟨rfl, b11'⟩
              have b11 := b10.trans (b11'.mono b10.size)
              have hm11 := Lib.hid (HM.out.below b11)
              clear b11'
              go_wp2_with (go_at_call 51; go_in)
              refine (WK.out _ hm11.out).mono ?_
              rintro e w12 ⟨rfl, b12⟩
              go_wp2
              go_ret
              exact ⟨rfl, b11.trans (b12.mono b11.size)⟩
  · go_enter Tryd.func12, Tryd.ntmps12
    go_wp2_with fail
    refine (WK.out _ HM.out).mono ?_
    rintro e w4 ⟨rfl, b4⟩
    go_wp2
    go_ret
    exact ⟨rfl, b4⟩
end Go.Proofs.YtlefgkiembokeaaDoor
