/- The sum of numbers, the program's and the reference's, is the plain function 'sumR'. Numbers have 64 bits; the slice that is summed has at most 1000 of them. -/
import Derived.Test.YtlefgkiembokeaaDoorDw1
import Derived.Lib.ItoaMem
namespace Go.Proofs.YtlefgkiembokeaaDoor
set_option linter.unusedVariables false
set_option linter.unusedSimpArgs false
open Go.RowKit
set_option maxHeartbeats 1000000
/-- numbers, summed one by one -/
def sumR : List Int → Int → Int × Int
  | [], n => (n, 0)
  | x :: l, n => if Dp.addE n x ≠ 0 then (0, 111) else sumR l (Dp.addN n x)
theorem addE_is (a b : Int) : Dp.addE a b = 0 ∨ Dp.addE a b = 111 := by unfold Dp.addE; split <;> simp
/-- a slice of integers that came in: it is nil; or it leads to a row of 'cap' cells -/
def IsRow (k : IntKind) (w : World) (a : Option Addr) (len cap : Nat) (zs : List Int) : Prop :=
  (a = none ∧ len = 0 ∧ cap = 0 ∧ zs = []) ∨
  ∃ x, a = some x ∧ len ≤ cap ∧ cap ≤ maxLen ∧ zs.length = cap ∧ (∀ i, i < zs.length → w.cell? (x.add i) = some (.int k (zs.getD i 0))) ∧ ∀ n ∈ zs, (Lit.int k n).wf = true
theorem isRow_cases {k : IntKind} {w : World} {a : Option Addr} {len cap : Nat} {zs : List Int} (h : IsRow k w a len cap zs) :
    len = 0 ∨ ∃ b off, a = some ⟨b, off, none⟩ ∧ len ≤ zs.length ∧ (∀ i, i < len → w.cell? ⟨b, off + i, none⟩ = some (.int k (zs.getD i 0))) ∧ ∀ n ∈ zs, (Lit.int k n).wf = true := by
  rcases h with ⟨_, h, _, _⟩ | ⟨x, rfl, hl, hm, hz, hc, hw⟩
  · exact .inl h
  · by_cases h0 : len = 0
    · exact .inl h0
    · obtain ⟨b, off, spot⟩ := x
      have hc0 := hc 0 (by omega)
      have hspot : spot = none := by simpa [Addr.add] using World.cell?_spot hc0
      subst hspot
      refine .inr ⟨b, off, rfl, by omega, fun i hi => ?_, hw⟩
      have := hc i (by omega)
      rwa [Lib.add_plain] at this
theorem u64_wf {n : Int} (h : (Lit.int .u64 n).wf = true) : Dp.U n := by
  have : 0 ≤ n ∧ n ≤ 18446744073709551615 := by simpa [Lit.wf, IntKind.min, IntKind.max, IntKind.signed, IntKind.bits] using h
  unfold Dp.U; omega
theorem folded64 (a : Option Addr) (len cap : Nat) (zs : List Int) (w : World) (hr : IsRow .u64 w a len cap zs) (hl : len ≤ 1000) :
    Calls Tryd.prog 74 #[.func (.func 23) #[] #[], .slice a len cap] w fun e w' => e = .returned (.tuple #[.int .u64 (sumR (zs.take len) 0).1, .int .i64 (sumR (zs.take len) 0).2]) ∧ w = w' := by
  rcases isRow_cases hr with rfl | ⟨b, off, rfl, hlz, hc, hwf⟩
  · clear hr
    go_enter Tryd.func74, Tryd.ntmps74
    go_wp2_with fail
    go_loop [4, 10] (fun n i => n = .int .u64 0 ∧ i = .int .i64 0) (fun _ _ => 0)
    case atStart => exact ⟨rfl, rfl⟩
    case round =>
      obtain ⟨rfl, rfl⟩ := hrel
      go_wp2
      go_ret2
      exact ⟨rfl, rfl⟩
  · have HC := Lib.hid hc
    have HW := Lib.hid hwf
    have HZ := Lib.hid hlz
    clear hr hc hwf
    go_enter Tryd.func74, Tryd.ntmps74
    go_wp2_with fail
    go_loop [4, 5, 7, 10] (fun n _ _ i => ∃ (k : Nat) (m : Int), k ≤ len ∧ i = .int .i64 k ∧ n = .int .u64 m ∧ Dp.U m ∧ sumR (zs.take len) 0 = sumR ((zs.take len).drop k) m) (fun _ _ _ i => len - (intOf i).toNat)
    case atStart => exact ⟨0, 0, Nat.zero_le _, rfl, rfl, by unfold Dp.U; omega, rfl⟩
    case round =>
      obtain ⟨k, m, hk, rfl, rfl, hm, hrd⟩ := hrel
      have HR := Lib.hid hrd
      have HM := Lib.hid hm
      clear hrd hm
      by_cases hlt : k < len
      · have hcell := HC.out k hlt
        have hdr : (zs.take len).drop k = zs.getD k 0 :: (zs.take len).drop (k + 1) := by
          rw [List.drop_eq_getElem_cons (by simp; omega)]
          congr 1
          rw [List.getElem_take, List.getD_eq_getElem?_getD, List.getElem?_eq_getElem (by omega)]; rfl
        have HD := Lib.hid hdr
        have hxU : Dp.U (zs.getD k 0) := u64_wf (HW.out _ (by rw [List.getD_eq_getElem?_getD, List.getElem?_eq_getElem (by omega)]; exact List.getElem_mem _))
        obtain ⟨x, hx⟩ : ∃ x, zs.getD k 0 = x := ⟨_, rfl⟩
        rw [hx] at hcell hxU
        have HX := Lib.hid hx
        have HA := Lib.hid (dec_add m x w HM.out hxU)
        have HN := Lib.hid (Dp.addN_U HM.out hxU)
        have HE := Lib.hid (addE_is m x)
        clear hdr hx hxU hlz
        go_wp2_with fail
        refine HA.out.mono ?_
        rintro e w' ⟨rfl, rfl⟩
        obtain ⟨y, hy⟩ : ∃ y, Dp.addE m x = y := ⟨_, rfl⟩
        rw [hy]
        have HY := Lib.hid hy
        clear hy
        by_cases hy0 : y = 0
        · subst hy0
          go_wp2
          go_round
          case rel => exact ⟨k + 1, Dp.addN m x, by omega, by go_num, rfl, HN.out, by rw [HR.out, HD.out, HX.out]; exact if_neg (fun h => h HY.out)⟩
          case measure => simp [intOf]; omega
        · have hy1 : (y != 0) = true := bne_iff_ne.2 hy0
          have HY0 := Lib.hid hy0
          clear hy0
          go_wp2
          go_ret2
          have e1 : sumR (zs.take len) 0 = (0, 111) := by rw [HR.out, HD.out, HX.out]; exact if_pos (by rw [HY.out]; exact HY0.out)
          have e2 : y = 111 := by rcases HE.out with h | h; exact absurd (HY.out.symm.trans h) HY0.out; exact HY.out.symm.trans h
          exact ⟨ret_pair (by rw [e1]) (by rw [e1]; exact e2), rfl⟩
      · clear hlz
        go_wp2
        go_ret2
        have h1 : (zs.take len).drop k = [] := List.drop_eq_nil_of_le (by simp; omega)
        have e1 : sumR (zs.take len) 0 = (m, 0) := by rw [HR.out, h1]; rfl
        exact ⟨ret_pair (by rw [e1]) (by rw [e1]), rfl⟩
theorem dec_sum (a : Option Addr) (len cap : Nat) (zs : List Int) (w : World) (hr : IsRow .u64 w a len cap zs) (hl : len ≤ 1000) :
    Calls Tryd.prog 27 #[.slice a len cap] w fun e w' => e = .returned (.tuple #[.int .u64 (sumR (zs.take len) 0).1, .int .i64 (sumR (zs.take len) 0).2]) ∧ w = w' := by
  have K := Lib.hid (folded64 a len cap zs w hr hl)
  clear hr
  go_enter Tryd.func27, Tryd.ntmps27
  go_wp2_with fail
  refine K.out.mono ?_
  rintro e w' ⟨rfl, rfl⟩
  go_wp2
  go_ret2
  exact ⟨rfl, rfl⟩
theorem ref_sum (a : Option Addr) (len cap : Nat) (zs : List Int) (w : World) (hr : IsRow .u64 w a len cap zs) (hl : len ≤ 1000) :
    Calls Tryd.prog 33 #[.slice a len cap] w fun e w' => e = .returned (.tuple #[.int .u64 (sumR (zs.take len) 0).1, .int .i64 (sumR (zs.take len) 0).2]) ∧ w = w' := by
  rcases isRow_cases hr with rfl | ⟨b, off, rfl, hlz, hc, hwf⟩
  · clear hr
    go_enter Tryd.func33, Tryd.ntmps33
    go_wp2_with fail
    go_loop [4, 5] (fun n i => n = .int .u64 0 ∧ i = .int .i64 0) (fun _ _ => 0)
    case atStart => exact ⟨rfl, rfl⟩
    case round =>
      obtain ⟨rfl, rfl⟩ := hrel
      go_wp2
      go_ret2
      exact ⟨rfl, rfl⟩
  · have HC := Lib.hid hc
    have HW := Lib.hid hwf
    clear hr hc hwf
    go_enter Tryd.func33, Tryd.ntmps33
    go_wp2_with fail
    go_loop [4, 5, 6, 7] (fun n i _ _ => ∃ (k : Nat) (m : Int), k ≤ len ∧ i = .int .i64 k ∧ n = .int .u64 m ∧ Dp.U m ∧ sumR (zs.take len) 0 = sumR ((zs.take len).drop k) m) (fun _ i _ _ => len - (intOf i).toNat)
    case atStart => exact ⟨0, 0, Nat.zero_le _, rfl, rfl, by unfold Dp.U; omega, rfl⟩
    case round =>
      obtain ⟨k, m, hk, rfl, rfl, hm, hrd⟩ := hrel
      have HR := Lib.hid hrd
      have HM := Lib.hid hm
      clear hrd hm
      by_cases hlt : k < len
      · have hcell := HC.out k hlt
        have hdr : (zs.take len).drop k = zs.getD k 0 :: (zs.take len).drop (k + 1) := by
          rw [List.drop_eq_getElem_cons (by simp; omega)]
          congr 1
          rw [List.getElem_take, List.getD_eq_getElem?_getD, List.getElem?_eq_getElem (by omega)]; rfl
        have HD := Lib.hid hdr
        have hxU : Dp.U (zs.getD k 0) := u64_wf (HW.out _ (by rw [List.getD_eq_getElem?_getD, List.getElem?_eq_getElem (by omega)]; exact List.getElem_mem _))
        obtain ⟨x, hx⟩ : ∃ x, zs.getD k 0 = x := ⟨_, rfl⟩
        rw [hx] at hcell hxU
        have HX := Lib.hid hx
        have HA := Lib.hid (ref_add m x w HM.out hxU)
        have HN := Lib.hid (Dp.addN_U HM.out hxU)
        have HE := Lib.hid (addE_is m x)
        clear hdr hx hxU hlz
        go_wp2_with fail
        refine HA.out.mono ?_
        rintro e w' ⟨rfl, rfl⟩
        obtain ⟨y, hy⟩ : ∃ y, Dp.addE m x = y := ⟨_, rfl⟩
        rw [hy]
        have HY := Lib.hid hy
        clear hy
        by_cases hy0 : y = 0
        · subst hy0
          go_wp2
          go_round
          case rel => exact ⟨k + 1, Dp.addN m x, by omega, by go_num, rfl, HN.out, by rw [HR.out, HD.out, HX.out]; exact if_neg (fun h => h HY.out)⟩
          case measure => simp [intOf]; omega
        · have hy1 : (y != 0) = true := bne_iff_ne.2 hy0
          have HY0 := Lib.hid hy0
          clear hy0
          go_wp2
          go_ret2
          have e1 : sumR (zs.take len) 0 = (0, 111) := by rw [HR.out, HD.out, HX.out]; exact if_pos (by rw [HY.out]; exact HY0.out)
          have e2 : y = 111 := by rcases HE.out with h | h; exact absurd (HY.out.symm.trans h) HY0.out; exact HY.out.symm.trans h
          exact ⟨ret_pair (by rw [e1]) (by rw [e1]; exact e2), rfl⟩
      · clear hlz
        go_wp2
        go_ret2
        have h1 : (zs.take len).drop k = [] := List.drop_eq_nil_of_le (by simp; omega)
        have e1 : sumR (zs.take len) 0 = (m, 0) := by rw [HR.out, h1]; rfl
        exact ⟨ret_pair (by rw [e1]) (by rw [e1]), rfl⟩
end Go.Proofs.YtlefgkiembokeaaDoor
