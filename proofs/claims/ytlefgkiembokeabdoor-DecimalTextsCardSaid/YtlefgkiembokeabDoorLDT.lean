/- DecimalTexts returns true for any number of 64 bits and any count of noughts: the walk. The tables of the library read as they are laid. -/
import Derived.Test.YtlefgkiembokeabDoorDwk
import Derived.Test.YtlefgkiembokeabDoorDu
namespace Go.Proofs.YtlefgkiembokeabDoor
set_option linter.unusedVariables false
set_option linter.unusedSimpArgs false
open Go.RowKit
set_option maxHeartbeats 1000000
theorem u64_wf {a : Int} (h : (Lit.int .u64 a).wf = true) : Dp.U a := by
  have : 0 ≤ a ∧ a ≤ 18446744073709551615 := by simpa [Lit.wf, IntKind.min, IntKind.max, IntKind.signed, IntKind.bits] using h
  unfold Dp.U; omega
theorem rep_noughts (k : Nat) : Lib.repeatL [48] k = List.replicate k 48 := by
  induction k with
  | zero => rfl
  | succ k ih => rw [List.replicate_succ, ← ih]; rfl
theorem up_val : ∀ i : Fin 16, Dp.digV ((Lib.upperB (Dp.dg i.val)).toNat : Int) = i.val := by decide +kernel
theorem digs_ascii (b n : Nat) (hb : 2 ≤ b) (hb' : b ≤ 16) (x : UInt8) (h : x ∈ Dp.digs b n) : x.toNat < 128 := by
  have hd : ∀ i : Fin 16, (Dp.dg i.val).toNat < 128 := by decide +kernel
  induction n using Nat.strongRecOn with
  | _ n ih =>
    by_cases hn : n < b
    · rw [Dp.digs_lt hn] at h
      have : x = Dp.dg n := by simpa using h
      subst this
      exact hd ⟨n, by omega⟩
    · rw [Dp.digs_ge hb hn] at h
      rcases List.mem_append.1 h with h | h
      · exact ih (n / b) (Nat.div_lt_self (by omega) (by omega)) h
      · have : x = Dp.dg (n % b) := by simpa using h
        subst this
        exact hd ⟨n % b, by have := Nat.mod_lt n (show 0 < b by omega); omega⟩
set_option maxRecDepth 100000 in
theorem walkDT (a m : Int) (w : World) (ha : (Lit.int .u64 a).wf = true) (hm : (Lit.int .i64 m).wf = true) (ht : Tabs w) :
    Calls Tryd.prog 3 #[.int .u64 a, .int .i64 m] w fun e w' => e = .returned (.bool true) ∧ Below w.heap.size w w' := by
  have HT := Lib.hid ht
  have hU := u64_wf ha
  clear ht ha
  obtain ⟨u, rfl⟩ : ∃ u : Nat, a = u := ⟨a.toNat, by unfold Dp.U at hU; omega⟩
  have hu : u < 18446744073709551616 := by unfold Dp.U at hU; omega
  by_cases hmm : 0 ≤ m ∧ m ≤ 30
  · obtain ⟨hm0, hm1⟩ := hmm
    obtain ⟨k, rfl⟩ : ∃ k : Nat, m = k := ⟨m.toNat, by omega⟩
    have T1 := Lib.hid (fun W h => dec_text u W hu h)
    have T2 := Lib.hid (fun W h => dec_hex u W hu h)
    have R1 := Lib.hid (fun W => ref_text u hu W)
    have R2 := Lib.hid (fun W => ref_hex u hu W)
    obtain ⟨S, hS⟩ : ∃ S : ByteArray, ⟨(Dp.digs 10 u).toArray⟩ = S := ⟨_, rfl⟩
    obtain ⟨H, hH⟩ : ∃ S : ByteArray, ⟨(Dp.digs 16 u).toArray⟩ = S := ⟨_, rfl⟩
    have hSl : S.data.toList = Dp.digs 10 u := by rw [← hS]
    have hHl : H.data.toList = Dp.digs 16 u := by rw [← hH]
    have hSs : S.size ≤ 20 := by
      have h1 := Dp.digs_length_le (b := 10) (by omega) 20 u (by omega) (by omega)
      rw [← hSl] at h1
      exact h1
    have hHs : H.size ≤ 16 := by
      have h1 := Dp.digs_length_le (b := 16) (by omega) 16 u (by omega) (by omega)
      rw [← hHl] at h1
      exact h1
    have P1 := Lib.hid (fun W => dec_parse S W (by omega))
    have P2 := Lib.hid (fun W => dec_hexDigits H W (by omega))
    have e1 := Dp.par_digs u hu
    have e2 := Dp.num_digs (b := 16) (by omega) (by omega) u hu
    rw [hSl, e1.1, e1.2] at P1
    rw [hHl, show (16 : Int) = ((16 : Nat) : Int) from rfl, e2.1, e2.2] at P2
    have RP := Lib.hid (fun W => Tryd.strings_Repeat ⟨#[48]⟩ k W (by omega) (by show 1 * k ≤ _; omega))
    have hrl : (Lib.repeatL (⟨#[48]⟩ : ByteArray).data.toList k) = List.replicate k 48 := rep_noughts k
    rw [hrl] at RP
    obtain ⟨Z, hZ⟩ : ∃ S : ByteArray, ⟨(List.replicate k (48 : UInt8)).toArray⟩ = S := ⟨_, rfl⟩
    have hZs : Z.size ≤ 30 := by rw [← hZ]; show (List.replicate k (48 : UInt8)).length ≤ 30; rw [List.length_replicate]; omega
    obtain ⟨Y, hY⟩ : ∃ S' : ByteArray, Z ++ S = S' := ⟨_, rfl⟩
    have hYl : Y.data.toList = List.replicate k 48 ++ Dp.digs 10 u := by rw [← hY, ByteArray.data_append, Array.toList_append, hSl, ← hZ]
    have hYs : Y.size ≤ 50 := by
      have h1 : Y.data.toList.length = Y.size := rfl
      have h2 : S.data.toList.length = S.size := rfl
      rw [hYl, List.length_append, List.length_replicate, ← hSl] at h1
      omega
    have P3 := Lib.hid (fun W => dec_digits Y W (by omega))
    have e3 := Dp.digs_noughts u k hu
    rw [hYl, e3.1, e3.2] at P3
    have UP := Lib.hid (fun W => Tryd.strings_ToUpper_ascii H W (by omega) (fun j b hj => by
      rw [hHl] at hj
      exact digs_ascii 16 u (by omega) (by omega) b (List.mem_of_getElem? hj)))
    rw [hHl] at UP
    obtain ⟨V, hV⟩ : ∃ S : ByteArray, ⟨(Lib.toUpperA (Dp.digs 16 u)).toArray⟩ = S := ⟨_, rfl⟩
    have hVl : V.data.toList = (Dp.digs 16 u).map Lib.upperB := by rw [← hV]; rfl
    have hVs : V.size ≤ 16 := by
      have h1 : V.data.toList.length = V.size := rfl
      have h2 : H.data.toList.length = H.size := rfl
      rw [hVl, List.length_map, ← hHl] at h1
      omega
    have P4 := Lib.hid (fun W => dec_hexDigits V W (by omega))
    have e4 := Dp.num_map (b := 16) (by omega) (by omega) Lib.upperB up_val u hu
    rw [hVl, show (16 : Int) = ((16 : Nat) : Int) from rfl, e4.1, e4.2] at P4
    rw [hS] at T1 R1
    rw [hH] at T2 R2
    rw [hZ] at RP
    rw [hV] at UP
    have HY := Lib.hid hY
    have hSS : (S.toList == S.toList) = true := beq_self_eq_true _
    have hHH : (H.toList == H.toList) = true := beq_self_eq_true _
    have hZS : Z.size + S.size ≤ 9223372036854775807 := by omega
    clear hS hH hSl hHl hSs hHs e1 e2 hrl hZ hYl hYs e3 hV hVl hVs e4 hU hu hZs
    go_enter Tryd.func3, Tryd.ntmps3
    go_wp2_with fail
    refine (T1.out _ HT.out).mono ?_
    rintro e w1 ⟨rfl, b1⟩
    have t1 := Lib.hid (HT.out.below b1)
    go_wp2_with fail
    refine (T2.out _ t1.out).mono ?_
    rintro e w2 ⟨rfl, b2'⟩
    have b2 := b1.trans (b2'.mono b1.size)
    clear b2' b1 t1
    go_wp2_with fail
    refine (P1.out _).mono ?_
    rintro e w3 ⟨rfl, b3'⟩
    have b3 := b2.trans (b3'.mono b2.size)
    clear b3' b2
    go_wp2_with fail
    refine (P2.out _).mono ?_
    rintro e w4 ⟨rfl, b4'⟩
    have b4 := b3.trans (b4'.mono b3.size)
    clear b4' b3
    go_wp2_with fail
    refine (RP.out _).mono ?_
    rintro e w5 ⟨rfl, b5'⟩
    have b5 := b4.trans (b5'.mono b4.size)
    clear b5' b4
    go_wp2_with fail
    refine (P3.out _).mono ?_
    rintro e w6 ⟨rfl, b6'⟩
    have b6 := b5.trans (b6'.mono b5.size)
    clear b6' b5
    go_wp2_with fail
    refine (UP.out _).mono ?_
    rintro e w7 ⟨rfl, b7'⟩
    have b7 := b6.trans (b7'.mono b6.size)
    clear b7' b6
    go_wp2_with fail
    refine (P4.out _).mono ?_
    rintro e w8 ⟨rfl, b8'⟩
    have b8 := b7.trans (b8'.mono b7.size)
    clear b8' b7
    go_wp2_with fail
    refine (R1.out _).mono ?_
    rintro e w9 ⟨rfl, rfl⟩
    go_wp2_with fail
    refine (R2.out _).mono ?_
    rintro e w10 ⟨rfl, rfl⟩
    have t8 := Lib.hid (HT.out.below b8)
    go_wp2_with (go_at_call 14; go_in)
    refine (law01_works _ t8.out).mono ?_
    rintro e w11 ⟨rfl, b11⟩
    go_wp2
    go_ret
    exact ⟨rfl, b8.trans (b11.mono b8.size)⟩
  · have hmm2 : m < 0 ∨ 30 < m := by omega
    clear hmm
    rcases hmm2 with h | h
    all_goals
      go_enter Tryd.func3, Tryd.ntmps3
      go_wp2_with fail
      refine (law01_works _ HT.out).mono ?_
      rintro e w6 ⟨rfl, hb6⟩
      go_wp2
      go_ret
      exact ⟨rfl, hb6⟩
end Go.Proofs.YtlefgkiembokeabDoor
