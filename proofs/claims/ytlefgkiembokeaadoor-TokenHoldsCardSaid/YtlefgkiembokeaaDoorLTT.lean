/- TokenTells: for any two texts the law answers true. -/
import Derived.Test.YtlefgkiembokeaaDoorTwk
namespace Go.Proofs.YtlefgkiembokeaaDoor
set_option linter.unusedVariables false
set_option linter.unusedSimpArgs false
open Go.RowKit Go.Shelf
set_option maxHeartbeats 2000000
theorem parts_length : ∀ (l a : List UInt8), (Tp.parts a l).length ≤ l.length + 1
  | [], a => by unfold Tp.parts; simp
  | c :: l, a => by
    unfold Tp.parts
    by_cases h : c = 44
    · rw [if_pos h, List.length_cons, List.length_cons]
      have := parts_length l []
      omega
    · rw [if_neg h, List.length_cons]
      have := parts_length l (a ++ [c])
      omega
theorem items_length (l : List UInt8) : (Tp.items l).length ≤ l.length + 1 := by
  unfold Tp.items Tp.itm
  refine Nat.le_trans (List.length_filter_le _ _) ?_
  rw [List.length_map]
  exact parts_length l []
set_option maxRecDepth 100000 in
theorem walkTT (s t : ByteArray) (w : World) (hs : s.size ≤ maxLen) (ht : t.size ≤ maxLen) (hm : ML w) :
    Calls Tryd.prog 11 #[.string s, .string t] w fun e w' => e = .returned (.bool true) ∧ Below w.heap.size w w' := by
  have WK := Lib.hid (fun W (h : ML W) => law09_works W h)
  have HM := Lib.hid hm
  clear hm
  by_cases hl : s.size ≤ 200
  · by_cases hl2 : t.size ≤ 200
    · have A1 := Lib.hid (fun W => tok_token s W (by omega))
      have R1 := Lib.hid (fun W => rtk_token s W (by omega))
      have A2 := Lib.hid (fun W => tok_value s W (by omega))
      have R2 := Lib.hid (fun W => rtk_value s W (by omega))
      have A3 := Lib.hid (fun W => tok_trim s W (by omega))
      have R3 := Lib.hid (fun W => rtk_trim s W (by omega))
      have A4 := Lib.hid (fun W => tok_lower s W (by omega))
      have R4 := Lib.hid (fun W => rtk_lower s W (by omega))
      have A5 := Lib.hid (fun W => tok_same s t W (by omega) (by omega))
      have R5 := Lib.hid (fun W => rtk_lower t W (by omega))
      have A6 := Lib.hid (fun W h => tok_items s W (by omega) h)
      have R6 := Lib.hid (fun W => rtk_items s W (by omega))
      have hL : (Tp.items s.data.toList).length ≤ 1000 := by
        have := items_length s.data.toList
        have : s.data.toList.length = s.size := rfl
        omega
      obtain ⟨L, hLL⟩ : ∃ L, Tp.items s.data.toList = L := ⟨_, rfl⟩
      rw [hLL] at A6 R6 hL
      clear hLL
      have HL := Lib.hid hL
      clear hL
      have hxy : (((⟨(Tp.lower s.data.toList).toArray⟩ : ByteArray).toList == (⟨(Tp.lower t.data.toList).toArray⟩ : ByteArray).toList)) = (Tp.lower s.data.toList == Tp.lower t.data.toList) := by rw [ByteArray.toList_eq, ByteArray.toList_eq]
      obtain ⟨p, hp⟩ : ∃ p, Tp.isTok s.data.toList = p := ⟨_, rfl⟩
      obtain ⟨v, hv⟩ : ∃ p, Tp.isVal s.data.toList = p := ⟨_, rfl⟩
      obtain ⟨z, hz⟩ : ∃ x : ByteArray, (⟨(Tp.trim s.data.toList).toArray⟩ : ByteArray) = x := ⟨_, rfl⟩
      obtain ⟨x, hx⟩ : ∃ x : ByteArray, (⟨(Tp.lower s.data.toList).toArray⟩ : ByteArray) = x := ⟨_, rfl⟩
      obtain ⟨y, hy⟩ : ∃ x : ByteArray, (⟨(Tp.lower t.data.toList).toArray⟩ : ByteArray) = x := ⟨_, rfl⟩
      obtain ⟨d, hd⟩ : ∃ p, (Tp.lower s.data.toList == Tp.lower t.data.toList) = p := ⟨_, rfl⟩
      rw [hp] at A1 R1
      rw [hv] at A2 R2
      rw [hz] at A3 R3
      rw [hx] at A4 R4 hxy
      rw [hy] at R5 hxy
      rw [hd] at A5 hxy
      clear hp hv hz hx hy hd
      have hxx : (x.toList == x.toList) = true := beq_self_eq_true _
      have hzz : (z.toList == z.toList) = true := beq_self_eq_true _
      have hpp : (p == p) = true := beq_self_eq_true _
      have hvv : (v == v) = true := beq_self_eq_true _
      have hdd : (d == d) = true := beq_self_eq_true _
      go_enter Tryd.func11, Tryd.ntmps11
      go_wp2_with fail
      refine (A1.out _).mono ?_
      rintro e w1 ⟨rfl, b1⟩
      go_wp2_with fail
      refine (R1.out _).mono ?_
      rintro e w2 ⟨rfl, rfl⟩
      go_wp2_with fail
      refine (A2.out _).mono ?_
      rintro e w3 ⟨rfl, b3'⟩
      have b3 := b1.trans (b3'.mono b1.size)
      clear b3' b1
      go_wp2_with fail
      refine (R2.out _).mono ?_
      rintro e w4 ⟨rfl, rfl⟩
      go_wp2_with fail
      refine (A3.out _).mono ?_
      rintro e w5 ⟨rfl, b5'⟩
      have b5 := b3.trans (b5'.mono b3.size)
      clear b5' b3
      go_wp2_with fail
      refine (R3.out _).mono ?_
      rintro e w6 ⟨rfl, rfl⟩
      go_wp2_with fail
      refine (A4.out _).mono ?_
      rintro e w7 ⟨rfl, b7'⟩
      have b7 := b5.trans (b7'.mono b5.size)
      clear b7' b5
      go_wp2_with fail
      refine (R4.out _).mono ?_
      rintro e w8 ⟨rfl, b8'⟩
      have b8 := b7.trans (b8'.mono b7.size)
      clear b8' b7
      go_wp2_with fail
      refine (A5.out _).mono ?_
      rintro e w9 ⟨rfl, b9'⟩
      have b9 := b8.trans (b9'.mono b8.size)
      clear b9' b8
      go_wp2_with fail
      refine (R4.out _).mono ?_
      rintro e w10 ⟨rfl, b10'⟩
      have b10 := b9.trans (b10'.mono b9.size)
      clear b10' b9
      go_wp2_with fail
      refine (R5.out _).mono ?_
      rintro e w11 ⟨rfl, b11'⟩
      have b11 := b10.trans (b11'.mono b10.size)
      clear b11' b10
      have hm11 := Lib.hid (HM.out.below b11)
      go_wp2_with fail
      refine (A6.out _ hm11.out).mono ?_
      rintro e w12 ⟨r1, rfl, hr1, b12'⟩
      have b12 := b11.trans (b12'.mono b11.size)
      clear b12' b11
      have HR1 := Lib.hid hr1
      clear hr1
      go_wp2_with fail
      refine (R6.out _).mono ?_
      rintro e w13 ⟨r2, rfl, hr2, b13'⟩
      have b13 := b12.trans (b13'.mono b12.size)
      have HR1b := Lib.hid (HR1.out.below b13')
      have HR2 := Lib.hid hr2
      clear hr2 b13' b12
      have LI := Lib.hid (law_list r1 r2 L L w13 HR1b.out HR2.out HL.out HL.out)
      rw [show (L == L) = true from beq_self_eq_true _] at LI
      go_wp2_with fail
      refine LI.out.mono ?_
      rintro e w14 ⟨rfl, b14'⟩
      have b14 := b13.trans (b14'.mono b13.size)
      clear b14' b13
      have hm14 := Lib.hid (HM.out.below b14)
      go_wp2_with fail
      refine (WK.out _ hm14.out).mono ?_
      rintro e w15 ⟨rfl, b15⟩
      go_wp2
      go_ret
      exact ⟨rfl, b14.trans (b15.mono b14.size)⟩
    · go_enter Tryd.func11, Tryd.ntmps11
      go_wp2_with fail
      refine (WK.out _ HM.out).mono ?_
      rintro e w4 ⟨rfl, b4⟩
      go_wp2
      go_ret
      exact ⟨rfl, b4⟩
  · go_enter Tryd.func11, Tryd.ntmps11
    go_wp2_with fail
    refine (WK.out _ HM.out).mono ?_
    rintro e w4 ⟨rfl, b4⟩
    go_wp2
    go_ret
    exact ⟨rfl, b4⟩
end Go.Proofs.YtlefgkiembokeaaDoor
