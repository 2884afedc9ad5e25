/- What layer 1 (decimal) and its reference tell of a text's number is what the text Dq defines. Texts have at most 1000000 bytes. -/
import Derived.Test.YtlefgkiembokeaaDoorDr3
namespace Go.Proofs.YtlefgkiembokeaaDoor
set_option linter.unusedVariables false
set_option linter.unusedSimpArgs false
open Go.RowKit
set_option maxHeartbeats 1000000
theorem bases_0 (w : World) : (Instr.index 82 (.agg #[.int .i64 10, .int .i64 16]) (.int .i64 0)).run Tryd.prog w = .ok (.int .i64 10) w := by kernel_rfl
theorem bases_1 (w : World) : (Instr.index 82 (.agg #[.int .i64 10, .int .i64 16]) (.int .i64 1)).run Tryd.prog w = .ok (.int .i64 16) w := by kernel_rfl
theorem dec_bases (w : World) :
    Calls Tryd.prog 71 #[] w fun e w' => e = .returned (.agg #[.int .i64 10, .int .i64 16]) ∧ Below w.heap.size w w' := by
  go_enter Tryd.func71, Tryd.ntmps71
  go_wp2
  refine bodyPost_ret (v := .agg #[.int .i64 10, .int .i64 16]) (by simp [results, Tryd.results71, go_sem]) rfl ⟨rfl, (Below.refl _ _).alloc (Nat.le_refl _) _⟩
set_option maxRecDepth 100000 in
theorem dec_digits (s : ByteArray) (w : World) (hs : s.size ≤ 1000000) :
    Calls Tryd.prog 17 #[.string s] w fun e w' => e = .returned (.tuple #[.int .u64 (Dp.numN 10 s.data.toList), .int .i64 (Dp.numE 10 s.data.toList)]) ∧ Below w.heap.size w w' := by
  have i0 := bases_0
  go_enter Tryd.func17, Tryd.ntmps17
  go_wp2_with fail
  refine (dec_bases _).mono ?_
  rintro e w1 ⟨rfl, hb⟩
  go_wp2_with fail
  refine (number_any 10 (.inl rfl) s _ hs).mono ?_
  clear hs
  rintro e w2 ⟨rfl, hb2⟩
  go_wp2
  go_ret2
  exact ⟨rfl, hb.trans (hb2.mono hb.size)⟩
set_option maxRecDepth 100000 in
theorem dec_hexDigits (s : ByteArray) (w : World) (hs : s.size ≤ 1000000) :
    Calls Tryd.prog 18 #[.string s] w fun e w' => e = .returned (.tuple #[.int .u64 (Dp.numN 16 s.data.toList), .int .i64 (Dp.numE 16 s.data.toList)]) ∧ Below w.heap.size w w' := by
  have i0 := bases_1
  go_enter Tryd.func18, Tryd.ntmps18
  go_wp2_with fail
  refine (dec_bases _).mono ?_
  rintro e w1 ⟨rfl, hb⟩
  go_wp2_with fail
  refine (number_any 16 (.inr rfl) s _ hs).mono ?_
  clear hs
  rintro e w2 ⟨rfl, hb2⟩
  go_wp2
  go_ret2
  exact ⟨rfl, hb.trans (hb2.mono hb.size)⟩
theorem par_yes {l : List UInt8} (h : 1 < l.length) (h0 : l.getD 0 0 = 48) : Dp.parN l = 0 ∧ Dp.parE l = 110 := by
  have : 1 < l.length ∧ l.head? = some 48 := ⟨h, by cases l with
    | nil => simp at h
    | cons a l => simpa using h0⟩
  exact ⟨if_pos this, if_pos this⟩
theorem par_no {l : List UInt8} (h : 1 < l.length → l.getD 0 0 ≠ 48) : Dp.parN l = Dp.numN 10 l ∧ Dp.parE l = Dp.numE 10 l := by
  have : ¬ (1 < l.length ∧ l.head? = some 48) := by
    rintro ⟨h1, h2⟩
    refine h h1 ?_
    cases l with
    | nil => simp at h1
    | cons a l => simpa using h2
  exact ⟨if_neg this, if_neg this⟩
theorem head_is {s : ByteArray} (h : 0 < s.size) (h0 : (((s[0]'h).toNat : Int) == 48) = true) : s.data.toList.getD 0 0 = 48 := by
  have e : s.data.toList.getD 0 0 = s[0]'h := by
    rw [List.getD_eq_getElem?_getD, List.getElem?_eq_getElem (by simpa using h)]; rfl
  rw [e]
  have := beq_iff_eq.1 h0
  exact UInt8.toNat_inj.1 (by simpa using (by omega : (s[0]'h).toNat = 48))
theorem head_isnt {s : ByteArray} (h : 0 < s.size) (h0 : (((s[0]'h).toNat : Int) == 48) = false) : s.data.toList.getD 0 0 ≠ 48 := by
  have e : s.data.toList.getD 0 0 = s[0]'h := by
    rw [List.getD_eq_getElem?_getD, List.getElem?_eq_getElem (by simpa using h)]; rfl
  rw [e]
  intro hc
  rw [hc] at h0
  simp at h0
theorem dec_parse (s : ByteArray) (w : World) (hs : s.size ≤ 1000000) :
    Calls Tryd.prog 16 #[.string s] w fun e w' => e = .returned (.tuple #[.int .u64 (Dp.parN s.data.toList), .int .i64 (Dp.parE s.data.toList)]) ∧ Below w.heap.size w w' := by
  go_enter Tryd.func16, Tryd.ntmps16
  go_wp2_with fail
  refine (dec_digits s _ hs).mono ?_
  rintro e w1 ⟨rfl, hb⟩
  go_wp2_with fail
  all_goals go_ret2
  · obtain ⟨h1, h2⟩ := par_yes (l := s.data.toList) (by simp; omega) (head_is (by assumption) (by assumption))
    exact ⟨ret_pair h1.symm h2.symm, hb⟩
  · obtain ⟨h1, h2⟩ := par_no (l := s.data.toList) (fun _ => head_isnt (by assumption) (by assumption))
    exact ⟨ret_pair h1.symm h2.symm, hb⟩
  · obtain ⟨h1, h2⟩ := par_no (l := s.data.toList) (fun h => by simp at h; omega)
    exact ⟨ret_pair h1.symm h2.symm, hb⟩
theorem ref_digit (c : Int) (w : World) (h0 : 0 ≤ c) (h1 : c < 256) :
    Calls Tryd.prog 114 #[.int .u8 c] w fun e w' => e = .returned (.int .u64 (Dp.digV c)) ∧ w = w' := by
  go_enter Tryd.func114, Tryd.ntmps114
  go_wp2
  all_goals go_ret
  all_goals refine ⟨ret_int ?_, rfl⟩
  all_goals (unfold Dp.digV; (try simp only [IntKind.wrap_u8, IntKind.wrap_u64]); repeat' split)
  all_goals omega
theorem num_is {b : Int} {l : List UInt8} (h0 : l ≠ []) (ha : Dp.allD b l = true) : Dp.numN b l = (Dp.rd b l 0).1 ∧ Dp.numE b l = (Dp.rd b l 0).2 := by
  have : ¬ (l = [] ∨ Dp.allD b l = false) := by
    rintro (h' | h')
    · exact h0 h'
    · rw [h'] at ha; exact absurd ha (by decide)
  exact ⟨if_neg this, if_neg this⟩
theorem num_111 {b : Int} {l : List UInt8} (h0 : l ≠ []) (ha : Dp.allD b l = true) (h : Dp.rd b l 0 = (0, 111)) :
    Ending.returned (.tuple #[.int .u64 0, .int .i64 111]) = Ending.returned (.tuple #[.int .u64 (Dp.numN b l), .int .i64 (Dp.numE b l)]) := by
  obtain ⟨h1, h2⟩ := num_is h0 ha
  rw [h1, h2, h]
theorem ref_read (b : Int) (hb : b = 10 ∨ b = 16) (s : ByteArray) (w : World) (hs : s.size ≤ 1000000) :
    Calls Tryd.prog 73 #[.string s, .int .u64 b] w fun e w' => e = .returned (.tuple #[.int .u64 (Dp.numN b s.data.toList), .int .i64 (Dp.numE b s.data.toList)]) ∧ w = w' := by
  have hs' : s.size ≤ 9223372036854775807 := by omega
  clear hs
  go_enter Tryd.func73, Tryd.ntmps73
  by_cases h0 : s.size = 0
  · have e : s.data.toList = [] := List.length_eq_zero_iff.1 (by simpa using h0)
    have H1 := Lib.hid (show Dp.numN b s.data.toList = 0 from if_pos (.inl e))
    have H2 := Lib.hid (show Dp.numE b s.data.toList = 110 from if_pos (.inl e))
    have h1 : (((s.size : Nat) : Int) == 0) = true := beq_iff_eq.2 (congrArg Int.ofNat h0)
    clear e h0
    go_wp2
    go_ret2
    exact ⟨ret_pair H1.out.symm H2.out.symm, rfl⟩
  · have h1 : (((s.size : Nat) : Int) == 0) = false := beq_eq_false_iff_ne.2 (fun h => h0 (Int.ofNat.inj h))
    have HNE := Lib.hid (show s.data.toList ≠ [] from fun h => h0 (by have := congrArg List.length h; simpa using this))
    clear h0
    go_wp2_with fail
    go_loop [6] (fun i => ∃ k : Nat, k ≤ s.size ∧ i = .int .i64 k ∧ Dp.allD b (s.data.toList.take k) = true) (fun i => s.size - (intOf i).toNat)
    case atStart => exact ⟨0, Nat.zero_le _, rfl, rfl⟩
    case round =>
      obtain ⟨k, hk, rfl, hall⟩ := hrel
      have HA := Lib.hid hall
      clear hall
      by_cases hlt : k < s.size
      · have hb0 : 0 ≤ ((s[k]).toNat : Int) := by omega
        have hb1 : ((s[k]).toNat : Int) < 256 := by have := (s[k]).toNat_lt; omega
        have D := Lib.hid (ref_digit ((s[k]).toNat : Int) w hb0 hb1)
        go_wp2_with fail
        refine D.out.mono ?_
        rintro e w' ⟨rfl, rfl⟩
        have HT := Lib.hid (take_snoc s k hlt)
        obtain ⟨v, hv⟩ : ∃ v, Dp.digV ((s[k]).toNat : Int) = v := ⟨_, rfl⟩
        rw [hv]
        have HV := Lib.hid hv
        clear hv hb0 hb1
        by_cases hd : v < b
        · go_wp2
          go_round
          case rel => exact ⟨k + 1, by omega, by go_num, by rw [HT.out]; unfold Dp.allD at *; rw [List.all_append, HA.out]; simpa [HV.out] using hd⟩
          case measure => simp [intOf]; omega
        · go_wp2
          go_ret2
          have hn := Dp.allD_no (b := b) (l := s.data.toList) (k := k) (by simpa using hlt) (by refine decide_eq_false ?_; show ¬ Dp.digV ((s[k]).toNat : Int) < b; rw [HV.out]; omega)
          exact ⟨ret_pair (if_pos (.inr hn)).symm (if_pos (.inr hn)).symm, rfl⟩
      · have h1 : s.data.toList.take k = s.data.toList := List.take_of_length_le (by simp; omega)
        have h2 := HA.out
        rw [h1] at h2
        have HAA := Lib.hid h2
        clear h2 h1
        go_wp2_with fail
        have K1 := Lib.hid (fun (n c : Int) (hn : Dp.U n) => stepN_U (c := c) hb hn)
        have hbU : Dp.U b := by unfold Dp.U; omega
        have K2 := Lib.hid (fun (n : Int) (hn : Dp.U n) => ref_mul n b w hn hbU)
        have K3 := Lib.hid (fun (n c : Int) (hn : Dp.U n) => ref_add (Dp.mulN n b) (Dp.digV c) w (Dp.mulN_U hn hbU) (Dp.digit_U c))
        clear hbU hb
        go_loop [7, 8, 9, 10] (fun n i _ _ => ∃ (k : Nat) (m : Int), k ≤ s.size ∧ i = .int .i64 k ∧ n = .int .u64 m ∧ Dp.U m ∧ Dp.rd b s.data.toList 0 = Dp.rd b (s.data.toList.drop k) m) (fun _ i _ _ => s.size - (intOf i).toNat)
        case atStart => exact ⟨0, 0, Nat.zero_le _, rfl, rfl, by unfold Dp.U; omega, rfl⟩
        case round =>
          obtain ⟨k, m, hk, rfl, rfl, hm, hrd⟩ := hrel
          have HR := Lib.hid hrd
          have HM := Lib.hid hm
          clear hrd hm
          by_cases hlt : k < s.size
          · have hdr : s.data.toList.drop k = s[k] :: s.data.toList.drop (k + 1) := by rw [List.drop_eq_getElem_cons (by simpa using hlt)]; rfl
            have HD := Lib.hid hdr
            clear hdr
            have S1 := Lib.hid (@stepN_rd b m s[k] (s.data.toList.drop (k + 1)))
            have S2 := Lib.hid (@stepE_rd b m s[k] (s.data.toList.drop (k + 1)))
            have S3 := Lib.hid (K1.out m ((s[k]).toNat : Int) HM.out)
            have D := Lib.hid (ref_digit ((s[k]).toNat : Int) w (by omega) (by have := (s[k]).toNat_lt; omega))
            have A := Lib.hid (K3.out m ((s[k]).toNat : Int) HM.out)
            have HN := Lib.hid (show stepN b m ((s[k]).toNat : Int) = if Dp.mulE m b = 0 then Dp.addN (Dp.mulN m b) (Dp.digV (s[k]).toNat) else 0 from rfl)
            have HE := Lib.hid (show stepE b m ((s[k]).toNat : Int) = if Dp.mulE m b = 0 then Dp.addE (Dp.mulN m b) (Dp.digV (s[k]).toNat) else Dp.mulE m b from rfl)
            go_wp2_with fail
            refine (K2.out m HM.out).mono ?_
            rintro e w' ⟨rfl, rfl⟩
            obtain ⟨z, hz⟩ : ∃ z, Dp.mulE m b = z := ⟨_, rfl⟩
            rw [hz]
            have HZ := Lib.hid hz
            clear hz
            by_cases h0 : z = 0
            · subst h0
              go_wp2_with fail
              refine D.out.mono ?_
              rintro e w' ⟨rfl, rfl⟩
              go_wp2_with fail
              refine A.out.mono ?_
              rintro e w' ⟨rfl, rfl⟩
              have HN1 := Lib.hid (HN.out.trans (if_pos HZ.out))
              have HE1 := Lib.hid (HE.out.trans (if_pos HZ.out))
              obtain ⟨y, hy⟩ : ∃ y, Dp.addE (Dp.mulN m b) (Dp.digV ((s[k]).toNat : Int)) = y := ⟨_, rfl⟩
              obtain ⟨x, hx⟩ : ∃ x, Dp.addN (Dp.mulN m b) (Dp.digV ((s[k]).toNat : Int)) = x := ⟨_, rfl⟩
              rw [hy, hx]
              have HY := Lib.hid hy
              have HX := Lib.hid hx
              clear hy hx
              by_cases hy0 : y = 0
              · subst hy0
                go_wp2
                go_round
                case rel => exact ⟨k + 1, x, by omega, by go_num, rfl, by rw [← HX.out, ← HN1.out]; exact S3.out, by rw [HR.out, HD.out, S1.out (HE1.out.trans HY.out), HN1.out, HX.out]⟩
                case measure => simp [intOf]; omega
              · have hy1 : (y != 0) = true := bne_iff_ne.2 hy0
                have HY0 := Lib.hid hy0
                clear hy0
                go_wp2
                go_ret2
                obtain ⟨r1, _⟩ := S2.out (by rw [HE1.out, HY.out]; exact HY0.out)
                exact ⟨num_111 HNE.out HAA.out (HR.out.trans ((congrArg (fun l => Dp.rd b l m) HD.out).trans r1)), rfl⟩
            · have hz1 : (z != 0) = true := bne_iff_ne.2 h0
              have hz2 : (z == 0) = false := beq_eq_false_iff_ne.2 h0
              have HY0 := Lib.hid h0
              clear h0
              go_wp2
              go_ret2
              obtain ⟨r1, _⟩ := S2.out (by rw [HE.out, if_neg (by rw [HZ.out]; exact HY0.out), HZ.out]; exact HY0.out)
              exact ⟨num_111 HNE.out HAA.out (HR.out.trans ((congrArg (fun l => Dp.rd b l m) HD.out).trans r1)), rfl⟩
          · go_wp2
            go_ret2
            have h1 : s.data.toList.drop k = [] := List.drop_eq_nil_of_le (by simp; omega)
            have h2 : Dp.rd b s.data.toList 0 = (m, 0) := by rw [HR.out, h1]; rfl
            obtain ⟨h3, h4⟩ := num_is HNE.out HAA.out
            exact ⟨ret_pair (by rw [h3, h2]) (by rw [h4, h2]), rfl⟩
theorem ref_digits (s : ByteArray) (w : World) (hs : s.size ≤ 1000000) :
    Calls Tryd.prog 20 #[.string s] w fun e w' => e = .returned (.tuple #[.int .u64 (Dp.numN 10 s.data.toList), .int .i64 (Dp.numE 10 s.data.toList)]) ∧ w = w' := by
  have K := Lib.hid (ref_read 10 (.inl rfl) s w hs)
  clear hs
  go_enter Tryd.func20, Tryd.ntmps20
  go_wp2_with fail
  refine K.out.mono ?_
  rintro e w' ⟨rfl, rfl⟩
  go_wp2
  go_ret2
  exact ⟨rfl, rfl⟩
theorem ref_hexDigits (s : ByteArray) (w : World) (hs : s.size ≤ 1000000) :
    Calls Tryd.prog 21 #[.string s] w fun e w' => e = .returned (.tuple #[.int .u64 (Dp.numN 16 s.data.toList), .int .i64 (Dp.numE 16 s.data.toList)]) ∧ w = w' := by
  have K := Lib.hid (ref_read 16 (.inr rfl) s w hs)
  clear hs
  go_enter Tryd.func21, Tryd.ntmps21
  go_wp2_with fail
  refine K.out.mono ?_
  rintro e w' ⟨rfl, rfl⟩
  go_wp2
  go_ret2
  exact ⟨rfl, rfl⟩
theorem num_err {b : Int} {l : List UInt8} : Dp.numE b l = 110 → Dp.numN b l = 0 := by
  intro h
  by_cases hc : l = [] ∨ Dp.allD b l = false
  · exact if_pos hc
  · unfold Dp.numE at h
    rw [if_neg hc] at h
    rcases Dp.rd_err b l 0 with h' | h'
    · rw [h'] at h; exact absurd h (by decide)
    · rw [h'.2] at h; exact absurd h (by decide)
theorem ref_parse (s : ByteArray) (w : World) (hs : s.size ≤ 1000000) :
    Calls Tryd.prog 19 #[.string s] w fun e w' => e = .returned (.tuple #[.int .u64 (Dp.parN s.data.toList), .int .i64 (Dp.parE s.data.toList)]) ∧ w = w' := by
  have K := Lib.hid (ref_digits s w hs)
  clear hs
  go_enter Tryd.func19, Tryd.ntmps19
  go_wp2_with fail
  refine K.out.mono ?_
  rintro e w' ⟨rfl, rfl⟩
  obtain ⟨z, hz⟩ : ∃ z, Dp.numE 10 s.data.toList = z := ⟨_, rfl⟩
  obtain ⟨y, hy⟩ : ∃ y, Dp.numN 10 s.data.toList = y := ⟨_, rfl⟩
  rw [hz, hy]
  have HZ := Lib.hid hz
  have HY := Lib.hid hy
  clear hz hy
  go_wp2_with fail
  all_goals go_ret2
  · have e1 : Dp.numE 10 s.data.toList = 110 := by rw [HZ.out]; assumption
    have e2 := num_err e1
    refine ⟨ret_pair ?_ ?_, rfl⟩
    · unfold Dp.parN; rw [e2]; simp
    · unfold Dp.parE; rw [e1]; simp
  · have h0 : 0 < s.size := by assumption
    have hor : (z == 110) = true ∨ (((s[0]'h0).toNat : Int) == 48) = true := by assumption
    have h48 : (((s[0]'h0).toNat : Int) == 48) = true := by
      rcases hor with h | h
      · exact absurd (beq_iff_eq.1 h) (by assumption)
      · exact h
    obtain ⟨h1, h2⟩ := par_yes (l := s.data.toList) (by simp; omega) (head_is h0 h48)
    exact ⟨ret_pair h1.symm h2.symm, rfl⟩
  · have h0 : 0 < s.size := by assumption
    have hor : (z == 110) = false ∧ (((s[0]'h0).toNat : Int) == 48) = false := by assumption
    obtain ⟨h1, h2⟩ := par_no (l := s.data.toList) (fun _ => head_isnt h0 hor.2)
    exact ⟨ret_pair (by rw [h1, HY.out]) (by rw [h2, HZ.out]), rfl⟩
  · obtain ⟨h1, h2⟩ := par_no (l := s.data.toList) (fun h => by simp at h; omega)
    exact ⟨ret_pair (by rw [h1, HY.out]) (by rw [h2, HZ.out]), rfl⟩
theorem law_num (n : Int) (w : World) :
    Calls Tryd.prog 22 #[.int .i64 n] w fun e w' => e = .returned (.int .i64 n) ∧ w = w' := by
  go_enter Tryd.func22, Tryd.ntmps22
  go_wp2
  go_ret
  exact ⟨rfl, rfl⟩
end Go.Proofs.YtlefgkiembokeaaDoor
