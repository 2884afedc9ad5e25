/- Trimming, values and small letters, the program's and the reference's, are those of the text Tq. Texts have a length that Go knows; small letters: at most 1000000 bytes. -/
import Derived.Test.YtlefgkiembokeaaDoorTw2
import Derived.Test.YtlefgkiembokeaaDoorShelf
import Derived.Shelf.Strings.SlTrimAscii
import Derived.Lib.ItoaMem
namespace Go.Proofs.YtlefgkiembokeaaDoor
set_option linter.unusedVariables false
set_option linter.unusedSimpArgs false
open Go.RowKit Go.Shelf
set_option maxHeartbeats 1000000
theorem ba_eq {x : ByteArray} {l : List UInt8} (h : x.data.toList = l) : x = ⟨l.toArray⟩ := by subst h; cases x; simp
theorem tok_trim (s : ByteArray) (w : World) (hs : s.size ≤ 9223372036854775807) :
    Calls Tryd.prog 56 #[.string s] w fun e w' => e = .returned (.string ⟨(Tp.trim s.data.toList).toArray⟩) ∧ Below w.heap.size w w' := by
  have K : Hid (∀ W, Calls Tryd.prog 98 #[.string s, .string ⟨#[32, 9]⟩] W fun e w' => e = .returned (.string ⟨(Tp.trim s.data.toList).toArray⟩) ∧ Below W.heap.size W w') := by
    intro W
    have h := Any.strings_Trim_laid Tryd.lays160 (by kernel_rfl) s ⟨#[32, 9]⟩ W hs (by decide) (ascii_of_all (by decide))
    rw [show (⟨#[32, 9]⟩ : ByteArray).data.toList = [32, 9] from rfl, Tp.trimS_is] at h
    exact h
  go_enter Tryd.func56, Tryd.ntmps56
  go_wp2_with fail
  refine (K.out _).mono ?_
  rintro e w' ⟨rfl, hb⟩
  go_wp2
  go_ret
  exact ⟨rfl, hb⟩
theorem last_split (u : ByteArray) (h : 0 < u.size) : u.data.toList = (u.extract 0 (u.size - 1)).data.toList ++ [u[u.size - 1]] := by
  rw [Lib.extract_data, List.drop_zero, Nat.sub_zero]
  have := take_snoc u (u.size - 1) (by omega)
  rw [← this, List.take_of_length_le (by simp; omega)]
theorem slice_head (u : ByteArray) (w : World) (h : 0 < u.size) (hu : u.size ≤ 9223372036854775807) : (Instr.slice 9 (.string u) none (some (.int .i64 ((u.size : Int) - 1))) none).run Tryd.prog w = .ok (.string (u.extract 0 (u.size - 1))) w := by
  have e : ((u.size : Int) - 1) = ((u.size - 1 : Nat) : Int) := by omega
  rw [e]
  simp [go_sem, Tryd.underlying9]
theorem index_last (u : ByteArray) (w : World) (h : 0 < u.size) (hu : u.size ≤ 9223372036854775807) : (Instr.index 9 (.string u) (.int .i64 ((u.size : Int) - 1))).run Tryd.prog w = .ok (.int .u8 ((u[u.size - 1]'(by omega)).toNat : Int)) w := by
  have e : ((u.size : Int) - 1) = ((u.size - 1 : Nat) : Int) := by omega
  have hi : (0 : Int) ≤ ((u.size - 1 : Nat) : Int) ∧ ((u.size - 1 : Nat) : Int) < u.size := by omega
  rw [e, run_index_string w 9 u .i64 _ Tryd.underlying9, dif_pos hi]
  simp only [Int.toNat_natCast]
theorem nil_of_size {u : ByteArray} (h : ¬ 0 < u.size) : u.data.toList = [] := by
  apply List.length_eq_zero_iff.1
  have : u.size = 0 := by omega
  exact this
theorem rtk_trim (s : ByteArray) (w : World) (hs : s.size ≤ 9223372036854775807) :
    Calls Tryd.prog 57 #[.string s] w fun e w' => e = .returned (.string ⟨(Tp.trim s.data.toList).toArray⟩) ∧ w = w' := by
  go_enter Tryd.func57, Tryd.ntmps57
  go_wp2_with fail
  go_loop [0] (fun v => ∃ t : ByteArray, v = .string t ∧ t.size ≤ 9223372036854775807 ∧ Tp.trimL s.data.toList = Tp.trimL t.data.toList) (fun v => match v with | .string t => t.size | _ => 0)
  case atStart => exact ⟨s, rfl, hs, rfl⟩
  case round =>
    clear hs
    obtain ⟨t, rfl, ht, htr⟩ := hrel
    have HT := Lib.hid htr
    clear htr
    by_cases h0 : 0 < t.size
    · have D := Lib.hid (rtk_blank ((t[0]).toNat : Int) w (by omega) (by have := (t[0]).toNat_lt; omega))
      have hc : t.data.toList = t[0] :: (t.extract 1 t.size).data.toList := by
        rw [Lib.extract_to_end]
        have : 0 < t.data.toList.length := by simpa using h0
        exact (List.drop_zero (l := t.data.toList)).symm.trans (List.drop_eq_getElem_cons (l := t.data.toList) (i := 0) this)
      have HC := Lib.hid hc
      clear hc
      go_wp2_with fail
      refine D.out.mono ?_
      rintro e w' ⟨rfl, rfl⟩
      obtain ⟨v, hv⟩ : ∃ v, Tp.blank ((t[0]).toNat : Int) = v := ⟨_, rfl⟩
      rw [hv]
      have HV := Lib.hid hv
      clear hv
      cases v
      · have HL := Lib.hid (show Tp.trimL s.data.toList = t.data.toList by rw [HT.out, HC.out, Tp.trimL_cons, if_neg (by rw [show Tp.blankB _ = false from HV.out]; decide)])
        clear HC HV
        go_wp2_with fail
        clear HT D
        go_loop [0] (fun v => ∃ u : ByteArray, v = .string u ∧ u.size ≤ 9223372036854775807 ∧ Tp.trimR t.data.toList = Tp.trimR u.data.toList) (fun v => match v with | .string u => u.size | _ => 0)
        case atStart => exact ⟨t, rfl, ht, rfl⟩
        case round =>
          clear ht
          obtain ⟨u, rfl, hu, hur⟩ := hrel
          have HU := Lib.hid hur
          clear hur
          by_cases h0' : 0 < u.size
          · have D := Lib.hid (rtk_blank ((u[u.size - 1]).toNat : Int) w (by omega) (by have := (u[u.size - 1]).toNat_lt; omega))
            have HC := Lib.hid (last_split u h0')
            have hsl := fun wx => slice_head u wx h0' hu
            have hi1 : u.size - 1 < u.size := by omega
            have hin := fun wx => index_last u wx h0' hu
            go_wp2_with (first | simp only [hin] | fail)
            refine D.out.mono ?_
            rintro e w' ⟨rfl, rfl⟩
            obtain ⟨v, hv⟩ : ∃ v, Tp.blank ((u[u.size - 1]).toNat : Int) = v := ⟨_, rfl⟩
            rw [hv]
            have HV := Lib.hid hv
            clear hv
            cases v
            · go_wp2
              go_ret
              refine ⟨ret_str (ba_eq ?_), rfl⟩
              unfold Tp.trim
              rw [HL.out, HU.out, HC.out, Tp.trimR_snoc, if_neg (by rw [show Tp.blankB _ = false from HV.out]; decide)]
            · go_wp2_with (simp only [hsl])
              go_round
              case rel => exact ⟨u.extract 0 (u.size - 1), rfl, by rw [ByteArray.size_extract]; omega, by rw [HU.out, HC.out, Tp.trimR_snoc, if_pos (by exact HV.out)]⟩
              case measure => simp; omega
          · go_wp2
            go_ret
            have hu0 : u.data.toList = [] := nil_of_size h0'
            refine ⟨ret_str (ba_eq ?_), rfl⟩
            unfold Tp.trim
            rw [HL.out, HU.out, hu0]
            rfl
      · go_wp2
        go_round
        case rel => exact ⟨t.extract 1 t.size, rfl, by rw [ByteArray.size_extract]; omega, by rw [HT.out, HC.out, Tp.trimL_cons, if_pos (by exact HV.out)]⟩
        case measure => simp; omega
    · have ht0 : t.data.toList = [] := nil_of_size h0
      have HL := Lib.hid (show Tp.trimL s.data.toList = t.data.toList by rw [HT.out, ht0]; rfl)
      clear ht0
      go_wp2_with fail
      clear h0 HT
      go_loop [0] (fun v => ∃ u : ByteArray, v = .string u ∧ u.size ≤ 9223372036854775807 ∧ Tp.trimR t.data.toList = Tp.trimR u.data.toList) (fun v => match v with | .string u => u.size | _ => 0)
      case atStart => exact ⟨t, rfl, ht, rfl⟩
      case round =>
        clear ht
        obtain ⟨u, rfl, hu, hur⟩ := hrel
        have HU := Lib.hid hur
        clear hur
        by_cases h0' : 0 < u.size
        · have D := Lib.hid (rtk_blank ((u[u.size - 1]).toNat : Int) w (by omega) (by have := (u[u.size - 1]).toNat_lt; omega))
          have HC := Lib.hid (last_split u h0')
          have hsl := fun wx => slice_head u wx h0' hu
          have hi1 : u.size - 1 < u.size := by omega
          have hin := fun wx => index_last u wx h0' hu
          go_wp2_with (first | simp only [hin] | fail)
          refine D.out.mono ?_
          rintro e w' ⟨rfl, rfl⟩
          obtain ⟨v, hv⟩ : ∃ v, Tp.blank ((u[u.size - 1]).toNat : Int) = v := ⟨_, rfl⟩
          rw [hv]
          have HV := Lib.hid hv
          clear hv
          cases v
          · go_wp2
            go_ret
            refine ⟨ret_str (ba_eq ?_), rfl⟩
            unfold Tp.trim
            rw [HL.out, HU.out, HC.out, Tp.trimR_snoc, if_neg (by rw [show Tp.blankB _ = false from HV.out]; decide)]
          · go_wp2_with (simp only [hsl])
            go_round
            case rel => exact ⟨u.extract 0 (u.size - 1), rfl, by rw [ByteArray.size_extract]; omega, by rw [HU.out, HC.out, Tp.trimR_snoc, if_pos (by exact HV.out)]⟩
            case measure => simp; omega
        · go_wp2
          go_ret
          have hu0 : u.data.toList = [] := nil_of_size h0'
          refine ⟨ret_str (ba_eq ?_), rfl⟩
          unfold Tp.trim
          rw [HL.out, HU.out, hu0]
          rfl
end Go.Proofs.YtlefgkiembokeaaDoor
