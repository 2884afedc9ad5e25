/- Values and small letters, the reference's and the program's. Texts have a length that Go knows. -/
import Derived.Test.YtlefgkiembokeaaDoorTw4
namespace Go.Proofs.YtlefgkiembokeaaDoor
set_option linter.unusedVariables false
set_option linter.unusedSimpArgs false
open Go.RowKit Go.Shelf
set_option maxHeartbeats 1000000
theorem rtk_value (s : ByteArray) (w : World) (hs : s.size ≤ 9223372036854775807) :
    Calls Tryd.prog 55 #[.string s] w fun e w' => e = .returned (.bool (Tp.isVal s.data.toList)) ∧ w = w' := by
  have TR := Lib.hid (fun W => rtk_trim s W hs)
  go_enter Tryd.func55, Tryd.ntmps55
  go_wp2_with fail
  go_loop [3] (fun i => ∃ k : Nat, k ≤ s.size ∧ i = .int .i64 k ∧ Tp.allT Tp.valB (s.data.toList.take k) = true) (fun i => s.size - (intOf i).toNat)
  case atStart => exact ⟨0, Nat.zero_le _, rfl, rfl⟩
  case round =>
    obtain ⟨k, hk, rfl, hall⟩ := hrel
    have HA := Lib.hid hall
    clear hall
    by_cases hlt : k < s.size
    · have D := Lib.hid (rtk_byteOf ((s[k]).toNat : Int) w (by omega) (by have := (s[k]).toNat_lt; omega))
      have HT := Lib.hid (take_snoc s k hlt)
      go_wp2_with fail
      refine D.out.mono ?_
      rintro e w' ⟨rfl, rfl⟩
      obtain ⟨v, hv⟩ : ∃ v, Tp.valB ((s[k]).toNat : Int) = v := ⟨_, rfl⟩
      rw [hv]
      have HV := Lib.hid hv
      clear hv
      cases v
      · go_wp2
        go_ret
        have hn := Tp.allT_no (f := Tp.valB) (l := s.data.toList) (k := k) (by simpa using hlt) (by exact HV.out)
        exact ⟨ret_bool (by unfold Tp.isVal; rw [hn]; simp), rfl⟩
      · go_wp2
        go_round
        case rel => exact ⟨k + 1, by omega, by go_num, by rw [HT.out]; exact Tp.allT_snoc HA.out HV.out⟩
        case measure => simp [intOf]; omega
    · have h1 : s.data.toList.take k = s.data.toList := List.take_of_length_le (by simp; omega)
      have h2 := HA.out
      rw [h1] at h2
      have HAA := Lib.hid h2
      clear h2 h1
      go_wp2_with fail
      refine (TR.out _).mono ?_
      rintro e w' ⟨rfl, rfl⟩
      obtain ⟨t, ht⟩ : ∃ t : ByteArray, (⟨(Tp.trim s.data.toList).toArray⟩ : ByteArray) = t := ⟨_, rfl⟩
      rw [ht]
      have hq : (t.toList == s.toList) = (Tp.trim s.data.toList == s.data.toList) := by rw [← ht]; exact beq_bytes s _
      clear ht
      go_wp2_with fail
      go_ret
      exact ⟨ret_bool (by unfold Tp.isVal; rw [HAA.out, Bool.and_true]), rfl⟩
/-- the row of a text's bytes, of which the first k are in small letters -/
def lowF (l : List UInt8) (k j : Nat) : Int := if j < k then Tp.lowB ((l.getD j 0).toNat : Int) else ((l.getD j 0).toNat : Int)
def LowRow (w : World) (B n : Nat) (l : List UInt8) (k : Nat) : Prop := ∀ j, j < n → w.cell? ⟨B, j, none⟩ = some (.int .u8 (lowF l k j)) ∧ w.frozen? ⟨B, j, none⟩ = false
theorem lowRow_start (w : World) (s : ByteArray) (B : Nat) (hB : w.heap.size = B) : LowRow (Lib.bytesWorld w 5 s) B s.size s.data.toList 0 := by
  subst hB
  intro j hj
  refine ⟨?_, ?_⟩
  · rw [Lib.bytesWorld_cell w 5 s j hj]; rfl
  · unfold World.frozen?
    rw [show (⟨w.heap.size, j, none⟩ : Addr).block = w.heap.size from rfl, Lib.bytesWorld_at_new]
    have : j < (Lib.bytesCells w 5 s).size := by simp [Lib.bytesCells]; omega
    simp
    omega
theorem lowRow_keep {w : World} {B n : Nat} {l : List UInt8} {k : Nat} (h : LowRow w B n l k) (hc : Tp.lowB ((l.getD k 0).toNat : Int) = ((l.getD k 0).toNat : Int)) : LowRow w B n l (k + 1) := by
  intro j hj
  refine ⟨?_, (h j hj).2⟩
  rw [(h j hj).1]
  unfold lowF
  by_cases hjk : j = k
  · subst hjk; rw [if_neg (by omega), if_pos (by omega), hc]
  · by_cases h2 : j < k
    · rw [if_pos h2, if_pos (by omega)]
    · rw [if_neg h2, if_neg (by omega)]
theorem lowRow_set {w : World} {B n : Nat} {l : List UInt8} {k : Nat} {x : Int} (h : LowRow w B n l k) (hk : k < n) (hc : Tp.lowB ((l.getD k 0).toNat : Int) = x) : LowRow (w.setCell ⟨B, k, none⟩ (.int .u8 x)) B n l (k + 1) := by
  intro j hj
  refine ⟨?_, by rw [World.frozen?_setCell]; exact (h j hj).2⟩
  by_cases hjk : j = k
  · subst hjk
    rw [World.cell?_setCell_same _ _ _ (h j hj).1]
    unfold lowF
    rw [if_pos (by omega), hc]
  · rw [World.cell?_setCell_other _ _ _ _ (by intro e; cases e; exact hjk rfl), (h j hj).1]
    unfold lowF
    by_cases h2 : j < k
    · rw [if_pos h2, if_pos (by omega)]
    · rw [if_neg h2, if_neg (by omega)]
theorem low_back {w : World} {B cap : Nat} {s : ByteArray} (h : LowRow w B s.size s.data.toList s.size) :
    (convert 41 9 (.slice (some ⟨B, 0, none⟩) s.size cap)).run Tryd.prog w = .ok (.string ⟨(Tp.lower s.data.toList).toArray⟩) w := by
  have hl : (Tp.lower s.data.toList).length = s.size := by unfold Tp.lower; rw [List.length_map]; rfl
  have := run_convert_bytes_back (P := Tryd.prog) w 41 9 5 ⟨B, 0, none⟩ cap (Tp.lower s.data.toList) Tryd.underlying41 Tryd.underlying5 Tryd.underlying9 (fun j hj => by
    have hadd : (⟨B, 0, none⟩ : Addr).add j = ⟨B, j, none⟩ := by simp [Addr.add]; exact fun e => e.symm
    rw [hadd, (h j (by omega)).1]
    unfold lowF
    rw [if_pos (by omega)]
    have hj' : j < s.data.toList.length := by simpa [Tp.lower] using hj
    have : (Tp.lower s.data.toList)[j] = UInt8.ofNat (Tp.lowB ((s.data.toList.getD j 0).toNat : Int)).toNat := by
      rw [show s.data.toList.getD j 0 = s.data.toList[j] by simp [List.getD_eq_getElem?_getD, List.getElem?_eq_getElem hj']]
      exact List.getElem_map _
    rw [this, Tp.lower_at])
  rw [hl] at this
  exact this
theorem tok_lower (s : ByteArray) (w : World) (hs : s.size ≤ 9223372036854775807) :
    Calls Tryd.prog 58 #[.string s] w fun e w' => e = .returned (.string ⟨(Tp.lower s.data.toList).toArray⟩) ∧ Below w.heap.size w w' := by
  have hcv := fun (W : World) (s : ByteArray) => Lib.run_convert_string_bytes (P := Tryd.prog) W 9 41 5 s Tryd.underlying9 Tryd.underlying41 Tryd.underlying5
  go_enter Tryd.func58, Tryd.ntmps58
  go_wp2_with fail
  clear hcv
  have hB : w.heap.size ≤ w.heap.size := Nat.le_refl _
  have hst := Lib.hid (lowRow_start w s w.heap.size rfl)
  have hbw := Lib.hid (below_bytesWorld w.heap.size w 5 s (Nat.le_refl _))
  obtain ⟨cap, hcap⟩ : ∃ c, grownCap w s.size 0 5 = c := ⟨_, rfl⟩
  simp only [hcap]
  go_loopw [4, 5, 10] (fun _ _ i wr => ∃ k : Nat, k ≤ s.size ∧ i = .int .i64 k ∧ Below w.heap.size w wr ∧ LowRow wr w.heap.size s.size s.data.toList k) (fun _ _ i _ => s.size - (intOf i).toNat)
  case atStart => exact ⟨0, Nat.zero_le _, rfl, hbw.out, hst.out⟩
  case round =>
    clear hst hbw
    obtain ⟨k, hk, rfl, hb, hrow⟩ := hrel
    have HB := Lib.hid hb
    have HR := Lib.hid hrow
    clear hrow hb
    by_cases hlt : k < s.size
    · have hc := (HR.out k hlt).1
      have hf := (HR.out k hlt).2
      have hcur : lowF s.data.toList k k = ((s.data.toList.getD k 0).toNat : Int) := if_neg (Nat.lt_irrefl k)
      rw [hcur] at hc
      clear hcur
      have hr1 : (0 : Int) ≤ ((s.data.toList.getD k 0).toNat : Int) := by omega
      have hr2 : ((s.data.toList.getD k 0).toNat : Int) < 256 := by have := (s.data.toList.getD k 0).toNat_lt; omega
      have HS := Lib.hid (fun x => lowRow_set (x := x) HR.out hlt)
      have HK := Lib.hid (lowRow_keep HR.out)
      obtain ⟨c, hcc⟩ : ∃ c : Int, ((s.data.toList.getD k 0).toNat : Int) = c := ⟨_, rfl⟩
      rw [hcc] at hc hr1 hr2 HS HK
      clear hcc HR
      by_cases hcap : 65 ≤ c ∧ c ≤ 90
      · obtain ⟨h1, h2⟩ := hcap
        have HL := Lib.hid (show Tp.lowB c = c + 97 - 65 by unfold Tp.lowB; rw [if_pos ⟨h1, h2⟩]; omega)
        go_wp2
        go_roundw
        case rel => exact ⟨k + 1, by omega, by go_num, HB.out.setCell (Nat.le_refl _) _, HS.out _ HL.out⟩
        case measure => simp [intOf]; omega
      · have HL := Lib.hid (show Tp.lowB c = c by unfold Tp.lowB; rw [if_neg hcap])
        by_cases h1 : 65 ≤ c
        · have h2 : ¬ c ≤ 90 := fun h => hcap ⟨h1, h⟩
          clear hcap
          go_wp2
          go_roundw
          case rel => exact ⟨k + 1, by omega, by go_num, HB.out, HK.out HL.out⟩
          case measure => simp [intOf]; omega
        · clear hcap
          go_wp2
          go_roundw
          case rel => exact ⟨k + 1, by omega, by go_num, HB.out, HK.out HL.out⟩
          case measure => simp [intOf]; omega
    · have hks : k = s.size := by omega
      subst hks
      have hlb := low_back (cap := cap) HR.out
      go_wp2_with (simp only [hlb])
      go_ret
      exact ⟨rfl, HB.out⟩
theorem rtk_lower (s : ByteArray) (w : World) (hs : s.size ≤ 9223372036854775807) :
    Calls Tryd.prog 59 #[.string s] w fun e w' => e = .returned (.string ⟨(Tp.lower s.data.toList).toArray⟩) ∧ Below w.heap.size w w' := by
  have hcv := fun (W : World) (s : ByteArray) => Lib.run_convert_string_bytes (P := Tryd.prog) W 9 41 5 s Tryd.underlying9 Tryd.underlying41 Tryd.underlying5
  go_enter Tryd.func59, Tryd.ntmps59
  go_wp2_with fail
  clear hcv
  have hB : w.heap.size ≤ w.heap.size := Nat.le_refl _
  have hst := Lib.hid (lowRow_start w s w.heap.size rfl)
  have hbw := Lib.hid (below_bytesWorld w.heap.size w 5 s (Nat.le_refl _))
  obtain ⟨cap, hcap⟩ : ∃ c, grownCap w s.size 0 5 = c := ⟨_, rfl⟩
  simp only [hcap]
  go_loopw [4] (fun i wr => ∃ k : Nat, k ≤ s.size ∧ i = .int .i64 k ∧ Below w.heap.size w wr ∧ LowRow wr w.heap.size s.size s.data.toList k) (fun i _ => s.size - (intOf i).toNat)
  case atStart => exact ⟨0, Nat.zero_le _, rfl, hbw.out, hst.out⟩
  case round =>
    clear hst hbw
    obtain ⟨k, hk, rfl, hb, hrow⟩ := hrel
    have HB := Lib.hid hb
    have HR := Lib.hid hrow
    clear hrow hb
    by_cases hlt : k < s.size
    · have hc := (HR.out k hlt).1
      have hf := (HR.out k hlt).2
      have hcur : lowF s.data.toList k k = ((s.data.toList.getD k 0).toNat : Int) := if_neg (Nat.lt_irrefl k)
      rw [hcur] at hc
      clear hcur
      have hr1 : (0 : Int) ≤ ((s.data.toList.getD k 0).toNat : Int) := by omega
      have hr2 : ((s.data.toList.getD k 0).toNat : Int) < 256 := by have := (s.data.toList.getD k 0).toNat_lt; omega
      have HS := Lib.hid (fun x => lowRow_set (x := x) HR.out hlt)
      have HK := Lib.hid (lowRow_keep HR.out)
      obtain ⟨c, hcc⟩ : ∃ c : Int, ((s.data.toList.getD k 0).toNat : Int) = c := ⟨_, rfl⟩
      rw [hcc] at hc hr1 hr2 HS HK
      clear hcc HR
      by_cases hcap : 65 ≤ c ∧ c ≤ 90
      · obtain ⟨h1, h2⟩ := hcap
        have HL := Lib.hid (show Tp.lowB c = c + 32 by unfold Tp.lowB; rw [if_pos ⟨h1, h2⟩])
        go_wp2
        go_roundw
        case rel => exact ⟨k + 1, by omega, by go_num, HB.out.setCell (Nat.le_refl _) _, HS.out _ HL.out⟩
        case measure => simp [intOf]; omega
      · have HL := Lib.hid (show Tp.lowB c = c by unfold Tp.lowB; rw [if_neg hcap])
        by_cases h1 : 65 ≤ c
        · have h2 : ¬ c ≤ 90 := fun h => hcap ⟨h1, h⟩
          clear hcap
          go_wp2
          go_roundw
          case rel => exact ⟨k + 1, by omega, by go_num, HB.out, HK.out HL.out⟩
          case measure => simp [intOf]; omega
        · clear hcap
          go_wp2
          go_roundw
          case rel => exact ⟨k + 1, by omega, by go_num, HB.out, HK.out HL.out⟩
          case measure => simp [intOf]; omega
    · have hks : k = s.size := by omega
      subst hks
      have hlb := low_back (cap := cap) HR.out
      go_wp2_with (simp only [hlb])
      go_ret
      exact ⟨rfl, HB.out⟩
end Go.Proofs.YtlefgkiembokeaaDoor
