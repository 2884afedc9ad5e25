/- One digit more, and a row of digits, as layer 1 (decimal) reads them, compute the plain functions of the texts Dp and Dq. Bases are ten or sixteen; at most 1000000 digits. -/
import Derived.Test.YtoidopdpnnogaaaDoorDr1
import Derived.WalkMore
namespace Go.Proofs.YtoidopdpnnogaaaDoor
set_option linter.unusedVariables false
set_option linter.unusedSimpArgs false
open Go.RowKit
set_option maxHeartbeats 400000
def Env (w : World) (b : Int) (rb kb vb : Nat) : Prop :=
  w.cell? ⟨rb, 1, none⟩ = some (.int .i64 b) ∧ w.cell? ⟨kb, 0, none⟩ = some (.string ⟨(Dp.known b).toArray⟩) ∧
  w.cell? ⟨vb, 0, none⟩ = some (.func (.func 179) #[] #[.pointer (some ⟨rb, 0, none⟩), .pointer (some ⟨kb, 0, none⟩)])
theorem Env.below {w w' : World} {b : Int} {rb kb vb : Nat} (h : Env w b rb kb vb) (hb : Below w.heap.size w w') : Env w' b rb kb vb :=
  ⟨cell_below hb h.1, cell_below hb h.2.1, cell_below hb h.2.2⟩
/-- one digit more -/
def stepN (b n c : Int) : Int := if Dp.mulE n b = 0 then Dp.addN (Dp.mulN n b) (Dp.digV c) else 0
def stepE (b n c : Int) : Int := if Dp.mulE n b = 0 then Dp.addE (Dp.mulN n b) (Dp.digV c) else Dp.mulE n b
theorem step_any (b : Int) (hb : b = 10 ∨ b = 16) (n c : Int) (rb kb vb : Nat) (w : World) (hn : Dp.U n) (h0 : 0 ≤ c) (h1 : c < 256) (hd : Dp.digV c < b) (hE : Env w b rb kb vb) :
    Calls Tryd.prog 184 #[.int .u64 n, .int .u8 c, .pointer (some ⟨rb, 0, none⟩), .pointer (some ⟨vb, 0, none⟩)] w fun e w' => e = .returned (.tuple #[.int .u64 (stepN b n c), .int .i64 (stepE b n c)]) ∧ w = w' := by
  have hbU : Dp.U b := by unfold Dp.U; omega
  have hb0 : 0 ≤ b := by omega
  have hb1 : b < 18446744073709551616 := by omega
  have K := Lib.hid (val_any b hb c rb kb w h0 h1 hE.1 hE.2.1)
  have hr := hE.1
  have hv := hE.2.2
  have M := Lib.hid (dec_mul n b w hn hbU)
  have hS1 := Lib.hid (show stepN b n c = if Dp.mulE n b = 0 then Dp.addN (Dp.mulN n b) (Dp.digV c) else 0 from rfl)
  have hS2 := Lib.hid (show stepE b n c = if Dp.mulE n b = 0 then Dp.addE (Dp.mulN n b) (Dp.digV c) else Dp.mulE n b from rfl)
  have HV := Lib.hid (show Dp.valV b c = Dp.digV c from if_pos hd)
  have HW := Lib.hid (show IntKind.u64.wrap (Dp.digV c) = Dp.digV c from by have := Dp.digV_lo c; rw [IntKind.wrap_u64]; omega)
  have A := Lib.hid (dec_add (Dp.mulN n b) (Dp.digV c) w (Dp.mulN_U hn hbU) (Dp.digit_U c))
  clear hE hd hb hbU hn
  go_enter Tryd.func184, Tryd.ntmps184
  go_wp2_with fail
  refine M.out.mono ?_
  rintro e w' ⟨rfl, rfl⟩
  obtain ⟨m, hm⟩ : ∃ m, Dp.mulE n b = m := ⟨_, rfl⟩
  rw [hm]
  have Hm := Lib.hid hm
  clear hm
  by_cases hm0 : m = 0
  · subst hm0
    go_wp2_with fail
    refine K.out.mono ?_
    rintro e w' ⟨rfl, rfl⟩
    rw [HV.out]
    go_wp2_with fail
    rw [HW.out]
    refine A.out.mono ?_
    rintro e w' ⟨rfl, rfl⟩
    go_wp2
    go_ret2
    exact ⟨ret_pair (by rw [hS1.out, Hm.out, if_pos rfl]) (by rw [hS2.out, Hm.out, if_pos rfl]), rfl⟩
  · have hm1 : (m != 0) = true := bne_iff_ne.2 hm0
    have Hm0 := Lib.hid hm0
    clear hm0
    go_wp2
    go_ret2
    exact ⟨ret_pair (by rw [hS1.out, Hm.out, if_neg Hm0.out]) (by rw [hS2.out, Hm.out, if_neg Hm0.out]), rfl⟩
theorem stepN_rd {b n : Int} {c : UInt8} {l : List UInt8} : stepE b n c.toNat = 0 → Dp.rd b (c :: l) n = Dp.rd b l (stepN b n c.toNat) := by
  unfold stepE stepN
  intro h
  by_cases h1 : Dp.mulE n b = 0
  · rw [if_pos h1] at h ⊢
    simp [Dp.rd, h1, h]
  · rw [if_neg h1] at h; exact absurd h h1
theorem stepE_rd {b n : Int} {c : UInt8} {l : List UInt8} : stepE b n c.toNat ≠ 0 → Dp.rd b (c :: l) n = (0, 111) ∧ stepE b n c.toNat = 111 := by
  unfold stepE
  intro h
  by_cases h1 : Dp.mulE n b = 0
  · rw [if_pos h1] at h ⊢
    refine ⟨by simp [Dp.rd, h1, h], ?_⟩
    unfold Dp.addE at h ⊢
    split at h
    · exact absurd rfl h
    · rw [if_neg (by assumption)]
  · rw [if_neg h1] at h ⊢
    refine ⟨by simp [Dp.rd, h1], ?_⟩
    unfold Dp.mulE at h1 ⊢
    split at h1
    · exact absurd rfl h1
    · rw [if_neg (by assumption)]
theorem stepN_U {b n c : Int} (hb : b = 10 ∨ b = 16) (hn : Dp.U n) : Dp.U (stepN b n c) := by
  unfold stepN
  split
  · exact Dp.addN_U (Dp.mulN_U hn (by unfold Dp.U; omega)) (Dp.digit_U c)
  · unfold Dp.U; omega
theorem folded_any (b : Int) (hb : b = 10 ∨ b = 16) (l : List UInt8) (B cap rb kb vb : Nat) (w : World) (hl : l.length ≤ 1000000) (hall : Dp.allD b l = true) (hE : Env w b rb kb vb) (hB : Bytes w B 0 l) :
    Calls Tryd.prog 183 #[.func (.func 184) #[] #[.pointer (some ⟨rb, 0, none⟩), .pointer (some ⟨vb, 0, none⟩)], .slice (some ⟨B, 0, none⟩) l.length cap] w fun e w' =>
      e = .returned (.tuple #[.int .u64 (Dp.rd b l 0).1, .int .i64 (Dp.rd b l 0).2]) ∧ w = w' := by
  have K := Lib.hid (fun (n c : Int) (hn : Dp.U n) (h0 : 0 ≤ c) (h1 : c < 256) (hd : Dp.digV c < b) => step_any b hb n c rb kb vb w hn h0 h1 hd hE)
  have HU := Lib.hid (fun (n c : Int) (hn : Dp.U n) => stepN_U (c := c) hb hn)
  have HA := Lib.hid hall
  have HB := Lib.hid hB
  clear hE hall hb hB
  go_enter Tryd.func183, Tryd.ntmps183
  go_wp2_with fail
  go_loop [4, 5, 7, 10] (fun n _ _ i => ∃ (k : Nat) (m : Int), k ≤ l.length ∧ i = .int .i64 k ∧ n = .int .u64 m ∧ Dp.U m ∧ Dp.rd b l 0 = Dp.rd b (l.drop k) m) (fun _ _ _ i => l.length - (intOf i).toNat)
  case atStart => exact ⟨0, 0, Nat.zero_le _, rfl, rfl, by unfold Dp.U; omega, rfl⟩
  case round =>
    obtain ⟨k, m, hk, rfl, rfl, hm, hrd⟩ := hrel
    have HR := Lib.hid hrd
    have HM := Lib.hid hm
    clear hrd hm
    by_cases hlt : k < l.length
    · have hc := HB.out k hlt
      rw [Nat.zero_add] at hc
      have hdr : l.drop k = l.getD k 0 :: l.drop (k + 1) := by rw [List.drop_eq_getElem_cons hlt]; simp [List.getD_eq_getElem?_getD, List.getElem?_eq_getElem hlt]
      have HD := Lib.hid hdr
      clear hdr
      have hx := (l.getD k 0).toNat_lt
      have hdig : Dp.digV ((l.getD k 0).toNat : Int) < b := by
        have := HA.out
        unfold Dp.allD at this
        rw [List.all_eq_true] at this
        have h2 := this (l.getD k 0) (by simp [List.getD_eq_getElem?_getD, List.getElem?_eq_getElem hlt])
        simpa using h2
      have HG := Lib.hid hdig
      clear hdig
      have S1 := Lib.hid (@stepN_rd b m (l.getD k 0) (l.drop (k + 1)))
      have S2 := Lib.hid (@stepE_rd b m (l.getD k 0) (l.drop (k + 1)))
      have S3 := Lib.hid (HU.out m ((l.getD k 0).toNat : Int) HM.out)
      generalize l.getD k 0 = c at *
      go_wp2_with fail
      refine (K.out m (c.toNat : Int) HM.out (by omega) (by omega) HG.out).mono ?_
      rintro e w' ⟨rfl, rfl⟩
      obtain ⟨sn, hN⟩ : ∃ sn, stepN b m (c.toNat : Int) = sn := ⟨_, rfl⟩
      obtain ⟨se, hEr⟩ : ∃ se, stepE b m (c.toNat : Int) = se := ⟨_, rfl⟩
      rw [hN, hEr]
      have HN := Lib.hid hN
      have HEr := Lib.hid hEr
      clear hN hEr
      by_cases hz : se = 0
      · subst hz
        go_wp2
        go_round
        case rel => exact ⟨k + 1, sn, by omega, by go_num, rfl, by rw [← HN.out]; exact S3.out, by rw [HR.out, HD.out, S1.out HEr.out, HN.out]⟩
        case measure => simp [intOf]; omega
      · have hz1 : (se != 0) = true := bne_iff_ne.2 hz
        have HZ := Lib.hid hz
        clear hz
        go_wp2
        go_ret2
        refine ⟨ret_pair ?_ ?_, rfl⟩
        · rw [HR.out, HD.out, (S2.out (by rw [HEr.out]; exact HZ.out)).1]
        · rw [HR.out, HD.out, (S2.out (by rw [HEr.out]; exact HZ.out)).1, ← HEr.out]; exact (S2.out (by rw [HEr.out]; exact HZ.out)).2
    · go_wp2
      go_ret2
      have h1 : l.drop k = [] := List.drop_eq_nil_of_le (by omega)
      refine ⟨ret_pair ?_ ?_, rfl⟩
      · rw [HR.out, h1]; rfl
      · rw [HR.out, h1]; rfl
theorem folded_at (b : Int) (hb : b = 10 ∨ b = 16) (l : List UInt8) (n B cap rb kb vb : Nat) (w : World) (hn : n = l.length) (hl : l.length ≤ 1000000) (hall : Dp.allD b l = true) (hE : Env w b rb kb vb) (hB : Bytes w B 0 l) :
    Calls Tryd.prog 183 #[.func (.func 184) #[] #[.pointer (some ⟨rb, 0, none⟩), .pointer (some ⟨vb, 0, none⟩)], .slice (some ⟨B, 0, none⟩) n cap] w fun e w' =>
      e = .returned (.tuple #[.int .u64 (Dp.rd b l 0).1, .int .i64 (Dp.rd b l 0).2]) ∧ w = w' := by
  subst hn
  exact folded_any b hb l B cap rb kb vb w hl hall hE hB
end Go.Proofs.YtoidopdpnnogaaaDoor
