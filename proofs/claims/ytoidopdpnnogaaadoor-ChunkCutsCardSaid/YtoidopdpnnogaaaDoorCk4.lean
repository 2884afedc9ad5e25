/- The reference's chunks; the program's sizes. -/
import Derived.Test.YtoidopdpnnogaaaDoorCk1
import Derived.Test.YtoidopdpnnogaaaDoorDu
import Derived.Test.YtoidopdpnnogaaaDoorDr6
import Derived.Deep.QuietTactic
import Derived.BigQuiet
namespace Go.Proofs.YtoidopdpnnogaaaDoor
set_option linter.unusedVariables false
set_option linter.unusedSimpArgs false
open Go.RowKit Go.Shelf
set_option maxHeartbeats 2000000
/-- a chunk -/
def enc (l : List UInt8) : List UInt8 := if l = [] then [] else Dp.digs 16 l.length ++ [13, 10] ++ l ++ [13, 10]
def szI (n : Int) : Int := if n ≤ 0 then 0 else (Dp.digs 16 n.toNat).length + 4 + n
theorem ck_size (n : Int) (w : World) (h : n ≤ 4611686018427387904) (h0 : -9223372036854775808 ≤ n) (ht : Tabs w) :
    Calls Tryd.prog 52 #[.int .i64 n] w fun e w' => e = .returned (.int .i64 (szI n)) ∧ Below w.heap.size w w' := by
  have HT := Lib.hid ht
  clear ht
  by_cases hn : n ≤ 0
  · have HS := Lib.hid (show szI n = 0 from if_pos hn)
    go_enter Tryd.func52, Tryd.ntmps52
    go_wp2
    go_ret
    exact ⟨ret_int HS.out.symm, Below.refl _ _⟩
  · obtain ⟨u, rfl⟩ : ∃ u : Nat, n = u := ⟨n.toNat, by omega⟩
    obtain ⟨z, hz⟩ : ∃ z, Dp.digs 16 u = z := ⟨_, rfl⟩
    have hzl := Dp.digs_length_le (b := 16) (by omega) 16 u (by omega) (by omega)
    have K := Lib.hid (dec_hex u w (by omega) HT.out)
    rw [hz] at hzl K
    obtain ⟨s, hs⟩ : ∃ s : ByteArray, (⟨z.toArray⟩ : ByteArray) = s := ⟨_, rfl⟩
    have hss : s.size = z.length := by rw [← hs]; rfl
    rw [hs] at K
    have HS : Hid (szI (u : Int) = (s.size : Int) + 4 + u) := Lib.hid (by unfold szI; rw [if_neg hn, Int.toNat_natCast, hz, hss])
    have hsl : s.size ≤ 16 := by omega
    clear hz hzl hs hss
    go_enter Tryd.func52, Tryd.ntmps52
    go_wp2_with fail
    refine K.out.mono ?_
    rintro e w1 ⟨rfl, hb1⟩
    go_wp2_with fail
    refine (ck_ends _).mono ?_
    rintro e w2 ⟨rfl, hb2⟩
    go_wp2
    go_ret
    exact ⟨ret_int HS.out.symm, hb1.trans (hb2.mono hb1.size)⟩
theorem rch_encode (v : Value) (l : List UInt8) (w : World) (h : BRow w v l) (hl : l.length ≤ 1000000) :
    Calls Tryd.prog 18 #[v] w fun e w' => e = .returned (.string ⟨(enc l).toArray⟩) ∧ Below w.heap.size w w' := by
  have HV := Lib.hid (fun k => conv_brow (w := w.drewN k) (h.below ⟨rfl, rfl, rfl, Nat.le_refl _, fun _ _ => rfl⟩))
  obtain ⟨ao, cap, rfl, _, _⟩ := h
  by_cases h0 : l = []
  · subst h0
    rw [show ([] : List UInt8).length = 0 from rfl]
    go_enter Tryd.func18, Tryd.ntmps18
    go_wp2
    go_ret
    exact ⟨rfl, Below.refl _ _⟩
  · obtain ⟨n, hn⟩ : ∃ n, l.length = n := ⟨_, rfl⟩
    have hn0 : 0 < n := by rw [← hn]; exact List.length_pos_iff.2 h0
    have hne : ((n : Int) == 0) = false := beq_eq_false_iff_ne.2 (by omega)
    rw [hn] at HV hl ⊢
    have K := Lib.hid (fun W => ref_hex n (by omega) W)
    have hzl := Dp.digs_length_le (b := 16) (by omega) 16 n (by omega) (by omega)
    obtain ⟨s, hs⟩ : ∃ s : ByteArray, (⟨(Dp.digs 16 n).toArray⟩ : ByteArray) = s := ⟨_, rfl⟩
    obtain ⟨b, hb⟩ : ∃ s : ByteArray, (⟨l.toArray⟩ : ByteArray) = s := ⟨_, rfl⟩
    have hss : s.size ≤ 16 := by rw [← hs]; exact hzl
    have hbs : b.size ≤ 1000000 := by rw [← hb]; show l.length ≤ _; omega
    rw [hs] at K
    rw [hb] at HV
    have hcv := HV.out
    have HE : Hid (s ++ ⟨#[13, 10]⟩ ++ b ++ ⟨#[13, 10]⟩ = ⟨(enc l).toArray⟩) := Lib.hid (by
      unfold enc
      rw [if_neg h0, ← hs, ← hb, hn]
      apply ByteArray.ext
      simp)
    clear hn h0 hs hb hzl HV
    go_enter Tryd.func18, Tryd.ntmps18
    go_wp2_with fail
    go_quiet ((go_at_call 59; exact Calls.quiet_of_same ((K.out _).mono fun _ _ h => ⟨h.1, h.2.symm⟩)))
    go_wp2_with fail
    go_ret
    exact ⟨ret_str HE.out, below_drewN (Below.refl _ _) _⟩
end Go.Proofs.YtoidopdpnnogaaaDoor
