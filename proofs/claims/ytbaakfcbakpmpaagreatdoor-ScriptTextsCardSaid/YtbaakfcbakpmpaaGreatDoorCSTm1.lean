/- Texts of this claim, one behind the other: Sx, Sy, G5, G6, G7, Gt, G8, G9, Ua, Ub, LST. -/
import Derived.Test.YtbaakfcbakpmpaaGreatDoorSwm6
import Derived.BigRegion
import Derived.Test.YtbaakfcbakpmpaaGreatDoorSwm2
import Derived.Lib.DecodeN
import Derived.Laws.RangeString
import Derived.Laws.Runes
import Derived.Deep.QuietTactic
import Derived.BigQuiet
import Derived.Scope
import Derived.Test.YtbaakfcbakpmpaaGreatDoorSwm1
import Derived.Deep.Cut
import Derived.Deep.DeepCutAuto
/- script: the reference's has, Shape and OutShape. No conditions but those that each law states. -/
namespace Go.Proofs.YtbaakfcbakpmpaaGreatDoor
set_option linter.unusedVariables false
set_option linter.unusedSimpArgs false
open Go.RowKit Go.Shelf
set_option maxHeartbeats 8000000
set_option maxRecDepth 100000
def hasK (L : List UInt8) (k : Nat) (c : UInt8) : Bool := (L.take k).contains c
theorem rf_has (s : ByteArray) (c : UInt8) (w : World) (hs : s.size ≤ 100000) :
    Calls Tryz.prog 69 #[.string s, .int .u8 (c.toNat : Int)] w fun e w' => e = .returned (.bool (s.data.toList.contains c)) ∧ w' = w := by
  obtain ⟨L, hL⟩ : ∃ z, s.data.toList = z := ⟨_, rfl⟩
  obtain ⟨N, hN⟩ : ∃ z, s.size = z := ⟨_, rfl⟩
  have hLN : L.length = N := by rw [← hL, ← hN]; simp
  have HLN := Lib.hid hLN
  have HL := Lib.hid hL
  have HN := Lib.hid hN
  rw [hL]
  obtain ⟨b, hb⟩ : ∃ z, L.contains c = z := ⟨_, rfl⟩
  rw [hb]
  have HBB := Lib.hid hb
  clear hL hLN hb
  go_enter Tryz.func69, Tryz.ntmps69
  go_wp2_with fail
  go_loopw [5] (fun i wr => ∃ k : Nat, k ≤ N ∧ i = .int .i64 k ∧ hasK L k c = false ∧ wr = w) (fun i _ => N - (intOf i).toNat)
  case atStart => exact ⟨0, Nat.zero_le _, rfl, by unfold hasK; rw [List.take_zero]; rfl, rfl⟩
  case round =>
    obtain ⟨k, hk, rfl, hno, hw⟩ := hrel
    subst hw
    have HNO := Lib.hid hno
    clear hno
    by_cases hlt : k < N
    · have hI : (k : Int) < (N : Int) := by omega
      have hI2 : (k : Int) < (s.size : Int) := by omega
      have hkL : k < L.length := by rw [HLN.out]; exact hlt
      obtain ⟨d, hd⟩ : ∃ z, L[k] = z := ⟨_, rfl⟩
      have hix : ∀ W, (Instr.index 9 (.string s) (.int .i64 (k : Int))).run Tryz.prog W = .ok (.int .u8 (d.toNat : Int)) W := fun W => by
        have h1 := dec_index_at0 s W k (by omega)
        have h2 : s[k]'(by omega) = d := by
          have h3 : s.data.toList[k]? = some d := by rw [HL.out, List.getElem?_eq_getElem hkL, hd]
          rw [Array.getElem?_toList] at h3
          obtain ⟨h4, h5⟩ := Array.getElem?_eq_some_iff.1 h3
          exact h5
        rw [h2] at h1
        exact h1
      by_cases hc : d = c
      · have q : ((d.toNat : Int) == (c.toNat : Int)) = true := by rw [hc]; exact beq_self_eq_true _
        have HE := Lib.hid (show b = true by
          rw [← HBB.out, List.contains_iff_mem]
          rw [← hc, ← hd]
          exact List.getElem_mem hkL)
        clear hd hc hkL
        go_wp2_with fail
        go_ret
        rw [HE.out]
        exact ⟨rfl, rfl⟩
      · have q : ((d.toNat : Int) == (c.toNat : Int)) = false := by
          rw [beq_eq_false_iff_ne]
          intro e
          exact hc (UInt8.toNat_inj.1 (by omega))
        have HE := Lib.hid (show hasK L (k + 1) c = false by
          have h := HNO.out
          unfold hasK at h ⊢
          rw [List.take_succ_eq_append_getElem hkL, List.contains_append, h, hd]
          simp
          exact fun e => hc e.symm)
        clear hd hc hkL
        go_wp2_with fail
        go_roundw
        case rel => exact ⟨k + 1, hlt, by go_num, HE.out, trivial⟩
        case measure => simp [intOf]; omega
    · have hI : ¬ (k : Int) < (N : Int) := by omega
      have HE := Lib.hid (show b = false by
        have h := HNO.out
        unfold hasK at h
        rw [← HBB.out]
        rwa [List.take_of_length_le (by rw [HLN.out]; omega)] at h)
      go_wp2_with fail
      go_ret
      rw [HE.out]
      exact ⟨rfl, rfl⟩
end Go.Proofs.YtbaakfcbakpmpaaGreatDoor

/- script: the reference's Shape and OutShape. No conditions but those that each law states. Printed by genSy.py. -/
namespace Go.Proofs.YtbaakfcbakpmpaaGreatDoor
set_option linter.unusedVariables false
set_option linter.unusedSimpArgs false
open Go.RowKit Go.Shelf
set_option maxHeartbeats 8000000
set_option maxRecDepth 100000
/-- a kind's first word, and what stands behind it, as texts; empty: there is none -/
def shN (T : Sc.Shapes) (k : Int) : List UInt8 := match Sc.shape T k with
  | some (nm, _) => nm
  | none => []
def shP (T : Sc.Shapes) (k : Int) : List UInt8 := match Sc.shape T k with
  | some (_, ps) => ps
  | none => []
theorem sh_none {T : Sc.Shapes} {k : Int} (h : ∀ e ∈ T, e.1 ≠ k) : shN T k = [] ∧ shP T k = [] := by
  have h1 : Sc.shape T k = none := by
    unfold Sc.shape
    rw [List.find?_eq_none.2 (fun e he => by simpa using h e he)]
    rfl
  unfold shN shP
  rw [h1]
  exact ⟨rfl, rfl⟩
theorem rf_Shape (k : Int) (w : World) :
    Calls Tryz.prog 43 #[.int .i64 k] w fun e w' => e = .returned (.tuple #[.string ⟨(shN Sc.stepT k).toArray⟩, .string ⟨(shP Sc.stepT k).toArray⟩]) ∧ Below w.heap.size w w' := by
  obtain ⟨S, hS⟩ : ∃ z, w.heap.size = z := ⟨_, rfl⟩
  obtain ⟨w1, hw1⟩ : ∃ z, w.alloc (.cells #[.string ⟨#[116, 105, 99, 107]⟩, .string ⟨#[111, 112, 101, 110]⟩, .string ⟨#[98, 121, 116, 101, 115]⟩, .string ⟨#[103, 114, 97, 110, 116]⟩, .string ⟨#[103, 111, 110, 101]⟩, .string ⟨#[109, 97, 100, 101]⟩, .string ⟨#[108, 111, 115, 116]⟩, .string ⟨#[99, 111, 109, 101]⟩, .string ⟨#[100, 114, 97, 105, 110]⟩] 9) = z := ⟨_, rfl⟩
  obtain ⟨w2, hw2⟩ : ∃ z, w1.alloc (.cells #[.string ⟨#[78, 68]⟩, .string ⟨#[]⟩, .string ⟨#[67, 66]⟩, .string ⟨#[67, 78]⟩, .string ⟨#[67]⟩, .string ⟨#[84]⟩, .string ⟨#[84, 68]⟩, .string ⟨#[84, 68, 66]⟩, .string ⟨#[]⟩] 9) = z := ⟨_, rfl⟩
  have s1 : w1.heap.size = S + 1 := by rw [← hw1, ← hS]; simp
  have b1 : Below w.heap.size w w1 := by rw [← hw1]; exact (Below.refl _ _).alloc (Nat.le_refl _) _
  have b2 : Below w1.heap.size w1 w2 := by rw [← hw2]; exact (Below.refl _ _).alloc (Nat.le_refl _) _
  have r1 : w2.heap[S]? = some (.cells #[.string ⟨#[116, 105, 99, 107]⟩, .string ⟨#[111, 112, 101, 110]⟩, .string ⟨#[98, 121, 116, 101, 115]⟩, .string ⟨#[103, 114, 97, 110, 116]⟩, .string ⟨#[103, 111, 110, 101]⟩, .string ⟨#[109, 97, 100, 101]⟩, .string ⟨#[108, 111, 115, 116]⟩, .string ⟨#[99, 111, 109, 101]⟩, .string ⟨#[100, 114, 97, 105, 110]⟩] 9 (0, 0)) := by
    have h : w1.heap[S]? = some (.cells #[.string ⟨#[116, 105, 99, 107]⟩, .string ⟨#[111, 112, 101, 110]⟩, .string ⟨#[98, 121, 116, 101, 115]⟩, .string ⟨#[103, 114, 97, 110, 116]⟩, .string ⟨#[103, 111, 110, 101]⟩, .string ⟨#[109, 97, 100, 101]⟩, .string ⟨#[108, 111, 115, 116]⟩, .string ⟨#[99, 111, 109, 101]⟩, .string ⟨#[100, 114, 97, 105, 110]⟩] 9 (0, 0)) := by rw [← hw1, ← hS]; exact World.alloc_heap_new _ _
    exact (b2.block _ (by omega)).trans h
  have r2 : w2.heap[S + 1]? = some (.cells #[.string ⟨#[78, 68]⟩, .string ⟨#[]⟩, .string ⟨#[67, 66]⟩, .string ⟨#[67, 78]⟩, .string ⟨#[67]⟩, .string ⟨#[84]⟩, .string ⟨#[84, 68]⟩, .string ⟨#[84, 68, 66]⟩, .string ⟨#[]⟩] 9 (0, 0)) := by rw [← hw2, ← s1]; exact World.alloc_heap_new _ _
  have HB := Lib.hid (b1.trans (b2.mono b1.size))
  have HS := Lib.hid hS
  have W1 := Lib.hid hw1
  have W2 := Lib.hid hw2
  clear s1 b1 b2 hS hw1 hw2
  by_cases hlo : k < 1
  · have HN := Lib.hid (sh_none (T := Sc.stepT) (k := k) (fun e he => by simp only [Sc.stepT, List.mem_cons, List.not_mem_nil, or_false] at he; rcases he with rfl | rfl | rfl | rfl | rfl | rfl | rfl | rfl | rfl <;> simp <;> omega))
    clear r1 r2
    go_enter Tryz.func43, Tryz.ntmps43
    go_wp2_with fail
    simp [bodyPost, results, Tryz.results43, go_sem]
    rw [HN.out.1, HN.out.2]
    exact ⟨⟨rfl, rfl⟩, Below.refl _ _⟩
  by_cases hhi : 9 < k
  · have HN := Lib.hid (sh_none (T := Sc.stepT) (k := k) (fun e he => by simp only [Sc.stepT, List.mem_cons, List.not_mem_nil, or_false] at he; rcases he with rfl | rfl | rfl | rfl | rfl | rfl | rfl | rfl | rfl <;> simp <;> omega))
    clear r1 r2
    go_enter Tryz.func43, Tryz.ntmps43
    go_wp2_with fail
    simp [bodyPost, results, Tryz.results43, go_sem]
    rw [HN.out.1, HN.out.2]
    exact ⟨⟨rfl, rfl⟩, Below.refl _ _⟩
  have hk : k = 1 ∨ k = 2 ∨ k = 3 ∨ k = 4 ∨ k = 5 ∨ k = 6 ∨ k = 7 ∨ k = 8 ∨ k = 9 := by omega
  clear hlo hhi
  rcases hk with rfl | rfl | rfl | rfl | rfl | rfl | rfl | rfl | rfl
  · have c1 : w2.cell? ⟨S, 0, none⟩ = some (.string ⟨#[116, 105, 99, 107]⟩) := by simp [World.cell?, r1]
    have c2 : w2.cell? ⟨S + 1, 0, none⟩ = some (.string ⟨#[78, 68]⟩) := by simp [World.cell?, r2]
    clear r1 r2
    go_enter Tryz.func43, Tryz.ntmps43
    go_upto_region 5 with (fail)
    rw [HS.out, W1.out, W2.out]
    go_region
    go_wp2_with fail
    simp [bodyPost, results, Tryz.results43, go_sem]
    exact ⟨⟨rfl, rfl⟩, HB.out.drew⟩
  · have c1 : w2.cell? ⟨S, 1, none⟩ = some (.string ⟨#[111, 112, 101, 110]⟩) := by simp [World.cell?, r1]
    have c2 : w2.cell? ⟨S + 1, 1, none⟩ = some (.string ⟨#[]⟩) := by simp [World.cell?, r2]
    clear r1 r2
    go_enter Tryz.func43, Tryz.ntmps43
    go_upto_region 5 with (fail)
    rw [HS.out, W1.out, W2.out]
    go_region
    go_wp2_with fail
    simp [bodyPost, results, Tryz.results43, go_sem]
    exact ⟨⟨rfl, rfl⟩, HB.out.drew⟩
  · have c1 : w2.cell? ⟨S, 2, none⟩ = some (.string ⟨#[98, 121, 116, 101, 115]⟩) := by simp [World.cell?, r1]
    have c2 : w2.cell? ⟨S + 1, 2, none⟩ = some (.string ⟨#[67, 66]⟩) := by simp [World.cell?, r2]
    clear r1 r2
    go_enter Tryz.func43, Tryz.ntmps43
    go_upto_region 5 with (fail)
    rw [HS.out, W1.out, W2.out]
    go_region
    go_wp2_with fail
    simp [bodyPost, results, Tryz.results43, go_sem]
    exact ⟨⟨rfl, rfl⟩, HB.out.drew⟩
  · have c1 : w2.cell? ⟨S, 3, none⟩ = some (.string ⟨#[103, 114, 97, 110, 116]⟩) := by simp [World.cell?, r1]
    have c2 : w2.cell? ⟨S + 1, 3, none⟩ = some (.string ⟨#[67, 78]⟩) := by simp [World.cell?, r2]
    clear r1 r2
    go_enter Tryz.func43, Tryz.ntmps43
    go_upto_region 5 with (fail)
    rw [HS.out, W1.out, W2.out]
    go_region
    go_wp2_with fail
    simp [bodyPost, results, Tryz.results43, go_sem]
    exact ⟨⟨rfl, rfl⟩, HB.out.drew⟩
  · have c1 : w2.cell? ⟨S, 4, none⟩ = some (.string ⟨#[103, 111, 110, 101]⟩) := by simp [World.cell?, r1]
    have c2 : w2.cell? ⟨S + 1, 4, none⟩ = some (.string ⟨#[67]⟩) := by simp [World.cell?, r2]
    clear r1 r2
    go_enter Tryz.func43, Tryz.ntmps43
    go_upto_region 5 with (fail)
    rw [HS.out, W1.out, W2.out]
    go_region
    go_wp2_with fail
    simp [bodyPost, results, Tryz.results43, go_sem]
    exact ⟨⟨rfl, rfl⟩, HB.out.drew⟩
  · have c1 : w2.cell? ⟨S, 5, none⟩ = some (.string ⟨#[109, 97, 100, 101]⟩) := by simp [World.cell?, r1]
    have c2 : w2.cell? ⟨S + 1, 5, none⟩ = some (.string ⟨#[84]⟩) := by simp [World.cell?, r2]
    clear r1 r2
    go_enter Tryz.func43, Tryz.ntmps43
    go_upto_region 5 with (fail)
    rw [HS.out, W1.out, W2.out]
    go_region
    go_wp2_with fail
    simp [bodyPost, results, Tryz.results43, go_sem]
    exact ⟨⟨rfl, rfl⟩, HB.out.drew⟩
  · have c1 : w2.cell? ⟨S, 6, none⟩ = some (.string ⟨#[108, 111, 115, 116]⟩) := by simp [World.cell?, r1]
    have c2 : w2.cell? ⟨S + 1, 6, none⟩ = some (.string ⟨#[84, 68]⟩) := by simp [World.cell?, r2]
    clear r1 r2
    go_enter Tryz.func43, Tryz.ntmps43
    go_upto_region 5 with (fail)
    rw [HS.out, W1.out, W2.out]
    go_region
    go_wp2_with fail
    simp [bodyPost, results, Tryz.results43, go_sem]
    exact ⟨⟨rfl, rfl⟩, HB.out.drew⟩
  · have c1 : w2.cell? ⟨S, 7, none⟩ = some (.string ⟨#[99, 111, 109, 101]⟩) := by simp [World.cell?, r1]
    have c2 : w2.cell? ⟨S + 1, 7, none⟩ = some (.string ⟨#[84, 68, 66]⟩) := by simp [World.cell?, r2]
    clear r1 r2
    go_enter Tryz.func43, Tryz.ntmps43
    go_upto_region 5 with (fail)
    rw [HS.out, W1.out, W2.out]
    go_region
    go_wp2_with fail
    simp [bodyPost, results, Tryz.results43, go_sem]
    exact ⟨⟨rfl, rfl⟩, HB.out.drew⟩
  · have c1 : w2.cell? ⟨S, 8, none⟩ = some (.string ⟨#[100, 114, 97, 105, 110]⟩) := by simp [World.cell?, r1]
    have c2 : w2.cell? ⟨S + 1, 8, none⟩ = some (.string ⟨#[]⟩) := by simp [World.cell?, r2]
    clear r1 r2
    go_enter Tryz.func43, Tryz.ntmps43
    go_upto_region 5 with (fail)
    rw [HS.out, W1.out, W2.out]
    go_region
    go_wp2_with fail
    simp [bodyPost, results, Tryz.results43, go_sem]
    exact ⟨⟨rfl, rfl⟩, HB.out.drew⟩
theorem rf_OutShape (k : Int) (w : World) :
    Calls Tryz.prog 45 #[.int .i64 k] w fun e w' => e = .returned (.tuple #[.string ⟨(shN Sc.outT k).toArray⟩, .string ⟨(shP Sc.outT k).toArray⟩]) ∧ Below w.heap.size w w' := by
  obtain ⟨S, hS⟩ : ∃ z, w.heap.size = z := ⟨_, rfl⟩
  obtain ⟨w1, hw1⟩ : ∃ z, w.alloc (.cells #[.string ⟨#[111, 112, 101, 110, 101, 100]⟩, .string ⟨#[98, 121, 116, 101, 115]⟩, .string ⟨#[99, 108, 111, 115, 101, 100]⟩, .string ⟨#[99, 111, 110, 110, 101, 99, 116]⟩, .string ⟨#[97, 115, 107]⟩, .string ⟨#[100, 114, 111, 112]⟩] 9) = z := ⟨_, rfl⟩
  obtain ⟨w2, hw2⟩ : ∃ z, w1.alloc (.cells #[.string ⟨#[67]⟩, .string ⟨#[67, 66]⟩, .string ⟨#[67]⟩, .string ⟨#[84]⟩, .string ⟨#[84, 66]⟩, .string ⟨#[84]⟩] 9) = z := ⟨_, rfl⟩
  have s1 : w1.heap.size = S + 1 := by rw [← hw1, ← hS]; simp
  have b1 : Below w.heap.size w w1 := by rw [← hw1]; exact (Below.refl _ _).alloc (Nat.le_refl _) _
  have b2 : Below w1.heap.size w1 w2 := by rw [← hw2]; exact (Below.refl _ _).alloc (Nat.le_refl _) _
  have r1 : w2.heap[S]? = some (.cells #[.string ⟨#[111, 112, 101, 110, 101, 100]⟩, .string ⟨#[98, 121, 116, 101, 115]⟩, .string ⟨#[99, 108, 111, 115, 101, 100]⟩, .string ⟨#[99, 111, 110, 110, 101, 99, 116]⟩, .string ⟨#[97, 115, 107]⟩, .string ⟨#[100, 114, 111, 112]⟩] 9 (0, 0)) := by
    have h : w1.heap[S]? = some (.cells #[.string ⟨#[111, 112, 101, 110, 101, 100]⟩, .string ⟨#[98, 121, 116, 101, 115]⟩, .string ⟨#[99, 108, 111, 115, 101, 100]⟩, .string ⟨#[99, 111, 110, 110, 101, 99, 116]⟩, .string ⟨#[97, 115, 107]⟩, .string ⟨#[100, 114, 111, 112]⟩] 9 (0, 0)) := by rw [← hw1, ← hS]; exact World.alloc_heap_new _ _
    exact (b2.block _ (by omega)).trans h
  have r2 : w2.heap[S + 1]? = some (.cells #[.string ⟨#[67]⟩, .string ⟨#[67, 66]⟩, .string ⟨#[67]⟩, .string ⟨#[84]⟩, .string ⟨#[84, 66]⟩, .string ⟨#[84]⟩] 9 (0, 0)) := by rw [← hw2, ← s1]; exact World.alloc_heap_new _ _
  have HB := Lib.hid (b1.trans (b2.mono b1.size))
  have HS := Lib.hid hS
  have W1 := Lib.hid hw1
  have W2 := Lib.hid hw2
  clear s1 b1 b2 hS hw1 hw2
  by_cases hlo : k < 1
  · have HN := Lib.hid (sh_none (T := Sc.outT) (k := k) (fun e he => by simp only [Sc.outT, List.mem_cons, List.not_mem_nil, or_false] at he; rcases he with rfl | rfl | rfl | rfl | rfl | rfl <;> simp <;> omega))
    clear r1 r2
    go_enter Tryz.func45, Tryz.ntmps45
    go_wp2_with fail
    simp [bodyPost, results, Tryz.results45, go_sem]
    rw [HN.out.1, HN.out.2]
    exact ⟨⟨rfl, rfl⟩, Below.refl _ _⟩
  by_cases hhi : 6 < k
  · have HN := Lib.hid (sh_none (T := Sc.outT) (k := k) (fun e he => by simp only [Sc.outT, List.mem_cons, List.not_mem_nil, or_false] at he; rcases he with rfl | rfl | rfl | rfl | rfl | rfl <;> simp <;> omega))
    clear r1 r2
    go_enter Tryz.func45, Tryz.ntmps45
    go_wp2_with fail
    simp [bodyPost, results, Tryz.results45, go_sem]
    rw [HN.out.1, HN.out.2]
    exact ⟨⟨rfl, rfl⟩, Below.refl _ _⟩
  have hk : k = 1 ∨ k = 2 ∨ k = 3 ∨ k = 4 ∨ k = 5 ∨ k = 6 := by omega
  clear hlo hhi
  rcases hk with rfl | rfl | rfl | rfl | rfl | rfl
  · have c1 : w2.cell? ⟨S, 0, none⟩ = some (.string ⟨#[111, 112, 101, 110, 101, 100]⟩) := by simp [World.cell?, r1]
    have c2 : w2.cell? ⟨S + 1, 0, none⟩ = some (.string ⟨#[67]⟩) := by simp [World.cell?, r2]
    clear r1 r2
    go_enter Tryz.func45, Tryz.ntmps45
    go_upto_region 5 with (fail)
    rw [HS.out, W1.out, W2.out]
    go_region
    go_wp2_with fail
    simp [bodyPost, results, Tryz.results45, go_sem]
    exact ⟨⟨rfl, rfl⟩, HB.out.drew⟩
  · have c1 : w2.cell? ⟨S, 1, none⟩ = some (.string ⟨#[98, 121, 116, 101, 115]⟩) := by simp [World.cell?, r1]
    have c2 : w2.cell? ⟨S + 1, 1, none⟩ = some (.string ⟨#[67, 66]⟩) := by simp [World.cell?, r2]
    clear r1 r2
    go_enter Tryz.func45, Tryz.ntmps45
    go_upto_region 5 with (fail)
    rw [HS.out, W1.out, W2.out]
    go_region
    go_wp2_with fail
    simp [bodyPost, results, Tryz.results45, go_sem]
    exact ⟨⟨rfl, rfl⟩, HB.out.drew⟩
  · have c1 : w2.cell? ⟨S, 2, none⟩ = some (.string ⟨#[99, 108, 111, 115, 101, 100]⟩) := by simp [World.cell?, r1]
    have c2 : w2.cell? ⟨S + 1, 2, none⟩ = some (.string ⟨#[67]⟩) := by simp [World.cell?, r2]
    clear r1 r2
    go_enter Tryz.func45, Tryz.ntmps45
    go_upto_region 5 with (fail)
    rw [HS.out, W1.out, W2.out]
    go_region
    go_wp2_with fail
    simp [bodyPost, results, Tryz.results45, go_sem]
    exact ⟨⟨rfl, rfl⟩, HB.out.drew⟩
  · have c1 : w2.cell? ⟨S, 3, none⟩ = some (.string ⟨#[99, 111, 110, 110, 101, 99, 116]⟩) := by simp [World.cell?, r1]
    have c2 : w2.cell? ⟨S + 1, 3, none⟩ = some (.string ⟨#[84]⟩) := by simp [World.cell?, r2]
    clear r1 r2
    go_enter Tryz.func45, Tryz.ntmps45
    go_upto_region 5 with (fail)
    rw [HS.out, W1.out, W2.out]
    go_region
    go_wp2_with fail
    simp [bodyPost, results, Tryz.results45, go_sem]
    exact ⟨⟨rfl, rfl⟩, HB.out.drew⟩
  · have c1 : w2.cell? ⟨S, 4, none⟩ = some (.string ⟨#[97, 115, 107]⟩) := by simp [World.cell?, r1]
    have c2 : w2.cell? ⟨S + 1, 4, none⟩ = some (.string ⟨#[84, 66]⟩) := by simp [World.cell?, r2]
    clear r1 r2
    go_enter Tryz.func45, Tryz.ntmps45
    go_upto_region 5 with (fail)
    rw [HS.out, W1.out, W2.out]
    go_region
    go_wp2_with fail
    simp [bodyPost, results, Tryz.results45, go_sem]
    exact ⟨⟨rfl, rfl⟩, HB.out.drew⟩
  · have c1 : w2.cell? ⟨S, 5, none⟩ = some (.string ⟨#[100, 114, 111, 112]⟩) := by simp [World.cell?, r1]
    have c2 : w2.cell? ⟨S + 1, 5, none⟩ = some (.string ⟨#[84]⟩) := by simp [World.cell?, r2]
    clear r1 r2
    go_enter Tryz.func45, Tryz.ntmps45
    go_upto_region 5 with (fail)
    rw [HS.out, W1.out, W2.out]
    go_region
    go_wp2_with fail
    simp [bodyPost, results, Tryz.results45, go_sem]
    exact ⟨⟨rfl, rfl⟩, HB.out.drew⟩
end Go.Proofs.YtbaakfcbakpmpaaGreatDoor

/- Runes: what a byte above 127 decodes to, iterators over strings, strings.IndexRune of "/\x00". -/
namespace Go.Proofs.YtbaakfcbakpmpaaGreatDoor
set_option linter.unusedVariables false
set_option linter.unusedSimpArgs false
open Go.RowKit Go.Shelf
set_option maxHeartbeats 2000000
set_option maxRecDepth 100000
theorem get_at (s : ByteArray) (i : Nat) (h : i < s.size) : s.get! i = s[i]'h := by
  simp [ByteArray.get!, getElem!_pos, h]
  rfl
theorem decodeN_hi (n b0 b1 b2 b3 : Nat) (hn : 1 ≤ n) (h0 : 128 ≤ b0) (h0' : b0 < 256) (h1 : b1 < 256) (h2 : b2 < 256) (h3 : b3 < 256) :
    128 ≤ (Lib.decodeN n b0 b1 b2 b3).1 ∧ (Lib.decodeN n b0 b1 b2 b3).1 ≤ 1114111 ∧ 1 ≤ (Lib.decodeN n b0 b1 b2 b3).2 ∧ (Lib.decodeN n b0 b1 b2 b3).2 ≤ n ∧ (Lib.decodeN n b0 b1 b2 b3).2 ≤ 4 ∧
      (2 ≤ (Lib.decodeN n b0 b1 b2 b3).2 → 128 ≤ b1) ∧ (3 ≤ (Lib.decodeN n b0 b1 b2 b3).2 → 128 ≤ b2) ∧ (4 ≤ (Lib.decodeN n b0 b1 b2 b3).2 → 128 ≤ b3) := by
  unfold Lib.decodeN
  repeat' split
  all_goals (simp only; refine ⟨?_, ?_, ?_, ?_, ?_, ?_, ?_, ?_⟩ <;> first | omega | (intro; omega))
theorem decode_hi (s : ByteArray) (i : Nat) (h : i < s.size) (hb : 128 ≤ (s[i]'h).toNat) :
    ∃ r k : Nat, Utf8.decode s i = (r, k) ∧ 128 ≤ r ∧ r ≤ 1114111 ∧ 1 ≤ k ∧ i + k ≤ s.size ∧ ∀ j, i ≤ j → j < i + k → ∀ hj : j < s.size, 128 ≤ (s[j]'hj).toNat := by
  have g0 := get_at s i h
  have hd := decodeN_hi (s.size - i) (s.get! i).toNat (s.get! (i + 1)).toNat (s.get! (i + 2)).toNat (s.get! (i + 3)).toNat (by omega) (by rw [g0]; exact hb) (UInt8.toNat_lt _) (UInt8.toNat_lt _) (UInt8.toNat_lt _) (UInt8.toNat_lt _)
  rw [← Lib.decode_at] at hd
  refine ⟨(Utf8.decode s i).1, (Utf8.decode s i).2, rfl, hd.1, hd.2.1, hd.2.2.1, by omega, ?_⟩
  intro j hj hk hs
  obtain ⟨_, _, _, h4, h5, hb1, hb2, hb3⟩ := hd
  rcases (show j = i ∨ j = i + 1 ∨ j = i + 2 ∨ j = i + 3 by omega) with e | e | e | e <;> subst e
  · exact hb
  · have := hb1 (by omega); rwa [get_at _ _ hs] at this
  · have := hb2 (by omega); rwa [get_at _ _ hs] at this
  · have := hb3 (by omega); rwa [get_at _ _ hs] at this
theorem encode_hi (r : Int) (h : 128 ≤ r) : 2 ≤ (Utf8.encode r).size ∧ (Utf8.encode r).size ≤ 4 ∧ 128 ≤ ((Utf8.encode r).get! 1).toNat := by
  unfold Utf8.encode
  have hc : 128 ≤ (if Utf8.valid r then r.toNat else Utf8.runeError) := by
    split
    · omega
    · decide
  generalize (if Utf8.valid r then r.toNat else Utf8.runeError) = c at hc
  simp only
  repeat' split
  all_goals first
    | (exfalso; omega)
    | (refine ⟨by simp [ByteArray.size], by simp [ByteArray.size], ?_⟩; simp only [ByteArray.get!]; simp; omega)
/-- an iterator over a string, set -/
def setIter (w : World) (b : Nat) (s : ByteArray) (p : Nat) : World := { w with heap := w.heap.setIfInBounds b (.stringIter s p) }
theorem setIter_at {w : World} {b : Nat} {s t : ByteArray} {p q : Nat} (h : w.heap[b]? = some (.stringIter t q)) : (setIter w b s p).heap[b]? = some (.stringIter s p) := by
  have hb : b < w.heap.size := by
    rcases Nat.lt_or_ge b w.heap.size with h' | h'
    · exact h'
    · rw [Array.getElem?_eq_none h'] at h; simp at h
  simp [setIter, hb]
theorem setIter_below (w : World) (b B : Nat) (s : ByteArray) (p : Nat) (hB : B ≤ b) : Below B w (setIter w b s p) :=
  ⟨rfl, rfl, rfl, by simp [setIter], fun k hk => by simp only [setIter]; rw [Array.getElem?_setIfInBounds_ne]; omega⟩
theorem next_at (w : World) (b : Nat) (s : ByteArray) (pos : Nat) (ty : TypeId) (hb : w.heap[b]? = some (.stringIter s pos)) (h : pos < s.size) :
    (Instr.next (.pointer (some ⟨b, 0, none⟩)) true ty).run Tryz.prog w = .ok (.tuple #[.bool true, .int .i64 pos, .int .i32 (Utf8.decode s pos).1]) (setIter w b s (pos + (Utf8.decode s pos).2)) := by
  simp only [Instr.next, getObj, setObj, Sem.run_bind, Sem.run, hb, Result.andThen, h, if_true]
  simp [goInt, Sem.run, hb, setIter]
theorem next_over (w : World) (b : Nat) (s : ByteArray) (pos : Nat) (ty : TypeId) (hb : w.heap[b]? = some (.stringIter s pos)) (h : ¬ pos < s.size) :
    (Instr.next (.pointer (some ⟨b, 0, none⟩)) true ty).run Tryz.prog w = .ok (.tuple #[.bool false]) w := by
  simp [Instr.next, getObj, Sem.run, hb, h]
def iterPos (w : World) (b : Nat) : Nat := match w.heap[b]? with
  | some (.stringIter _ p) => p
  | _ => 0
theorem iterPos_is {w : World} {b : Nat} {s : ByteArray} {p : Nat} (h : w.heap[b]? = some (.stringIter s p)) : iterPos w b = p := by unfold iterPos; rw [h]
theorem ok_decode (s : ByteArray) (k : Nat) (h : k < s.size) : ∃ r n : Nat, Utf8.decode s k = (r, n) ∧ ((Gt.okB (s.data.toList[k]'h) = true ∧ n = 1 ∧ 33 ≤ r ∧ r ≤ 126 ∧ r ≠ 35) ∨ (Gt.okB (s.data.toList[k]'h) = false ∧ ((r < 33 ∨ 126 < r) ∨ r = 35))) := by
  have hc : s.data.toList[k]'h = s[k]'h := rfl
  rw [hc]
  by_cases ha : (s[k]'h).toNat < 128
  · refine ⟨_, _, decode_ascii s k h ha, ?_⟩
    cases hok : Gt.okB (s[k]'h) with
    | true =>
      left
      unfold Gt.okB at hok
      simp at hok
      refine ⟨rfl, rfl, hok.1.1, hok.1.2, fun e => hok.2 (UInt8.toNat_inj.1 e)⟩
    | false =>
      right
      refine ⟨rfl, ?_⟩
      unfold Gt.okB at hok
      simp at hok
      by_cases h1 : 33 ≤ (s[k]'h).toNat
      · by_cases h2 : (s[k]'h).toNat ≤ 126
        · right; rw [hok h1 h2]; rfl
        · left; right; omega
      · left; left; omega
  · obtain ⟨r, n, hd, h1, _⟩ := decode_hi s k h (by omega)
    refine ⟨r, n, hd, .inr ⟨?_, .inl (.inr (by omega))⟩⟩
    unfold Gt.okB
    rw [show decide ((s[k]'h).toNat ≤ 126) = false from decide_eq_false (by omega)]
    simp
end Go.Proofs.YtbaakfcbakpmpaaGreatDoor

/- strings.IndexRune of "/\x00" at a rune above 127: none; strings.IndexAny, ContainsAny of any text; which parts may be. -/
namespace Go.Proofs.YtbaakfcbakpmpaaGreatDoor
set_option linter.unusedVariables false
set_option linter.unusedSimpArgs false
open Go.RowKit Go.Shelf
set_option maxHeartbeats 2000000
set_option maxRecDepth 100000
namespace Gt
/-- a byte that no part may have -/
def badB (c : UInt8) : Bool := c == 47 || c == 0
theorem ix_bad : ∀ c : Fin 256, decide (0 ≤ Lib.indexByte [47, 0] (UInt8.ofNat c.val)) = badB (UInt8.ofNat c.val) := by decide +kernel
theorem ix_bad' (c : UInt8) : decide (0 ≤ Lib.indexByte [47, 0] c) = badB c := by
  have := ix_bad ⟨c.toNat, c.toNat_lt⟩
  simpa using this
theorem any_take (l : List UInt8) (k n : Nat) (hk : (l.take k).any badB = false) (hn : k + n ≤ l.length) (h : ∀ j, k ≤ j → j < k + n → ∀ hj : j < l.length, 128 ≤ (l[j]'hj).toNat) : (l.take (k + n)).any badB = false := by
  rw [List.any_eq_false] at hk ⊢
  intro x hx
  rw [List.mem_take_iff_getElem] at hx
  obtain ⟨j, hj, rfl⟩ := hx
  by_cases hjk : j < k
  · exact hk _ (List.mem_take_iff_getElem.2 ⟨j, by omega, rfl⟩)
  · have := h j (by omega) (by omega) (by omega)
    unfold badB
    simp only [Bool.or_eq_true, beq_iff_eq, not_or]
    constructor <;> (intro e; rw [e] at this; exact absurd this (by decide))
end Gt
end Go.Proofs.YtbaakfcbakpmpaaGreatDoor

/- strings.IndexAny and ContainsAny of any text at "/\x00"; which parts may be. -/
namespace Go.Proofs.YtbaakfcbakpmpaaGreatDoor
set_option linter.unusedVariables false
set_option linter.unusedSimpArgs false
open Go.RowKit Go.Shelf
set_option maxHeartbeats 2000000
set_option maxRecDepth 100000
theorem index_bad : ∀ l : List UInt8, decide (0 ≤ Lib.indexAny l [47, 0]) = l.any Gt.badB
  | [] => rfl
  | b :: l => by
    have ih := index_bad l
    have hg := Lib.indexAny_ge [47, 0] l
    have hb : ([47, 0] : List UInt8).contains b = Gt.badB b := by
      unfold Gt.badB
      show List.elem b [47, 0] = _
      unfold List.elem
      cases h1 : b == 47
      · unfold List.elem
        cases h2 : b == 0 <;> rfl
      · rfl
    rw [List.any_cons, ← ih, ← hb]
    have hu : Lib.indexAny (b :: l) [47, 0] = if ([47, 0] : List UInt8).contains b = true then 0 else if (Lib.indexAny l [47, 0] == -1) = true then -1 else Lib.indexAny l [47, 0] + 1 := by simp only [Lib.indexAny]
    rw [hu]
    by_cases h : ([47, 0] : List UInt8).contains b = true
    · rw [if_pos h, h]; rfl
    · rw [if_neg h, Bool.eq_false_iff.2 h, Bool.false_or]
      split
      · rename_i he
        rw [beq_iff_eq.1 he]
      · rename_i he
        have : Lib.indexAny l [47, 0] ≠ -1 := fun e => he (beq_iff_eq.2 e)
        exact decide_eq_decide.2 ⟨fun _ => by omega, fun _ => by omega⟩
end Go.Proofs.YtbaakfcbakpmpaaGreatDoor

/- Targets read and written, as plain functions: no program in sight. No conditions but those that each law states. -/
namespace Go.Proofs.YtbaakfcbakpmpaaGreatDoor
set_option linter.unusedVariables false
set_option linter.unusedSimpArgs false
namespace Gt
/-- things made of others, as far as none is refused -/
def all? {α β : Type} (f : α → Option β) : List α → Option (List β)
  | [] => some []
  | x :: l => match f x with
    | none => none
    | some y => (all? f l).map (y :: ·)
theorem all_nil {α β : Type} (f : α → Option β) : all? f [] = some [] := rfl
theorem all_none {α β : Type} {f : α → Option β} {x : α} {l : List α} (h : f x = none) : all? f (x :: l) = none := by unfold all?; rw [h]
theorem all_some {α β : Type} {f : α → Option β} {x : α} {l : List α} {y : β} (h : f x = some y) : all? f (x :: l) = (all? f l).map (y :: ·) := by conv => lhs; unfold all?; rw [h]
/-- k of them are made -/
def AAt {α β : Type} (f : α → Option β) (L : List α) (acc : List β) (k : Nat) : Prop := k ≤ L.length ∧ acc.length = k ∧ all? f L = (all? f (L.drop k)).map (acc ++ ·)
theorem aAt_start {α β : Type} (f : α → Option β) (L : List α) : AAt f L [] 0 := ⟨Nat.zero_le _, rfl, by cases h : all? f L <;> simp [h]⟩
theorem aAt_next {α β : Type} {f : α → Option β} {L : List α} {acc : List β} {k : Nat} {y : β} (h : AAt f L acc k) (hk : k < L.length) (hy : f L[k] = some y) : AAt f L (acc ++ [y]) (k + 1) := by
  refine ⟨hk, by simp [h.2.1], ?_⟩
  rw [h.2.2, List.drop_eq_getElem_cons hk, all_some hy]
  cases all? f (L.drop (k + 1)) <;> simp
theorem aAt_bad {α β : Type} {f : α → Option β} {L : List α} {acc : List β} {k : Nat} (h : AAt f L acc k) (hk : k < L.length) (hy : f L[k] = none) : all? f L = none := by
  rw [h.2.2, List.drop_eq_getElem_cons hk, all_none hy]; rfl
theorem aAt_end {α β : Type} {f : α → Option β} {L : List α} {acc : List β} {k : Nat} (h : AAt f L acc k) (hk : L.length ≤ k) : all? f L = some acc := by
  rw [h.2.2, List.drop_eq_nil_of_le hk, all_nil]; simp
theorem all_map {α β γ : Type} {f : α → Option β} {g : γ → α} {h : γ → β} (hg : ∀ x, f (g x) = some (h x)) : ∀ l : List γ, all? f (l.map g) = some (l.map h)
  | [] => rfl
  | x :: l => by rw [List.map_cons, all_some (hg x), all_map hg l]; rfl
theorem all_length {α β : Type} {f : α → Option β} : ∀ {l : List α} {r : List β}, all? f l = some r → r.length = l.length
  | [], r, h => by cases h; rfl
  | x :: l, r, h => by
    cases hx : f x with
    | none => rw [all_none hx] at h; cases h
    | some y =>
      rw [all_some hx] at h
      cases hl : all? f l with
      | none => rw [hl] at h; cases h
      | some t => rw [hl] at h; cases h; simp [all_length hl]
theorem all_each {α β : Type} {f : α → Option β} : ∀ {l : List α} {r : List β}, all? f l = some r → ∀ y ∈ r, ∃ x ∈ l, f x = some y
  | [], r, h, y, hy => by cases h; cases hy
  | x :: l, r, h, y, hy => by
    cases hx : f x with
    | none => rw [all_none hx] at h; cases h
    | some z =>
      rw [all_some hx] at h
      cases hl : all? f l with
      | none => rw [hl] at h; cases h
      | some t =>
        rw [hl] at h; cases h
        rcases List.mem_cons.1 hy with rfl | hy
        · exact ⟨x, List.mem_cons_self, hx⟩
        · obtain ⟨x', h1, h2⟩ := all_each hl y hy
          exact ⟨x', List.mem_cons_of_mem _ h1, h2⟩
def segs (s : List UInt8) : List (List UInt8) := Gs.parts 47 [] ((s.take (Gs.pos 63 s)).drop 1)
def qrys (s : List UInt8) : List (List UInt8) := (Gs.parts 38 [] (s.drop (Gs.pos 63 s + 1))).filter fun l => !l.isEmpty
def seg (l : List UInt8) : Option (List UInt8) := match dec false l with
  | none => none
  | some p => if fine p then some p else none
theorem seg_some {l p : List UInt8} (h : dec false l = some p) : seg l = if fine p then some p else none := by unfold seg; rw [h]
theorem seg_none {l : List UInt8} (h : dec false l = none) : seg l = none := by unfold seg; rw [h]
def pairOf (l : List UInt8) : Option (List UInt8 × List UInt8) := match dec true (l.take (Gs.pos 61 l)) with
  | none => none
  | some k => (dec true (l.drop (Gs.pos 61 l + 1))).map fun v => (k, v)
theorem pairOf_none {l : List UInt8} (h : dec true (l.take (Gs.pos 61 l)) = none) : pairOf l = none := by unfold pairOf; rw [h]
theorem pairOf_some {l k : List UInt8} (h : dec true (l.take (Gs.pos 61 l)) = some k) : pairOf l = (dec true (l.drop (Gs.pos 61 l + 1))).map fun v => (k, v) := by unfold pairOf; rw [h]
def ok (s : List UInt8) : Bool := s.head? == some 47 && s.all okB
def parse (s : List UInt8) : Option (List (List UInt8) × List (List UInt8 × List UInt8)) :=
  if ok s then (match all? seg (segs s) with
    | none => none
    | some P => (all? pairOf (qrys s)).map fun Q => (P, Q)) else none
theorem parse_bad {s : List UInt8} (h : ok s = false) : parse s = none := by unfold parse; rw [h]; rfl
theorem parse_segs {s : List UInt8} (h : ok s = true) (h1 : all? seg (segs s) = none) : parse s = none := by unfold parse; rw [if_pos h, h1]
theorem parse_is {s : List UInt8} {P : List (List UInt8)} (h : ok s = true) (h1 : all? seg (segs s) = some P) : parse s = (all? pairOf (qrys s)).map fun Q => (P, Q) := by unfold parse; rw [if_pos h, h1]
def right (P : List (List UInt8)) : Bool := !P.isEmpty && P.all fine
def ptext (P : List (List UInt8)) : List UInt8 := P.flatMap fun p => 47 :: enc p
def pr (q : List UInt8 × List UInt8) : List UInt8 := enc q.1 ++ 61 :: enc q.2
def qtext : List (List UInt8 × List UInt8) → List UInt8
  | [] => []
  | q :: Q => 63 :: (pr q ++ Q.flatMap fun q => 38 :: pr q)
def text (P : List (List UInt8)) (Q : List (List UInt8 × List UInt8)) : List UInt8 := ptext P ++ qtext Q
theorem plain_ok : ∀ c : Fin 256, plainB c.val = true → okB (UInt8.ofNat c.val) = true ∧ c.val ≠ 47 ∧ c.val ≠ 63 ∧ c.val ≠ 38 ∧ c.val ≠ 61 := by decide +kernel
theorem up_ok : ∀ i : Fin 16, okB (up i.val) = true ∧ up i.val ≠ 47 ∧ up i.val ≠ 63 ∧ up i.val ≠ 38 ∧ up i.val ≠ 61 := by decide +kernel
def goodB (c : UInt8) : Prop := okB c = true ∧ c ≠ 47 ∧ c ≠ 63 ∧ c ≠ 38 ∧ c ≠ 61
theorem enc1_good (c : UInt8) : ∀ d ∈ enc1 c, goodB d := by
  intro d hd
  unfold enc1 at hd
  by_cases h : plainB (c.toNat : Int) = true
  · rw [if_pos h] at hd
    obtain rfl := List.mem_singleton.1 hd
    have h1 := plain_ok ⟨d.toNat, d.toNat_lt⟩ h
    simp only [UInt8.ofNat_toNat] at h1
    exact ⟨h1.1, fun e => h1.2.1 (by rw [e]; rfl), fun e => h1.2.2.1 (by rw [e]; rfl), fun e => h1.2.2.2.1 (by rw [e]; rfl), fun e => h1.2.2.2.2 (by rw [e]; rfl)⟩
  · rw [if_neg h] at hd
    have h2 := c.toNat_lt
    rcases List.mem_cons.1 hd with rfl | hd
    · exact ⟨by decide, by decide, by decide, by decide, by decide⟩
    rcases List.mem_cons.1 hd with rfl | hd
    · exact up_ok ⟨c.toNat / 16, by omega⟩
    · obtain rfl := List.mem_singleton.1 hd
      exact up_ok ⟨c.toNat % 16, by omega⟩
theorem enc_good (l : List UInt8) : ∀ d ∈ enc l, goodB d := by
  intro d hd
  obtain ⟨c, _, h⟩ := List.mem_flatMap.1 hd
  exact enc1_good c d h
theorem pr_mem (q : List UInt8 × List UInt8) : ∀ c ∈ pr q, okB c = true ∧ c ≠ 38 := by
  intro c hc
  rcases List.mem_append.1 hc with h | h
  · have := enc_good _ c h; exact ⟨this.1, this.2.2.2.1⟩
  · rcases List.mem_cons.1 h with rfl | h
    · exact ⟨by decide, by decide⟩
    · have := enc_good _ c h; exact ⟨this.1, this.2.2.2.1⟩
theorem ptext_mem (P : List (List UInt8)) : ∀ c ∈ ptext P, okB c = true ∧ c ≠ 63 := by
  intro c hc
  obtain ⟨p, _, h⟩ := List.mem_flatMap.1 hc
  rcases List.mem_cons.1 h with rfl | h
  · exact ⟨by decide, by decide⟩
  · have := enc_good _ c h; exact ⟨this.1, this.2.2.1⟩
theorem qtext_mem : ∀ (Q : List (List UInt8 × List UInt8)), ∀ c ∈ qtext Q, okB c = true
  | [], c, h => by cases h
  | q :: Q, c, h => by
    rcases List.mem_cons.1 h with rfl | h
    · decide
    rcases List.mem_append.1 h with h | h
    · exact (pr_mem q c h).1
    · obtain ⟨r, _, h⟩ := List.mem_flatMap.1 h
      rcases List.mem_cons.1 h with rfl | h
      · decide
      · exact (pr_mem r c h).1
theorem parts_ptext : ∀ (p : List UInt8) (P : List (List UInt8)), Gs.parts 47 [] (enc p ++ ptext P) = (p :: P).map enc
  | p, [] => by
    show Gs.parts 47 [] (enc p ++ []) = _
    rw [List.append_nil, Gs.parts_one [] fun c hc => (enc_good p c hc).2.1]; rfl
  | p, q :: P => by
    show Gs.parts 47 [] (enc p ++ (47 :: enc q ++ ptext P)) = _
    rw [List.cons_append, Gs.parts_mid [] _ fun c hc => (enc_good p c hc).2.1, parts_ptext q P]; rfl
theorem parts_qtext : ∀ (q : List UInt8 × List UInt8) (Q : List (List UInt8 × List UInt8)), Gs.parts 38 [] (pr q ++ Q.flatMap fun q => 38 :: pr q) = (q :: Q).map pr
  | q, [] => by
    show Gs.parts 38 [] (pr q ++ []) = _
    rw [List.append_nil, Gs.parts_one [] fun c hc => (pr_mem q c hc).2]; rfl
  | q, r :: Q => by
    show Gs.parts 38 [] (pr q ++ (38 :: pr r ++ Q.flatMap fun q => 38 :: pr q)) = _
    rw [List.cons_append, Gs.parts_mid [] _ fun c hc => (pr_mem q c hc).2, parts_qtext r Q]; rfl
theorem pairOf_pr (q : List UInt8 × List UInt8) : pairOf (pr q) = some q := by
  have hp : Gs.pos 61 (pr q) = (enc q.1).length := Gs.pos_mid fun c hc => (enc_good _ c hc).2.2.2.2
  have h1 : (pr q).take (Gs.pos 61 (pr q)) = enc q.1 := by rw [hp]; unfold pr; simp
  have h2 : (pr q).drop (Gs.pos 61 (pr q) + 1) = enc q.2 := by rw [hp]; unfold pr; rw [← List.drop_drop]; simp
  rw [pairOf_some (by rw [h1]; exact dec_enc true _), h2, dec_enc]
  rfl
theorem pos_text {P : List (List UInt8)} {Q : List (List UInt8 × List UInt8)} : Gs.pos 63 (text P Q) = (ptext P).length := by
  unfold text
  cases Q with
  | nil =>
    show Gs.pos 63 (ptext P ++ []) = _
    rw [List.append_nil]
    exact Gs.pos_none fun c hc => (ptext_mem P c hc).2
  | cons q Q => exact Gs.pos_mid fun c hc => (ptext_mem P c hc).2
theorem all_fine : ∀ {P : List (List UInt8)}, P.all fine = true → all? seg (P.map enc) = some P
  | [], _ => rfl
  | p :: P, h => by
    rw [List.all_cons, Bool.and_eq_true] at h
    rw [List.map_cons, all_some (by rw [seg_some (dec_enc false p), if_pos h.1]), all_fine h.2]; rfl
/-- a target's text is that target's -/
theorem parse_text {P : List (List UInt8)} {Q : List (List UInt8 × List UInt8)} (h : right P = true) : parse (text P Q) = some (P, Q) := by
  unfold right at h
  rw [Bool.and_eq_true] at h
  obtain ⟨p, P, rfl⟩ : ∃ p P', P = p :: P' := by
    cases P with
    | nil => simp at h
    | cons p P => exact ⟨p, P, rfl⟩
  have hok : ok (text (p :: P) Q) = true := by
    unfold ok
    rw [Bool.and_eq_true]
    refine ⟨rfl, List.all_eq_true.2 fun c hc => ?_⟩
    rcases List.mem_append.1 hc with h | h
    · exact (ptext_mem _ c h).1
    · exact qtext_mem Q c h
  have hs : segs (text (p :: P) Q) = (p :: P).map enc := by
    unfold segs
    rw [pos_text]
    unfold text
    rw [List.take_left']
    · exact parts_ptext p P
    · rfl
  have hq : qrys (text (p :: P) Q) = Q.map pr := by
    unfold qrys
    rw [pos_text]
    unfold text
    rw [← List.drop_drop, List.drop_left']
    · cases Q with
      | nil => rfl
      | cons q Q =>
        show (Gs.parts 38 [] (pr q ++ Q.flatMap fun q => 38 :: pr q)).filter _ = _
        rw [parts_qtext]
        refine List.filter_eq_self.2 fun l hl => ?_
        obtain ⟨r, _, rfl⟩ := List.mem_map.1 hl
        unfold pr
        simp
    · rfl
  rw [parse_is hok (by rw [hs]; exact all_fine h.2), hq, all_map (h := id) pairOf_pr, List.map_id]
  rfl
/-- of a text that is taken no part is dots, or has a stroke -/
theorem parse_right {s : List UInt8} {P : List (List UInt8)} {Q : List (List UInt8 × List UInt8)} (h : parse s = some (P, Q)) : right P = true := by
  cases hok : ok s with
  | false => rw [parse_bad hok] at h; cases h
  | true =>
    cases hs : all? seg (segs s) with
    | none => rw [parse_segs hok hs] at h; cases h
    | some R =>
      rw [parse_is hok hs] at h
      cases hq : all? pairOf (qrys s) with
      | none => rw [hq] at h; cases h
      | some T =>
        rw [hq] at h
        cases h
        unfold right
        rw [Bool.and_eq_true]
        refine ⟨?_, List.all_eq_true.2 fun p hp => ?_⟩
        · have h1 := all_length hs
          have h2 := Gs.parts_ne 47 ((s.take (Gs.pos 63 s)).drop 1) []
          cases P with
          | nil => exact absurd (List.length_eq_zero_iff.1 (show (segs s).length = 0 by rw [← h1]; rfl)) h2
          | cons _ _ => rfl
        · obtain ⟨x, _, hx⟩ := all_each hs p hp
          unfold seg at hx
          cases hd : dec false x with
          | none => rw [hd] at hx; cases hx
          | some y =>
            rw [hd] at hx
            simp only at hx
            split at hx
            · cases hx; assumption
            · cases hx
end Gt
end Go.Proofs.YtbaakfcbakpmpaaGreatDoor

/- target: which parts may be (fine), part. -/
namespace Go.Proofs.YtbaakfcbakpmpaaGreatDoor
set_option linter.unusedVariables false
set_option linter.unusedSimpArgs false
open Go.RowKit Go.Shelf
set_option maxHeartbeats 2000000
set_option maxRecDepth 100000
theorem all_bad (l : List UInt8) : (l.all fun c => c != 47 && c != 0) = !l.any Gt.badB := by
  induction l with
  | nil => rfl
  | cons c l ih =>
    rw [List.all_cons, List.any_cons, ih]
    unfold Gt.badB
    cases h1 : c == 47 <;> cases h2 : c == 0 <;> simp [bne, h1, h2]
end Go.Proofs.YtbaakfcbakpmpaaGreatDoor

/- The reference's plain, Encode. -/
namespace Go.Proofs.YtbaakfcbakpmpaaGreatDoor
set_option linter.unusedVariables false
set_option linter.unusedSimpArgs false
open Go.RowKit Go.Shelf
set_option maxHeartbeats 4000000
set_option maxRecDepth 100000
theorem ref_plain (x : Int) (w : World) (h0 : 0 ≤ x) (h1 : x < 256) :
    Calls Tryz.prog 93 #[.int .u8 x] w fun e w' => e = .returned (.bool (Gt.plainB x)) ∧ w' = w := by
  have HP := Lib.hid (show Gt.plainB x = (decide (97 ≤ x ∧ x ≤ 122) || decide (65 ≤ x ∧ x ≤ 90) || decide (48 ≤ x ∧ x ≤ 57) || x == 45 || x == 46 || x == 95 || x == 126) from rfl)
  go_enter Tryz.func93, Tryz.ntmps93
  go_wp2_with fail
  all_goals
    go_ret
    refine ⟨?_, rfl⟩
    refine congrArg (fun b => Ending.returned (Value.bool b)) (Bool.eq_iff_iff.2 ?_)
    first
      | decide
      | (unfold Gt.plainB; simp only [Bool.or_eq_true, decide_eq_true_eq, beq_iff_eq, true_iff, iff_true]; omega)
      | (unfold Gt.plainB; simp only [Bool.or_eq_true, decide_eq_true_eq, beq_iff_eq]; constructor <;> intro <;> omega)
theorem hexU_slice (r : Nat) (h : r < 16) (w : World) : (Instr.slice 9 (.string ⟨#[48, 49, 50, 51, 52, 53, 54, 55, 56, 57, 65, 66, 67, 68, 69, 70]⟩) (some (.int .u8 (r : Int))) (some (.int .u8 ((r : Int) + 1))) none).run Tryz.prog w = .ok (.string ⟨#[Gt.up r]⟩) w :=
  match r, h with
  | 0, _ => by kernel_rfl
  | 1, _ => by kernel_rfl
  | 2, _ => by kernel_rfl
  | 3, _ => by kernel_rfl
  | 4, _ => by kernel_rfl
  | 5, _ => by kernel_rfl
  | 6, _ => by kernel_rfl
  | 7, _ => by kernel_rfl
  | 8, _ => by kernel_rfl
  | 9, _ => by kernel_rfl
  | 10, _ => by kernel_rfl
  | 11, _ => by kernel_rfl
  | 12, _ => by kernel_rfl
  | 13, _ => by kernel_rfl
  | 14, _ => by kernel_rfl
  | 15, _ => by kernel_rfl
  | n + 16, h => absurd h (by omega)
theorem ref_Encode (s : ByteArray) (w : World) (hs : s.size ≤ 100000) :
    Calls Tryz.prog 71 #[.string s] w fun e w' => e = .returned (.string ⟨(Gt.enc s.data.toList).toArray⟩) ∧ Below w.heap.size w w' := by
  have HL := Lib.hid (show s.data.toList.length = s.size from rfl)
  go_enter Tryz.func71, Tryz.ntmps71
  go_wp2_with fail
  go_loopw [3, 4] (fun t i wr => ∃ (k : Nat) (T : ByteArray), k ≤ s.size ∧ i = .int .i64 k ∧ t = .string T ∧ T.data.toList = Gt.enc (s.data.toList.take k) ∧ Below w.heap.size w wr)
    (fun _ i _ => s.size - (intOf i).toNat)
  case atStart => exact ⟨0, ⟨#[]⟩, Nat.zero_le _, rfl, rfl, rfl, Below.refl _ _⟩
  case round =>
    obtain ⟨k, T, hk, rfl, rfl, hT, hbl⟩ := hrel
    have HT := Lib.hid hT
    have HBL := Lib.hid hbl
    have hTs : T.size ≤ 300000 := by
      have h1 : T.data.toList.length = T.size := rfl
      have h2 := (Gt.enc_length (s.data.toList.take k)).2
      rw [hT] at h1
      rw [List.length_take] at h2
      omega
    clear hT hbl
    by_cases hlt : k < s.size
    · have HKL := Lib.hid (show k < s.data.toList.length from hlt)
      obtain ⟨c, hcc⟩ : ∃ c, s.data.toList[k]'HKL.out = c := ⟨_, rfl⟩
      have HTK := Lib.hid (show s.data.toList.take (k + 1) = s.data.toList.take k ++ [c] by rw [List.take_succ_eq_append_getElem HKL.out, hcc])
      obtain ⟨x, hx⟩ : ∃ x : Int, (c.toNat : Int) = x := ⟨_, rfl⟩
      have hsx : ((s[k]'hlt).toNat : Int) = x := by rw [← hx, ← hcc]; rfl
      have HC := Lib.hid hcc
      have HX := Lib.hid hx
      have hr1 : (0 : Int) ≤ x := by omega
      have hr2 : x < 256 := by have := c.toNat_lt; omega
      clear hx hcc
      have K := Lib.hid (ref_plain x wr hr1 hr2)
      cases hp : Gt.plainB x with
      | true =>
        rw [hp] at K
        have HE1 := Lib.hid (show Gt.enc1 c = [c] by unfold Gt.enc1; rw [HX.out, if_pos hp])
        clear hp
        go_wp2_with fail
        refine K.out.mono ?_
        rintro e w2 ⟨rfl, hw2⟩
        subst w2
        have HN := Lib.hid (show (T ++ s.extract k (k + 1)).data.toList = Gt.enc (s.data.toList.take (k + 1)) by
          rw [HTK.out, Gt.enc_snoc, HE1.out, ← HT.out, ByteArray.data_append, Array.toList_append, Lib.extract_data, Nat.add_sub_cancel_left, Gt.drop1 _ _ HKL.out, HC.out]
          rfl)
        go_wp2_with fail
        go_roundw
        case rel => exact ⟨k + 1, _, hlt, by go_num, rfl, HN.out, HBL.out⟩
        case measure => simp [intOf]; omega
      | false =>
        rw [hp] at K
        have HE1 := Lib.hid (show Gt.enc1 c = [37, Gt.up (c.toNat / 16), Gt.up (c.toNat % 16)] by unfold Gt.enc1; rw [HX.out, hp]; rfl)
        clear hp
        obtain ⟨a, ha⟩ : ∃ a, c.toNat / 16 = a := ⟨_, rfl⟩
        obtain ⟨d, hd⟩ : ∃ d, c.toNat % 16 = d := ⟨_, rfl⟩
        have HXA := Lib.hid (show x / 16 = (a : Int) by have := HX.out; omega)
        have HXD := Lib.hid (show x % 16 = (d : Int) by have := HX.out; omega)
        have ha16 : a < 16 := by have := c.toNat_lt; omega
        have hd16 : d < 16 := by omega
        have hsa := hexU_slice a ha16
        have hsd := hexU_slice d hd16
        have hai : (a : Int) ≤ 15 := by omega
        have hdi : (d : Int) ≤ 15 := by omega
        rw [ha, hd] at HE1
        have HN := Lib.hid (show (T ++ ⟨#[37]⟩ ++ ⟨#[Gt.up a]⟩ ++ ⟨#[Gt.up d]⟩ : ByteArray).data.toList = Gt.enc (s.data.toList.take (k + 1)) by
          rw [HTK.out, Gt.enc_snoc, HE1.out, ← HT.out]
          simp [ByteArray.data_append])
        clear ha hd
        go_wp2_with fail
        refine K.out.mono ?_
        rintro e w2 ⟨rfl, hw2⟩
        subst w2
        go_wp2_with fail
        go_quiet (fail)
        obtain ⟨w2, hw2⟩ : ∃ W, wr.drewN nq = W := ⟨_, rfl⟩
        have HB2 := Lib.hid (show Below w.heap.size w w2 by rw [← hw2]; exact below_drewN HBL.out _)
        rw [hw2]
        clear hw2
        rw [HXA.out, HXD.out]
        go_wp2_with fail
        go_quiet (fail)
        go_wp2_with fail
        have HB3 := Lib.hid (below_drewN HB2.out nq)
        go_roundw
        case rel => exact ⟨k + 1, _, hlt, by go_num, rfl, HN.out, HB3.out⟩
        case measure => simp [intOf]; omega
    · have HTK := Lib.hid (show s.data.toList.take k = s.data.toList from List.take_of_length_le (by rw [HL.out]; omega))
      rw [HTK.out] at HT
      have HF := Lib.hid (show (⟨(Gt.enc s.data.toList).toArray⟩ : ByteArray) = T by apply ByteArray.ext; apply Array.ext'; exact HT.out.symm)
      go_wp2
      go_ret
      exact ⟨by rw [HF.out]; rfl, HBL.out⟩
end Go.Proofs.YtbaakfcbakpmpaaGreatDoor

/- script: the reference's text. No conditions but those that each law states. Printed by genUa.py. -/
namespace Go.Proofs.YtbaakfcbakpmpaaGreatDoor
set_option linter.unusedVariables false
set_option linter.unusedSimpArgs false
open Go.RowKit Go.Shelf
set_option maxHeartbeats 8000000
set_option maxRecDepth 100000
/-- the line of a first word, and parts -/
def rfT (nm ps : List UInt8) (x : Sc.St) : Option (List UInt8) := if nm = [] then none else if Sc.fit ps x = true then some (nm ++ Sc.told ps x) else none
def rfTO (o : Option (List UInt8)) : Value := match o with
  | some l => .tuple #[.string ⟨l.toArray⟩, .bool true]
  | none => .tuple #[.string ⟨#[]⟩, .bool false]
theorem rfT_line (T : Sc.Shapes) (k : Int) (x : Sc.St) (hT : T = Sc.stepT ∨ T = Sc.outT) : rfT (shN T k) (shP T k) x = Sc.line T k x := by
  unfold rfT shN shP Sc.line
  cases hs : Sc.shape T k with
  | none => rfl
  | some e =>
    obtain ⟨nm, ps⟩ := e
    have hne : nm ≠ [] := by
      unfold Sc.shape at hs
      cases hf : T.find? (fun e => e.1 == k) with
      | none => rw [hf] at hs; cases hs
      | some e =>
        rw [hf] at hs
        have hm := List.mem_of_find?_eq_some hf
        obtain ⟨k', nm', ps'⟩ := e
        cases hs
        have hall : (T.all fun e => !e.2.1.isEmpty) = true := by rcases hT with rfl | rfl <;> decide
        have := List.all_eq_true.1 hall _ hm
        intro e2
        rw [e2] at this
        cases this
    simp only [if_neg hne]
theorem nat_nz (n : Nat) : (n == 0) = !((n : Int) != 0) := by
  rcases Nat.eq_zero_or_pos n with h | h
  · subst h; rfl
  · have h1 : (n == 0) = false := beq_eq_false_iff_ne.2 (by omega)
    have h2 : ((n : Int) != 0) = true := by rw [bne_iff_ne]; omega
    rw [h1, h2]; rfl
theorem rf_text (nm ps xb : ByteArray) (x : Sc.St) (w : World) (hxb : xb.data.toList = x.bytes) (hx : x.ok) (hl : x.bytes.length ≤ 10000) (hps : ∀ p ∈ ps.data.toList, Sc.isP p) (hpl : ps.size ≤ 3) (hnl : nm.size ≤ 10) :
    Calls Tryz.prog 44 #[.string nm, .string ps, .agg #[.int .u64 (x.n : Int), .int .u64 (x.draw : Int), .int .u64 (x.conn : Int), .int .i64 x.topic, .string xb]] w fun e w' => e = .returned (rfTO (rfT nm.data.toList ps.data.toList x)) ∧ Below w.heap.size w w' := by
  obtain ⟨S, hS⟩ : ∃ z, w.heap.size = z := ⟨_, rfl⟩
  obtain ⟨W, hW⟩ : ∃ z, w.alloc (.cells #[.int .u64 (x.n : Int), .int .u64 (x.draw : Int), .int .u64 (x.conn : Int), .int .i64 x.topic, .string xb] 92) = z := ⟨_, rfl⟩
  have hb : Below w.heap.size w W := by rw [← hW]; exact (Below.refl _ _).alloc (Nat.le_refl _) _
  have hr : W.heap[S]? = some (.cells #[.int .u64 (x.n : Int), .int .u64 (x.draw : Int), .int .u64 (x.conn : Int), .int .i64 x.topic, .string xb] 92 (0, 0)) := by rw [← hW, ← hS]; exact World.alloc_heap_new _ _
  have c0 : W.cell? ⟨S, 0, none⟩ = some (.int .u64 (x.n : Int)) := by simp [World.cell?, hr]
  have c1 : W.cell? ⟨S, 1, none⟩ = some (.int .u64 (x.draw : Int)) := by simp [World.cell?, hr]
  have c2 : W.cell? ⟨S, 2, none⟩ = some (.int .u64 (x.conn : Int)) := by simp [World.cell?, hr]
  have c3 : W.cell? ⟨S, 3, none⟩ = some (.int .i64 x.topic) := by simp [World.cell?, hr]
  have c4 : W.cell? ⟨S, 4, none⟩ = some (.string xb) := by simp [World.cell?, hr]
  obtain ⟨L, hL⟩ : ∃ z, ps.data.toList = z := ⟨_, rfl⟩
  obtain ⟨b0, hb0⟩ : ∃ z, L.contains 78 = z := ⟨_, rfl⟩
  obtain ⟨b1, hb1⟩ : ∃ z, L.contains 68 = z := ⟨_, rfl⟩
  obtain ⟨b2, hb2⟩ : ∃ z, L.contains 67 = z := ⟨_, rfl⟩
  obtain ⟨b3, hb3⟩ : ∃ z, L.contains 84 = z := ⟨_, rfl⟩
  obtain ⟨b4, hb4⟩ : ∃ z, L.contains 66 = z := ⟨_, rfl⟩
  obtain ⟨z0, hz0⟩ : ∃ z, ((x.n : Int) != 0) = z := ⟨_, rfl⟩
  obtain ⟨z1, hz1⟩ : ∃ z, ((x.draw : Int) != 0) = z := ⟨_, rfl⟩
  obtain ⟨z2, hz2⟩ : ∃ z, ((x.conn : Int) != 0) = z := ⟨_, rfl⟩
  obtain ⟨z3, hz3⟩ : ∃ z, (x.topic != 0) = z := ⟨_, rfl⟩
  obtain ⟨z4, hz4⟩ : ∃ z, (!xb.toList.isEmpty) = z := ⟨_, rfl⟩
  have hz4' : xb.toList.isEmpty = !z4 := by rw [← hz4, Bool.not_not]
  have hrest : Sc.rest L x = (((((b0 || !z0) && (b1 || !z1)) && (b2 || !z2)) && (b3 || !z3)) && (b4 || !z4)) := by
    have e0 : (x.n == 0) = !z0 := by rw [← hz0]; exact nat_nz x.n
    have e1 : (x.draw == 0) = !z1 := by rw [← hz1]; exact nat_nz x.draw
    have e2 : (x.conn == 0) = !z2 := by rw [← hz2]; exact nat_nz x.conn
    have e3 : (x.topic == 0) = !z3 := by rw [← hz3]; simp [bne]
    have e4 : (x.bytes == []) = !z4 := by rw [← hz4', ByteArray.toList_eq, hxb]; cases x.bytes <;> rfl
    unfold Sc.rest
    rw [hb0, hb1, hb2, hb3, hb4, e0, e1, e2, e3, e4]
  have KH0 := Lib.hid (fun W => rf_has ps 78 W (by omega))
  have KH1 := Lib.hid (fun W => rf_has ps 68 W (by omega))
  have KH2 := Lib.hid (fun W => rf_has ps 67 W (by omega))
  have KH3 := Lib.hid (fun W => rf_has ps 84 W (by omega))
  have KH4 := Lib.hid (fun W => rf_has ps 66 W (by omega))
  rw [hL] at KH0 KH1 KH2 KH3 KH4
  rw [hb0] at KH0
  rw [hb1] at KH1
  rw [hb2] at KH2
  rw [hb3] at KH3
  rw [hb4] at KH4
  have HREST := Lib.hid hrest
  have HXB := Lib.hid hxb
  have HX := Lib.hid hx
  have HPS := Lib.hid hps
  have HL := Lib.hid hL
  have HB := Lib.hid hb
  have HR := Lib.hid hr
  have HSS := Lib.hid hS
  have HW := Lib.hid hW
  have HXL := Lib.hid hl
  have HXS := Lib.hid (show xb.size ≤ 100000 by
    have h3 : xb.data.toList.length = xb.size := by simp
    rw [hxb] at h3
    omega)
  rw [hL]
  obtain ⟨r, hrr⟩ : ∃ z, rfT nm.data.toList L x = z := ⟨_, rfl⟩
  rw [hrr]
  have HRR := Lib.hid hrr
  obtain ⟨ne, hne⟩ : ∃ z, nm.toList.isEmpty = z := ⟨_, rfl⟩
  have HNE := Lib.hid (show (decide (nm.data.toList = [])) = ne by rw [← hne, ByteArray.toList_eq]; cases nm.data.toList <;> rfl)
  clear hxb hx hps hL hb hr hS hW hb0 hb1 hb2 hb3 hb4 hrest hz4 hl hrr
  go_enter Tryz.func44, Tryz.ntmps44
  go_upto_region 1 with (fail)
  rw [HSS.out, HW.out]
  have NO := Lib.hid (show (nm.data.toList = [] ∨ ¬ (0 ≤ x.topic ∧ x.topic ≤ 2147483647)) → r = none from fun h => by
    rw [← HRR.out]
    unfold rfT
    by_cases h1 : nm.data.toList = []
    · rw [if_pos h1]
    · rw [if_neg h1]
      rcases h with h | h
      · exact absurd h h1
      · unfold Sc.fit
        rw [decide_eq_false h]
        rfl)
  cases ne with
  | true =>
    have h := NO.out (.inl (of_decide_eq_true HNE.out))
    subst h
    go_wp2_with fail
    simp [bodyPost, results, Tryz.results44, go_sem]
    exact ⟨rfl, HB.out⟩
  | false =>
    by_cases t1 : x.topic < 0
    · have h := NO.out (.inr (by omega))
      subst h
      go_wp2_with fail
      simp [bodyPost, results, Tryz.results44, go_sem]
      exact ⟨rfl, HB.out⟩
    by_cases t2 : 2147483647 < x.topic
    · have h := NO.out (.inr (by omega))
      subst h
      go_wp2_with fail
      simp [bodyPost, results, Tryz.results44, go_sem]
      exact ⟨rfl, HB.out⟩
    go_upto_region 3 with (fail)
    go_cut [69] from 22 (fun s69 wx => s69 = .bool (!Sc.rest L x) ∧ wx = W)
    case first =>
      go_wp2_with fail
      refine (KH0.out W).mono ?_
      rintro e w' ⟨rfl, hw⟩
      subst w'
      cases b0 with
      | true =>
        go_wp2_with fail
        refine (KH1.out W).mono ?_
        rintro e w' ⟨rfl, hw⟩
        subst w'
        cases b1 with
        | true =>
          go_wp2_with fail
          refine (KH2.out W).mono ?_
          rintro e w' ⟨rfl, hw⟩
          subst w'
          cases b2 with
          | true =>
            go_wp2_with fail
            refine (KH3.out W).mono ?_
            rintro e w' ⟨rfl, hw⟩
            subst w'
            cases b3 with
            | true =>
              go_wp2_with fail
              refine (KH4.out W).mono ?_
              rintro e w' ⟨rfl, hw⟩
              subst w'
              cases b4 with
              | true =>
                go_wp2_with fail
                go_meet
                exact ⟨by rw [HREST.out]; rfl, rfl⟩
              | false =>
                cases z4 with
                | true =>
                  go_wp2_with fail
                  go_meet
                  exact ⟨by rw [HREST.out]; rfl, rfl⟩
                | false =>
                  go_wp2_with fail
                  go_meet
                  exact ⟨by rw [HREST.out]; rfl, rfl⟩
            | false =>
              cases z3 with
              | true =>
                go_wp2_with fail
                go_meet
                exact ⟨by rw [HREST.out]; rfl, rfl⟩
              | false =>
                go_wp2_with fail
                refine (KH4.out W).mono ?_
                rintro e w' ⟨rfl, hw⟩
                subst w'
                cases b4 with
                | true =>
                  go_wp2_with fail
                  go_meet
                  exact ⟨by rw [HREST.out]; rfl, rfl⟩
                | false =>
                  cases z4 with
                  | true =>
                    go_wp2_with fail
                    go_meet
                    exact ⟨by rw [HREST.out]; rfl, rfl⟩
                  | false =>
                    go_wp2_with fail
                    go_meet
                    exact ⟨by rw [HREST.out]; rfl, rfl⟩
          | false =>
            cases z2 with
            | true =>
              go_wp2_with fail
              go_meet
              exact ⟨by rw [HREST.out]; rfl, rfl⟩
            | false =>
              go_wp2_with fail
              refine (KH3.out W).mono ?_
              rintro e w' ⟨rfl, hw⟩
              subst w'
              cases b3 with
              | true =>
                go_wp2_with fail
                refine (KH4.out W).mono ?_
                rintro e w' ⟨rfl, hw⟩
                subst w'
                cases b4 with
                | true =>
                  go_wp2_with fail
                  go_meet
                  exact ⟨by rw [HREST.out]; rfl, rfl⟩
                | false =>
                  cases z4 with
                  | true =>
                    go_wp2_with fail
                    go_meet
                    exact ⟨by rw [HREST.out]; rfl, rfl⟩
                  | false =>
                    go_wp2_with fail
                    go_meet
                    exact ⟨by rw [HREST.out]; rfl, rfl⟩
              | false =>
                cases z3 with
                | true =>
                  go_wp2_with fail
                  go_meet
                  exact ⟨by rw [HREST.out]; rfl, rfl⟩
                | false =>
                  go_wp2_with fail
                  refine (KH4.out W).mono ?_
                  rintro e w' ⟨rfl, hw⟩
                  subst w'
                  cases b4 with
                  | true =>
                    go_wp2_with fail
                    go_meet
                    exact ⟨by rw [HREST.out]; rfl, rfl⟩
                  | false =>
                    cases z4 with
                    | true =>
                      go_wp2_with fail
                      go_meet
                      exact ⟨by rw [HREST.out]; rfl, rfl⟩
                    | false =>
                      go_wp2_with fail
                      go_meet
                      exact ⟨by rw [HREST.out]; rfl, rfl⟩
        | false =>
          cases z1 with
          | true =>
            go_wp2_with fail
            go_meet
            exact ⟨by rw [HREST.out]; rfl, rfl⟩
          | false =>
            go_wp2_with fail
            refine (KH2.out W).mono ?_
            rintro e w' ⟨rfl, hw⟩
            subst w'
            cases b2 with
            | true =>
              go_wp2_with fail
              refine (KH3.out W).mono ?_
              rintro e w' ⟨rfl, hw⟩
              subst w'
              cases b3 with
              | true =>
                go_wp2_with fail
                refine (KH4.out W).mono ?_
                rintro e w' ⟨rfl, hw⟩
                subst w'
                cases b4 with
                | true =>
                  go_wp2_with fail
                  go_meet
                  exact ⟨by rw [HREST.out]; rfl, rfl⟩
                | false =>
                  cases z4 with
                  | true =>
                    go_wp2_with fail
                    go_meet
                    exact ⟨by rw [HREST.out]; rfl, rfl⟩
                  | false =>
                    go_wp2_with fail
                    go_meet
                    exact ⟨by rw [HREST.out]; rfl, rfl⟩
              | false =>
                cases z3 with
                | true =>
                  go_wp2_with fail
                  go_meet
                  exact ⟨by rw [HREST.out]; rfl, rfl⟩
                | false =>
                  go_wp2_with fail
                  refine (KH4.out W).mono ?_
                  rintro e w' ⟨rfl, hw⟩
                  subst w'
                  cases b4 with
                  | true =>
                    go_wp2_with fail
                    go_meet
                    exact ⟨by rw [HREST.out]; rfl, rfl⟩
                  | false =>
                    cases z4 with
                    | true =>
                      go_wp2_with fail
                      go_meet
                      exact ⟨by rw [HREST.out]; rfl, rfl⟩
                    | false =>
                      go_wp2_with fail
                      go_meet
                      exact ⟨by rw [HREST.out]; rfl, rfl⟩
            | false =>
              cases z2 with
              | true =>
                go_wp2_with fail
                go_meet
                exact ⟨by rw [HREST.out]; rfl, rfl⟩
              | false =>
                go_wp2_with fail
                refine (KH3.out W).mono ?_
                rintro e w' ⟨rfl, hw⟩
                subst w'
                cases b3 with
                | true =>
                  go_wp2_with fail
                  refine (KH4.out W).mono ?_
                  rintro e w' ⟨rfl, hw⟩
                  subst w'
                  cases b4 with
                  | true =>
                    go_wp2_with fail
                    go_meet
                    exact ⟨by rw [HREST.out]; rfl, rfl⟩
                  | false =>
                    cases z4 with
                    | true =>
                      go_wp2_with fail
                      go_meet
                      exact ⟨by rw [HREST.out]; rfl, rfl⟩
                    | false =>
                      go_wp2_with fail
                      go_meet
                      exact ⟨by rw [HREST.out]; rfl, rfl⟩
                | false =>
                  cases z3 with
                  | true =>
                    go_wp2_with fail
                    go_meet
                    exact ⟨by rw [HREST.out]; rfl, rfl⟩
                  | false =>
                    go_wp2_with fail
                    refine (KH4.out W).mono ?_
                    rintro e w' ⟨rfl, hw⟩
                    subst w'
                    cases b4 with
                    | true =>
                      go_wp2_with fail
                      go_meet
                      exact ⟨by rw [HREST.out]; rfl, rfl⟩
                    | false =>
                      cases z4 with
                      | true =>
                        go_wp2_with fail
                        go_meet
                        exact ⟨by rw [HREST.out]; rfl, rfl⟩
                      | false =>
                        go_wp2_with fail
                        go_meet
                        exact ⟨by rw [HREST.out]; rfl, rfl⟩
      | false =>
        cases z0 with
        | true =>
          go_wp2_with fail
          go_meet
          exact ⟨by rw [HREST.out]; rfl, rfl⟩
        | false =>
          go_wp2_with fail
          refine (KH1.out W).mono ?_
          rintro e w' ⟨rfl, hw⟩
          subst w'
          cases b1 with
          | true =>
            go_wp2_with fail
            refine (KH2.out W).mono ?_
            rintro e w' ⟨rfl, hw⟩
            subst w'
            cases b2 with
            | true =>
              go_wp2_with fail
              refine (KH3.out W).mono ?_
              rintro e w' ⟨rfl, hw⟩
              subst w'
              cases b3 with
              | true =>
                go_wp2_with fail
                refine (KH4.out W).mono ?_
                rintro e w' ⟨rfl, hw⟩
                subst w'
                cases b4 with
                | true =>
                  go_wp2_with fail
                  go_meet
                  exact ⟨by rw [HREST.out]; rfl, rfl⟩
                | false =>
                  cases z4 with
                  | true =>
                    go_wp2_with fail
                    go_meet
                    exact ⟨by rw [HREST.out]; rfl, rfl⟩
                  | false =>
                    go_wp2_with fail
                    go_meet
                    exact ⟨by rw [HREST.out]; rfl, rfl⟩
              | false =>
                cases z3 with
                | true =>
                  go_wp2_with fail
                  go_meet
                  exact ⟨by rw [HREST.out]; rfl, rfl⟩
                | false =>
                  go_wp2_with fail
                  refine (KH4.out W).mono ?_
                  rintro e w' ⟨rfl, hw⟩
                  subst w'
                  cases b4 with
                  | true =>
                    go_wp2_with fail
                    go_meet
                    exact ⟨by rw [HREST.out]; rfl, rfl⟩
                  | false =>
                    cases z4 with
                    | true =>
                      go_wp2_with fail
                      go_meet
                      exact ⟨by rw [HREST.out]; rfl, rfl⟩
                    | false =>
                      go_wp2_with fail
                      go_meet
                      exact ⟨by rw [HREST.out]; rfl, rfl⟩
            | false =>
              cases z2 with
              | true =>
                go_wp2_with fail
                go_meet
                exact ⟨by rw [HREST.out]; rfl, rfl⟩
              | false =>
                go_wp2_with fail
                refine (KH3.out W).mono ?_
                rintro e w' ⟨rfl, hw⟩
                subst w'
                cases b3 with
                | true =>
                  go_wp2_with fail
                  refine (KH4.out W).mono ?_
                  rintro e w' ⟨rfl, hw⟩
                  subst w'
                  cases b4 with
                  | true =>
                    go_wp2_with fail
                    go_meet
                    exact ⟨by rw [HREST.out]; rfl, rfl⟩
                  | false =>
                    cases z4 with
                    | true =>
                      go_wp2_with fail
                      go_meet
                      exact ⟨by rw [HREST.out]; rfl, rfl⟩
                    | false =>
                      go_wp2_with fail
                      go_meet
                      exact ⟨by rw [HREST.out]; rfl, rfl⟩
                | false =>
                  cases z3 with
                  | true =>
                    go_wp2_with fail
                    go_meet
                    exact ⟨by rw [HREST.out]; rfl, rfl⟩
                  | false =>
                    go_wp2_with fail
                    refine (KH4.out W).mono ?_
                    rintro e w' ⟨rfl, hw⟩
                    subst w'
                    cases b4 with
                    | true =>
                      go_wp2_with fail
                      go_meet
                      exact ⟨by rw [HREST.out]; rfl, rfl⟩
                    | false =>
                      cases z4 with
                      | true =>
                        go_wp2_with fail
                        go_meet
                        exact ⟨by rw [HREST.out]; rfl, rfl⟩
                      | false =>
                        go_wp2_with fail
                        go_meet
                        exact ⟨by rw [HREST.out]; rfl, rfl⟩
          | false =>
            cases z1 with
            | true =>
              go_wp2_with fail
              go_meet
              exact ⟨by rw [HREST.out]; rfl, rfl⟩
            | false =>
              go_wp2_with fail
              refine (KH2.out W).mono ?_
              rintro e w' ⟨rfl, hw⟩
              subst w'
              cases b2 with
              | true =>
                go_wp2_with fail
                refine (KH3.out W).mono ?_
                rintro e w' ⟨rfl, hw⟩
                subst w'
                cases b3 with
                | true =>
                  go_wp2_with fail
                  refine (KH4.out W).mono ?_
                  rintro e w' ⟨rfl, hw⟩
                  subst w'
                  cases b4 with
                  | true =>
                    go_wp2_with fail
                    go_meet
                    exact ⟨by rw [HREST.out]; rfl, rfl⟩
                  | false =>
                    cases z4 with
                    | true =>
                      go_wp2_with fail
                      go_meet
                      exact ⟨by rw [HREST.out]; rfl, rfl⟩
                    | false =>
                      go_wp2_with fail
                      go_meet
                      exact ⟨by rw [HREST.out]; rfl, rfl⟩
                | false =>
                  cases z3 with
                  | true =>
                    go_wp2_with fail
                    go_meet
                    exact ⟨by rw [HREST.out]; rfl, rfl⟩
                  | false =>
                    go_wp2_with fail
                    refine (KH4.out W).mono ?_
                    rintro e w' ⟨rfl, hw⟩
                    subst w'
                    cases b4 with
                    | true =>
                      go_wp2_with fail
                      go_meet
                      exact ⟨by rw [HREST.out]; rfl, rfl⟩
                    | false =>
                      cases z4 with
                      | true =>
                        go_wp2_with fail
                        go_meet
                        exact ⟨by rw [HREST.out]; rfl, rfl⟩
                      | false =>
                        go_wp2_with fail
                        go_meet
                        exact ⟨by rw [HREST.out]; rfl, rfl⟩
              | false =>
                cases z2 with
                | true =>
                  go_wp2_with fail
                  go_meet
                  exact ⟨by rw [HREST.out]; rfl, rfl⟩
                | false =>
                  go_wp2_with fail
                  refine (KH3.out W).mono ?_
                  rintro e w' ⟨rfl, hw⟩
                  subst w'
                  cases b3 with
                  | true =>
                    go_wp2_with fail
                    refine (KH4.out W).mono ?_
                    rintro e w' ⟨rfl, hw⟩
                    subst w'
                    cases b4 with
                    | true =>
                      go_wp2_with fail
                      go_meet
                      exact ⟨by rw [HREST.out]; rfl, rfl⟩
                    | false =>
                      cases z4 with
                      | true =>
                        go_wp2_with fail
                        go_meet
                        exact ⟨by rw [HREST.out]; rfl, rfl⟩
                      | false =>
                        go_wp2_with fail
                        go_meet
                        exact ⟨by rw [HREST.out]; rfl, rfl⟩
                  | false =>
                    cases z3 with
                    | true =>
                      go_wp2_with fail
                      go_meet
                      exact ⟨by rw [HREST.out]; rfl, rfl⟩
                    | false =>
                      go_wp2_with fail
                      refine (KH4.out W).mono ?_
                      rintro e w' ⟨rfl, hw⟩
                      subst w'
                      cases b4 with
                      | true =>
                        go_wp2_with fail
                        go_meet
                        exact ⟨by rw [HREST.out]; rfl, rfl⟩
                      | false =>
                        cases z4 with
                        | true =>
                          go_wp2_with fail
                          go_meet
                          exact ⟨by rw [HREST.out]; rfl, rfl⟩
                        | false =>
                          go_wp2_with fail
                          go_meet
                          exact ⟨by rw [HREST.out]; rfl, rfl⟩
    case rest =>
      obtain ⟨rfl, hw⟩ := hcut
      have hw2 := hw.symm
      subst hw2
      clear hw
      obtain ⟨rs, hrs⟩ : ∃ z, Sc.rest L x = z := ⟨_, rfl⟩
      have HFT := Lib.hid (show rfT nm.data.toList L x = if rs = true then some (nm.data.toList ++ Sc.told L x) else none by
        unfold rfT Sc.fit
        rw [if_neg (of_decide_eq_false HNE.out), decide_eq_true (by omega : 0 ≤ x.topic ∧ x.topic ≤ 2147483647), hrs, Bool.true_and])
      rw [hrs]
      clear hrs
      cases rs with
      | false =>
        have h : r = none := by rw [← HRR.out, HFT.out]; rfl
        subst h
        go_wp2_with fail
        simp [bodyPost, results, Tryz.results44, go_sem]
        exact ⟨rfl, HB.out⟩
      | true =>
        have HRS := Lib.hid (show r = some (nm.data.toList ++ Sc.told L x) by rw [← HRR.out, HFT.out]; rfl)
        obtain ⟨tn, htn⟩ : ∃ tn : Nat, x.topic = (tn : Int) := ⟨x.topic.toNat, by omega⟩
        obtain ⟨N, hN⟩ : ∃ z, ps.size = z := ⟨_, rfl⟩
        have HLN := Lib.hid (show L.length = N by rw [← HL.out, ← hN]; simp)
        have HNN := Lib.hid hN
        clear KH0 KH1 KH2 KH3 KH4
        go_wp2_with fail
        go_loopw [8, 9] (fun v i wr => ∃ (j : Nat) (sb : ByteArray), j ≤ N ∧ i = .int .i64 j ∧ v = .string sb ∧ sb.data.toList = nm.data.toList ++ Sc.told (L.take j) x ∧ Below W.heap.size W wr) (fun _ i _ => N - (intOf i).toNat)
        case atStart => exact ⟨0, nm, Nat.zero_le _, rfl, rfl, by rw [List.take_zero]; simp [Sc.told], Below.refl _ _⟩
        case round =>
          obtain ⟨j, sb, hj, rfl, rfl, hsb, hbw⟩ := hrel
          have HSB := Lib.hid hsb
          have HBW := Lib.hid hbw
          have cr : ∀ m v, W.cell? ⟨S, m, none⟩ = some v → wr.cell? ⟨S, m, none⟩ = some v := fun m v h => cell_below hbw h
          have d0 := cr 0 _ c0
          have d1 := cr 1 _ c1
          have d2 := cr 2 _ c2
          have d3 := cr 3 _ c3
          have d4 := cr 4 _ c4
          have sbz : sb.size ≤ 100000 := by
            have h1 := told_short x HXL.out ⟨HX.out, by omega⟩ (L.take j)
            have h2 : sb.data.toList.length = sb.size := by simp
            have h3 := HXL.out
            have h4 : nm.data.toList.length = nm.size := by simp
            have h5 : (L.take j).length * (3 * x.bytes.length + 101) ≤ 3 * (3 * x.bytes.length + 101) := Nat.mul_le_mul_right _ (by rw [List.length_take, HLN.out]; have := HNN.out; omega)
            rw [hsb, List.length_append] at h2
            omega
          rw [htn] at d3
          clear hsb hbw cr c0 c1 c2 c3 c4
          by_cases hlt : j < N
          · have hI : (j : Int) < (N : Int) := by omega
            have hjL : j < L.length := by rw [HLN.out]; exact hlt
            have hixx : ∀ c : UInt8, L[j] = c → ∀ W, (Instr.index 9 (.string ps) (.int .i64 (j : Int))).run Tryz.prog W = .ok (.int .u8 (c.toNat : Int)) W := fun c hc W => by
              have hjs : j < ps.size := by rw [HNN.out]; exact hlt
              have h1 := dec_index_at0 ps W j hjs
              have h2 : ps[j]'hjs = c := by
                have h3 : ps.data.toList[j]? = some c := by rw [HL.out, List.getElem?_eq_getElem hjL, hc]
                rw [Array.getElem?_toList] at h3
                obtain ⟨h4, h5⟩ := Array.getElem?_eq_some_iff.1 h3
                exact h5
              rw [h2] at h1
              exact h1
            rcases HPS.out L[j] (by rw [HL.out]; exact List.getElem_mem hjL) with hp | hp | hp | hp | hp
            · have hcd : L[j] = 78 := hp
              have KT := Lib.hid (ref_text x.n HX.out.2.1 wr)
              obtain ⟨tb, htb⟩ : ∃ z : ByteArray, (⟨(Dp.digs 10 x.n).toArray⟩ : ByteArray) = z := ⟨_, rfl⟩
              rw [htb] at KT
              have htl : Sc.tell x 78 = tb.data.toList := by rw [← htb]; rfl
              have HS2 := Lib.hid (show ∀ sb2 : ByteArray, sb2.data.toList = sb.data.toList ++ 32 :: Sc.tell x 78 → sb2.data.toList = nm.data.toList ++ Sc.told (L.take (j + 1)) x from fun sb2 h => by
                rw [h, HSB.out, told_take x L j hjL, List.append_assoc, List.getD_eq_getElem?_getD, List.getElem?_eq_getElem hjL]
                show _ = _ ++ (_ ++ 32 :: Sc.tell x L[j])
                rw [hcd])
              have tbz : tb.size ≤ 100000 := by
                have h1 := tell_short (x := x) 78 HXL.out ⟨HX.out, by omega⟩
                have h2 : tb.data.toList.length = tb.size := by simp
                have h3 := HXL.out
                rw [htl] at h1
                (try simp only [List.length_cons] at h1)
                omega
              have HTL := Lib.hid htl
              have hix := hixx 78 hcd
              clear hcd htl htb hp hixx hjL
              go_wp2_with fail
              refine KT.out.mono ?_
              rintro e w2 ⟨rfl, hw⟩
              subst w2
              have HB2 := Lib.hid HBW.out
              go_wp2_with fail
              go_roundw
              case rel => exact ⟨j + 1, _, hlt, by go_num, rfl, HS2.out _ (by rw [HTL.out]; simp), HB2.out⟩
              case measure => simp [intOf]; omega
            · have hcd : L[j] = 68 := hp
              have KT := Lib.hid (ref_text x.draw HX.out.2.2 wr)
              obtain ⟨tb, htb⟩ : ∃ z : ByteArray, (⟨(Dp.digs 10 x.draw).toArray⟩ : ByteArray) = z := ⟨_, rfl⟩
              rw [htb] at KT
              have htl : Sc.tell x 68 = tb.data.toList := by rw [← htb]; rfl
              have HS2 := Lib.hid (show ∀ sb2 : ByteArray, sb2.data.toList = sb.data.toList ++ 32 :: Sc.tell x 68 → sb2.data.toList = nm.data.toList ++ Sc.told (L.take (j + 1)) x from fun sb2 h => by
                rw [h, HSB.out, told_take x L j hjL, List.append_assoc, List.getD_eq_getElem?_getD, List.getElem?_eq_getElem hjL]
                show _ = _ ++ (_ ++ 32 :: Sc.tell x L[j])
                rw [hcd])
              have tbz : tb.size ≤ 100000 := by
                have h1 := tell_short (x := x) 68 HXL.out ⟨HX.out, by omega⟩
                have h2 : tb.data.toList.length = tb.size := by simp
                have h3 := HXL.out
                rw [htl] at h1
                (try simp only [List.length_cons] at h1)
                omega
              have HTL := Lib.hid htl
              have hix := hixx 68 hcd
              clear hcd htl htb hp hixx hjL
              go_wp2_with fail
              refine KT.out.mono ?_
              rintro e w2 ⟨rfl, hw⟩
              subst w2
              have HB2 := Lib.hid HBW.out
              go_wp2_with fail
              go_roundw
              case rel => exact ⟨j + 1, _, hlt, by go_num, rfl, HS2.out _ (by rw [HTL.out]; simp), HB2.out⟩
              case measure => simp [intOf]; omega
            · have hcd : L[j] = 67 := hp
              have KT := Lib.hid (ref_text x.conn HX.out.1 wr)
              obtain ⟨tb, htb⟩ : ∃ z : ByteArray, (⟨(Dp.digs 10 x.conn).toArray⟩ : ByteArray) = z := ⟨_, rfl⟩
              rw [htb] at KT
              have htl : Sc.tell x 67 = tb.data.toList := by rw [← htb]; rfl
              have HS2 := Lib.hid (show ∀ sb2 : ByteArray, sb2.data.toList = sb.data.toList ++ 32 :: Sc.tell x 67 → sb2.data.toList = nm.data.toList ++ Sc.told (L.take (j + 1)) x from fun sb2 h => by
                rw [h, HSB.out, told_take x L j hjL, List.append_assoc, List.getD_eq_getElem?_getD, List.getElem?_eq_getElem hjL]
                show _ = _ ++ (_ ++ 32 :: Sc.tell x L[j])
                rw [hcd])
              have tbz : tb.size ≤ 100000 := by
                have h1 := tell_short (x := x) 67 HXL.out ⟨HX.out, by omega⟩
                have h2 : tb.data.toList.length = tb.size := by simp
                have h3 := HXL.out
                rw [htl] at h1
                (try simp only [List.length_cons] at h1)
                omega
              have HTL := Lib.hid htl
              have hix := hixx 67 hcd
              clear hcd htl htb hp hixx hjL
              go_wp2_with fail
              refine KT.out.mono ?_
              rintro e w2 ⟨rfl, hw⟩
              subst w2
              have HB2 := Lib.hid HBW.out
              go_wp2_with fail
              go_roundw
              case rel => exact ⟨j + 1, _, hlt, by go_num, rfl, HS2.out _ (by rw [HTL.out]; simp), HB2.out⟩
              case measure => simp [intOf]; omega
            · have hcd : L[j] = 84 := hp
              have KT := Lib.hid (ref_text tn (by omega) wr)
              obtain ⟨tb, htb⟩ : ∃ z : ByteArray, (⟨(Dp.digs 10 tn).toArray⟩ : ByteArray) = z := ⟨_, rfl⟩
              rw [htb] at KT
              have htl : Sc.tell x 84 = tb.data.toList := by
                rw [← htb]
                show Dp.digs 10 x.topic.toNat = _
                rw [htn]; rfl
              have HS2 := Lib.hid (show ∀ sb2 : ByteArray, sb2.data.toList = sb.data.toList ++ 32 :: Sc.tell x 84 → sb2.data.toList = nm.data.toList ++ Sc.told (L.take (j + 1)) x from fun sb2 h => by
                rw [h, HSB.out, told_take x L j hjL, List.append_assoc, List.getD_eq_getElem?_getD, List.getElem?_eq_getElem hjL]
                show _ = _ ++ (_ ++ 32 :: Sc.tell x L[j])
                rw [hcd])
              have tbz : tb.size ≤ 100000 := by
                have h1 := tell_short (x := x) 84 HXL.out ⟨HX.out, by omega⟩
                have h2 : tb.data.toList.length = tb.size := by simp
                have h3 := HXL.out
                rw [htl] at h1
                (try simp only [List.length_cons] at h1)
                omega
              have HTL := Lib.hid htl
              have hix := hixx 84 hcd
              clear hcd htl htb hp hixx hjL
              go_wp2_with fail
              refine KT.out.mono ?_
              rintro e w2 ⟨rfl, hw⟩
              subst w2
              have HB2 := Lib.hid HBW.out
              go_wp2_with fail
              go_roundw
              case rel => exact ⟨j + 1, _, hlt, by go_num, rfl, HS2.out _ (by rw [HTL.out]; simp), HB2.out⟩
              case measure => simp [intOf]; omega
            · have hcd : L[j] = 66 := hp
              have KT := Lib.hid (ref_Encode xb wr HXS.out)
              obtain ⟨tb, htb⟩ : ∃ z : ByteArray, (⟨(Gt.enc xb.data.toList).toArray⟩ : ByteArray) = z := ⟨_, rfl⟩
              rw [htb] at KT
              have htl : Sc.tell x 66 = 61 :: tb.data.toList := by rw [← htb, HXB.out]; rfl
              have HS2 := Lib.hid (show ∀ sb2 : ByteArray, sb2.data.toList = sb.data.toList ++ 32 :: Sc.tell x 66 → sb2.data.toList = nm.data.toList ++ Sc.told (L.take (j + 1)) x from fun sb2 h => by
                rw [h, HSB.out, told_take x L j hjL, List.append_assoc, List.getD_eq_getElem?_getD, List.getElem?_eq_getElem hjL]
                show _ = _ ++ (_ ++ 32 :: Sc.tell x L[j])
                rw [hcd])
              have tbz : tb.size ≤ 100000 := by
                have h1 := tell_short (x := x) 66 HXL.out ⟨HX.out, by omega⟩
                have h2 : tb.data.toList.length = tb.size := by simp
                have h3 := HXL.out
                rw [htl] at h1
                (try simp only [List.length_cons] at h1)
                omega
              have HTL := Lib.hid htl
              have hix := hixx 66 hcd
              clear hcd htl htb hp hixx hjL
              go_wp2_with fail
              refine KT.out.mono ?_
              rintro e w2 ⟨rfl, hw⟩
              have HB2 := Lib.hid (HBW.out.trans (hw.mono HBW.out.size))
              clear hw
              go_wp2_with fail
              go_roundw
              case rel => exact ⟨j + 1, _, hlt, by go_num, rfl, HS2.out _ (by rw [HTL.out]; simp), HB2.out⟩
              case measure => simp [intOf]; omega
          · have hI : ¬ (j : Int) < (N : Int) := by omega
            have HE := Lib.hid (show (⟨(nm.data.toList ++ Sc.told L x).toArray⟩ : ByteArray) = sb by
              have h := HSB.out
              rw [List.take_of_length_le (by rw [HLN.out]; omega)] at h
              rw [← h, ba_eta])
            go_wp2_with fail
            simp [bodyPost, results, Tryz.results44, go_sem]
            rw [HRS.out]
            unfold rfTO
            simp only
            rw [HE.out]
            exact ⟨rfl, HB.out.trans (HBW.out.mono HB.out.size)⟩
end Go.Proofs.YtbaakfcbakpmpaaGreatDoor

/- script: the reference's Text and OutText. No conditions but those that each law states. Printed by genUb.py. -/
namespace Go.Proofs.YtbaakfcbakpmpaaGreatDoor
set_option linter.unusedVariables false
set_option linter.unusedSimpArgs false
open Go.RowKit Go.Shelf
set_option maxHeartbeats 8000000
set_option maxRecDepth 100000
theorem shP_facts {T : Sc.Shapes} (hT : T = Sc.stepT ∨ T = Sc.outT) (k : Int) : (∀ p ∈ shP T k, Sc.isP p) ∧ (shP T k).length ≤ 3 ∧ (shN T k).length ≤ 10 := by
  unfold shP shN
  cases hs : Sc.shape T k with
  | none => exact ⟨fun p hp => absurd hp List.not_mem_nil, by decide, by decide⟩
  | some e =>
    obtain ⟨nm, ps⟩ := e
    obtain ⟨h1, h2⟩ := shape_short hT hs
    refine ⟨fun p hp => ?_, h2, h1⟩
    unfold Sc.shape at hs
    cases hf : T.find? (fun e => e.1 == k) with
    | none => rw [hf] at hs; cases hs
    | some e =>
      rw [hf] at hs
      have hm := List.mem_of_find?_eq_some hf
      obtain ⟨k', nm', ps'⟩ := e
      cases hs
      have hall : (T.all fun e => e.2.2.all fun p => p == 78 || p == 68 || p == 67 || p == 84 || p == 66) = true := by rcases hT with rfl | rfl <;> decide
      have h3 := List.all_eq_true.1 (List.all_eq_true.1 hall _ hm) p hp
      unfold Sc.isP
      simp only [Bool.or_eq_true, beq_iff_eq] at h3
      rcases h3 with (((h | h) | h) | h) | h <;> simp [h]
theorem rf_Text (x : Sc.St) (u : Value) (w : World) (hu : BRow w u x.bytes) (hl : x.bytes.length ≤ 10000) (hx : x.ok) :
    Calls Tryz.prog 14 #[stVal x u] w fun e w' => e = .returned (txtOut (Sc.line Sc.stepT x.kind x)) ∧ Below w.heap.size w w' := by
  obtain ⟨p, c, rfl, _⟩ := id hu
  obtain ⟨N, hN⟩ : ∃ z, x.bytes.length = z := ⟨_, rfl⟩
  rw [hN] at hu ⊢
  obtain ⟨S, hS⟩ : ∃ z, w.heap.size = z := ⟨_, rfl⟩
  obtain ⟨W, hW⟩ : ∃ z, w.alloc (.cells #[.int .i64 x.kind, .int .u64 (x.conn : Int), .int .i64 x.topic, .int .u64 (x.n : Int), .int .u64 (x.draw : Int), .slice p N c] 26) = z := ⟨_, rfl⟩
  have hb : Below w.heap.size w W := by rw [← hW]; exact (Below.refl _ _).alloc (Nat.le_refl _) _
  have hr : W.heap[S]? = some (stObj x (.slice p N c)) := by rw [← hW, ← hS]; exact World.alloc_heap_new _ _
  obtain ⟨c0, c1, c2, c3, c4, c5, _⟩ := SR.of hr
  obtain ⟨r, hrr⟩ : ∃ z, Sc.line Sc.stepT x.kind x = z := ⟨_, rfl⟩
  rw [hrr]
  obtain ⟨f1, f2, f3⟩ := shP_facts (T := Sc.stepT) (.inl rfl) (x.kind)
  have hline := (rfT_line Sc.stepT (x.kind) x (.inl rfl)).trans hrr
  have KS := rf_Shape (x.kind) W
  obtain ⟨nm, hnm⟩ : ∃ z : ByteArray, (⟨(shN Sc.stepT (x.kind)).toArray⟩ : ByteArray) = z := ⟨_, rfl⟩
  obtain ⟨ps, hps⟩ : ∃ z : ByteArray, (⟨(shP Sc.stepT (x.kind)).toArray⟩ : ByteArray) = z := ⟨_, rfl⟩
  obtain ⟨sb, hsb⟩ : ∃ z : ByteArray, (⟨x.bytes.toArray⟩ : ByteArray) = z := ⟨_, rfl⟩
  have e1 : nm.data.toList = shN Sc.stepT (x.kind) := by rw [← hnm]
  have e2 : ps.data.toList = shP Sc.stepT (x.kind) := by rw [← hps]
  have HSB := Lib.hid (show sb.data.toList = x.bytes by rw [← hsb])
  have s1 : nm.size ≤ 10 := by rw [← hnm]; exact f3
  have s2 : ps.size ≤ 3 := by rw [← hps]; exact f2
  have KT := Lib.hid (fun W' => rf_text nm ps sb x W' HSB.out hx hl (by rw [e2]; exact f1) s2 s1)
  rw [e1, e2, hline] at KT
  have KT := Lib.hid (KT.out)
  have HCV := Lib.hid (fun W' (h : Below W.heap.size W W') => hsb ▸ conv_brow ((hu.below hb).below h))
  have HC := Lib.hid (fun W' (h : Below W.heap.size W W') => (SR.of ((h.block _ (Array.getElem?_eq_some_iff.1 hr).1).trans hr)))
  rw [hnm, hps] at KS
  have KS := Lib.hid KS
  have HB := Lib.hid hb
  have HSS := Lib.hid hS
  have HW := Lib.hid hW
  have HX0 := Lib.hid (trivial)
  clear hu hl hx hN hS hW hb hr hrr f1 f2 f3 hline hnm hps hsb e1 e2 s1 s2
  unfold stVal
  go_enter Tryz.func14, Tryz.ntmps14
  go_upto_region 1 with (fail)
  rw [HSS.out, HW.out]
  go_wp2_with fail
  refine KS.out.mono ?_
  rintro e w2 ⟨rfl, hb2⟩
  have hcv := HCV.out w2 hb2
  obtain ⟨d0, d1, d2, d3, d4, d5, _⟩ := HC.out w2 hb2
  have KT2 := KT.out w2
  have KT2 := Lib.hid KT2
  have HB2 := Lib.hid (HB.out.trans (hb2.mono HB.out.size))
  clear hb2
  go_wp2_with fail
  refine KT2.out.mono ?_
  rintro e w3 ⟨rfl, hb3⟩
  have HB3 := Lib.hid (HB2.out.trans (hb3.mono HB2.out.size))
  clear hb3 hcv
  cases r with
  | none =>
    unfold rfTO
    simp only
    go_wp2_with fail
    simp [bodyPost, results, Tryz.results14, go_sem]
    exact ⟨rfl, HB3.out⟩
  | some l =>
    unfold rfTO
    simp only
    go_wp2_with fail
    simp [bodyPost, results, Tryz.results14, go_sem]
    exact ⟨rfl, HB3.out⟩
theorem rf_OutText (k : Int) (x : Sc.St) (u : Value) (w : World) (hu : BRow w u x.bytes) (hl : x.bytes.length ≤ 10000) (hx : x.ok) (h0 : x.n = 0 ∧ x.draw = 0 ∧ x.kind = 0) :
    Calls Tryz.prog 15 #[otVal k x u] w fun e w' => e = .returned (txtOut (Sc.line Sc.outT k x)) ∧ Below w.heap.size w w' := by
  obtain ⟨p, c, rfl, _⟩ := id hu
  obtain ⟨N, hN⟩ : ∃ z, x.bytes.length = z := ⟨_, rfl⟩
  rw [hN] at hu ⊢
  obtain ⟨S, hS⟩ : ∃ z, w.heap.size = z := ⟨_, rfl⟩
  obtain ⟨W, hW⟩ : ∃ z, w.alloc (.cells #[.int .i64 k, .int .u64 (x.conn : Int), .int .i64 x.topic, .slice p N c] 29) = z := ⟨_, rfl⟩
  have hb : Below w.heap.size w W := by rw [← hW]; exact (Below.refl _ _).alloc (Nat.le_refl _) _
  have hr : W.heap[S]? = some (otObj k x (.slice p N c)) := by rw [← hW, ← hS]; exact World.alloc_heap_new _ _
  obtain ⟨c0, c1, c2, c3, _⟩ := OR.of hr
  obtain ⟨r, hrr⟩ : ∃ z, Sc.line Sc.outT k x = z := ⟨_, rfl⟩
  rw [hrr]
  obtain ⟨f1, f2, f3⟩ := shP_facts (T := Sc.outT) (.inr rfl) (k)
  have hline := (rfT_line Sc.outT (k) x (.inr rfl)).trans hrr
  have KS := rf_OutShape (k) W
  obtain ⟨nm, hnm⟩ : ∃ z : ByteArray, (⟨(shN Sc.outT (k)).toArray⟩ : ByteArray) = z := ⟨_, rfl⟩
  obtain ⟨ps, hps⟩ : ∃ z : ByteArray, (⟨(shP Sc.outT (k)).toArray⟩ : ByteArray) = z := ⟨_, rfl⟩
  obtain ⟨sb, hsb⟩ : ∃ z : ByteArray, (⟨x.bytes.toArray⟩ : ByteArray) = z := ⟨_, rfl⟩
  have e1 : nm.data.toList = shN Sc.outT (k) := by rw [← hnm]
  have e2 : ps.data.toList = shP Sc.outT (k) := by rw [← hps]
  have HSB := Lib.hid (show sb.data.toList = x.bytes by rw [← hsb])
  have s1 : nm.size ≤ 10 := by rw [← hnm]; exact f3
  have s2 : ps.size ≤ 3 := by rw [← hps]; exact f2
  have KT := Lib.hid (fun W' => rf_text nm ps sb x W' HSB.out hx hl (by rw [e2]; exact f1) s2 s1)
  rw [e1, e2, hline] at KT
  have KT := Lib.hid (KT.out)
  have HCV := Lib.hid (fun W' (h : Below W.heap.size W W') => hsb ▸ conv_brow ((hu.below hb).below h))
  have HC := Lib.hid (fun W' (h : Below W.heap.size W W') => (OR.of ((h.block _ (Array.getElem?_eq_some_iff.1 hr).1).trans hr)))
  rw [hnm, hps] at KS
  have KS := Lib.hid KS
  have HB := Lib.hid hb
  have HSS := Lib.hid hS
  have HW := Lib.hid hW
  have HX0 := Lib.hid (h0)
  clear hu hl hx hN hS hW hb hr hrr f1 f2 f3 hline hnm hps hsb e1 e2 s1 s2 h0
  unfold otVal
  go_enter Tryz.func15, Tryz.ntmps15
  go_upto_region 1 with (fail)
  rw [HSS.out, HW.out]
  go_wp2_with fail
  refine KS.out.mono ?_
  rintro e w2 ⟨rfl, hb2⟩
  have hcv := HCV.out w2 hb2
  obtain ⟨d0, d1, d2, d3, _⟩ := HC.out w2 hb2
  have KT2 := KT.out w2
  rw [HX0.out.1, HX0.out.2.1] at KT2
  have KT2 := Lib.hid KT2
  have HB2 := Lib.hid (HB.out.trans (hb2.mono HB.out.size))
  clear hb2
  go_wp2_with fail
  refine KT2.out.mono ?_
  rintro e w3 ⟨rfl, hb3⟩
  have HB3 := Lib.hid (HB2.out.trans (hb3.mono HB2.out.size))
  clear hb3 hcv
  cases r with
  | none =>
    unfold rfTO
    simp only
    go_wp2_with fail
    simp [bodyPost, results, Tryz.results15, go_sem]
    exact ⟨rfl, HB3.out⟩
  | some l =>
    unfold rfTO
    simp only
    go_wp2_with fail
    simp [bodyPost, results, Tryz.results15, go_sem]
    exact ⟨rfl, HB3.out⟩
end Go.Proofs.YtbaakfcbakpmpaaGreatDoor

/- ScriptTexts returns true for any step and any out: the walk. The tables of the library, and its cell of a bound, read as they are laid. -/
namespace Go.Proofs.YtbaakfcbakpmpaaGreatDoor
set_option linter.unusedVariables false
set_option linter.unusedSimpArgs false
open Go.RowKit Go.Shelf
set_option maxHeartbeats 8000000
set_option maxRecDepth 100000
theorem txt_two (o : Option (List UInt8)) : ∃ t n, txtOut o = .tuple #[.string t, .int .i64 n] := by
  cases o with
  | none => exact ⟨_, _, rfl⟩
  | some l => exact ⟨_, _, rfl⟩
theorem walkST (x : Sc.St) (ux : Value) (k : Int) (o : Sc.St) (uo : Value) (w : World) (hx : BRow w ux x.bytes) (hxo : x.ok) (ho : BRow w uo o.bytes) (hoo : o.ok) (h0 : o.n = 0 ∧ o.draw = 0 ∧ o.kind = 0) (hk : KX w) :
    Calls Tryz.prog 3 #[stVal x ux, otVal k o uo] w fun e w' => e = .returned (.bool true) ∧ Below w.heap.size w w' := by
  obtain ⟨px, cx, rfl⟩ : ∃ p c, ux = .slice p x.bytes.length c := by obtain ⟨p, c, h, _⟩ := hx; exact ⟨p, c, h⟩
  obtain ⟨po, co, rfl⟩ : ∃ p c, uo = .slice p o.bytes.length c := by obtain ⟨p, c, h, _⟩ := ho; exact ⟨p, c, h⟩
  obtain ⟨nx, hnx⟩ : ∃ z, x.bytes.length = z := ⟨_, rfl⟩
  obtain ⟨no, hno⟩ : ∃ z, o.bytes.length = z := ⟨_, rfl⟩
  rw [hnx] at hx ⊢
  rw [hno] at ho ⊢
  obtain ⟨B, hB⟩ : ∃ z, w.heap.size = z := ⟨_, rfl⟩
  obtain ⟨W, hW⟩ : ∃ z, (w.alloc (.cells #[.int .i64 x.kind, .int .u64 (x.conn : Int), .int .i64 x.topic, .int .u64 (x.n : Int), .int .u64 (x.draw : Int), .slice px nx cx] 26)).alloc (.cells #[.int .i64 k, .int .u64 (o.conn : Int), .int .i64 o.topic, .slice po no co] 29) = z := ⟨_, rfl⟩
  have hb : Below w.heap.size w W := by rw [← hW]; exact ((Below.refl _ _).alloc (Nat.le_refl _) _).alloc (by simp) _
  have hX : W.heap[B]? = some (stObj x (.slice px nx cx)) := by rw [← hW, Below.heap_alloc _ _ _ (by simp [hB]), ← hB]; exact World.alloc_heap_new _ _
  have hO : W.heap[B + 1]? = some (otObj k o (.slice po no co)) := by
    rw [← hW]
    have h := World.alloc_heap_new (w.alloc (.cells #[.int .i64 x.kind, .int .u64 (x.conn : Int), .int .i64 x.topic, .int .u64 (x.n : Int), .int .u64 (x.draw : Int), .slice px nx cx] 26)) (.cells #[.int .i64 k, .int .u64 (o.conn : Int), .int .i64 o.topic, .slice po no co] 29)
    have h2 : w.heap.size + 1 = B + 1 := by rw [hB]
    rw [World.size_alloc, h2] at h
    exact h
  obtain ⟨x0, x1, x2, x3, x4, x5, _⟩ := SR.of hX
  obtain ⟨o0, o1, o2, o3, _⟩ := OR.of hO
  have HX := Lib.hid hX
  have HO := Lib.hid hO
  have HU := Lib.hid (hx.below hb)
  have HV := Lib.hid (ho.below hb)
  have HB := Lib.hid hb
  have HK := Lib.hid (hk.below hb)
  have HBB := Lib.hid hB
  have HWW := Lib.hid hW
  have HNX := Lib.hid hnx
  have HNO := Lib.hid hno
  have KN := Lib.hid sc_num
  have HXO := Lib.hid hxo
  have HOO := Lib.hid hoo
  have HZO := Lib.hid h0
  clear hxo hoo h0
  clear hX hO hx ho hb hk hB hW hnx hno
  unfold stVal otVal
  go_enter Tryz.func3, Tryz.ntmps3
  go_upto_region 1 with (fail)
  rw [HBB.out, HWW.out]
  by_cases h1 : 200 < nx
  · have q1 : ((200 : Int) < (nx : Int)) := by omega
    go_wp2_with fail
    refine (sc_works W HK.out.tabs HK.out.ml).mono ?_
    rintro e w2 ⟨rfl, hb⟩
    have HB := Lib.hid (HB.out.trans (hb.mono HB.out.size))
    clear hb
    go_wp2_with fail
    go_ret
    exact ⟨rfl, HB.out⟩
  have q1 : ¬ ((200 : Int) < (nx : Int)) := by omega
  by_cases h2 : 200 < no
  · have q2 : ((200 : Int) < (no : Int)) := by omega
    go_wp2_with fail
    refine (sc_works W HK.out.tabs HK.out.ml).mono ?_
    rintro e w2 ⟨rfl, hb⟩
    have HB := Lib.hid (HB.out.trans (hb.mono HB.out.size))
    clear hb
    go_wp2_with fail
    go_ret
    exact ⟨rfl, HB.out⟩
  have q2 : ¬ ((200 : Int) < (no : Int)) := by omega
  go_upto_region 3 with (fail)
  clear x0 x1 x2 x3 x4 x5 o0 o1 o2 o3 q1 q2
  obtain ⟨ta, na, hta⟩ := txt_two (Sc.line Sc.stepT x.kind x)
  obtain ⟨tb, nb, htb⟩ := txt_two (Sc.line Sc.outT k o)
  have HTA := Lib.hid hta
  have HTB := Lib.hid htb
  have e1 : (ta.toList == ta.toList) = true := beq_self_eq_true _
  have e2 : (tb.toList == tb.toList) = true := beq_self_eq_true _
  have e3 : (na == na) = true := beq_self_eq_true _
  have e4 : (nb == nb) = true := beq_self_eq_true _
  clear hta htb
  have K := sc_Text x (.slice px nx cx) W HU.out (by have := HNX.out; omega) HXO.out HK.out.tabs
  rw [HTA.out] at K
  unfold stVal at K
  have K := Lib.hid K
  obtain ⟨x0, x1, x2, x3, x4, x5, _⟩ := SR.of HX.out
  go_wp2_with fail
  refine K.out.mono ?_
  rintro e v0 ⟨rfl, hb⟩
  have HX := Lib.hid ((hb.block _ (Array.getElem?_eq_some_iff.1 HX.out).1).trans HX.out)
  have HO := Lib.hid ((hb.block _ (Array.getElem?_eq_some_iff.1 HO.out).1).trans HO.out)
  have HU := Lib.hid (HU.out.below hb)
  have HV := Lib.hid (HV.out.below hb)
  have HB := Lib.hid (HB.out.trans (hb.mono HB.out.size))
  have HK := Lib.hid (HK.out.below hb)
  clear hb K x0 x1 x2 x3 x4 x5
  have K := sc_OutText k o (.slice po no co) v0 HV.out (by have := HNO.out; omega) HOO.out HK.out.tabs HZO.out
  rw [HTB.out] at K
  unfold otVal at K
  have K := Lib.hid K
  obtain ⟨x0, x1, x2, x3, _⟩ := OR.of HO.out
  go_wp2_with fail
  refine K.out.mono ?_
  rintro e v1 ⟨rfl, hb⟩
  have HX := Lib.hid ((hb.block _ (Array.getElem?_eq_some_iff.1 HX.out).1).trans HX.out)
  have HO := Lib.hid ((hb.block _ (Array.getElem?_eq_some_iff.1 HO.out).1).trans HO.out)
  have HU := Lib.hid (HU.out.below hb)
  have HV := Lib.hid (HV.out.below hb)
  have HB := Lib.hid (HB.out.trans (hb.mono HB.out.size))
  have HK := Lib.hid (HK.out.below hb)
  clear hb K x0 x1 x2 x3
  have K := rf_Text x (.slice px nx cx) v1 HU.out (by have := HNX.out; omega) HXO.out
  rw [HTA.out] at K
  unfold stVal at K
  have K := Lib.hid K
  obtain ⟨x0, x1, x2, x3, x4, x5, _⟩ := SR.of HX.out
  go_wp2_with fail
  refine K.out.mono ?_
  rintro e v2 ⟨rfl, hb⟩
  have HX := Lib.hid ((hb.block _ (Array.getElem?_eq_some_iff.1 HX.out).1).trans HX.out)
  have HO := Lib.hid ((hb.block _ (Array.getElem?_eq_some_iff.1 HO.out).1).trans HO.out)
  have HU := Lib.hid (HU.out.below hb)
  have HV := Lib.hid (HV.out.below hb)
  have HB := Lib.hid (HB.out.trans (hb.mono HB.out.size))
  have HK := Lib.hid (HK.out.below hb)
  clear hb K x0 x1 x2 x3 x4 x5
  have K := rf_OutText k o (.slice po no co) v2 HV.out (by have := HNO.out; omega) HOO.out HZO.out
  rw [HTB.out] at K
  unfold otVal at K
  have K := Lib.hid K
  obtain ⟨x0, x1, x2, x3, _⟩ := OR.of HO.out
  go_wp2_with fail
  refine K.out.mono ?_
  rintro e v3 ⟨rfl, hb⟩
  have HX := Lib.hid ((hb.block _ (Array.getElem?_eq_some_iff.1 HX.out).1).trans HX.out)
  have HO := Lib.hid ((hb.block _ (Array.getElem?_eq_some_iff.1 HO.out).1).trans HO.out)
  have HU := Lib.hid (HU.out.below hb)
  have HV := Lib.hid (HV.out.below hb)
  have HB := Lib.hid (HB.out.trans (hb.mono HB.out.size))
  have HK := Lib.hid (HK.out.below hb)
  clear hb K x0 x1 x2 x3
  have KW := Lib.hid (sc_works v3 HK.out.tabs HK.out.ml)
  go_wp2_with fail
  refine (KN.out _ _).mono ?_
  rintro e w' ⟨rfl, hw⟩
  subst w'
  go_wp2_with fail
  refine (KN.out _ _).mono ?_
  rintro e w' ⟨rfl, hw⟩
  subst w'
  go_wp2_with fail
  refine KW.out.mono ?_
  rintro e w2 ⟨rfl, hb⟩
  have HB := Lib.hid (HB.out.trans (hb.mono HB.out.size))
  clear hb
  go_wp2_with fail
  go_ret
  exact ⟨rfl, HB.out⟩
end Go.Proofs.YtbaakfcbakpmpaaGreatDoor
