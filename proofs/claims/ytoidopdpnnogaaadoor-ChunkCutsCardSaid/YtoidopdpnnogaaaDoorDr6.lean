/- A number's text and its hex, the program's and the reference's, are the digits of the text Dh. Numbers have 64 bits; the two tables of the library read as they are laid. -/
import Derived.Test.YtoidopdpnnogaaaDoorDr5
import Derived.Sort.Grow
import Derived.BigCall
namespace Go.Proofs.YtoidopdpnnogaaaDoor
set_option linter.unusedVariables false
set_option linter.unusedSimpArgs false
open Go.RowKit
open Go.Sort (Holds putRow mapBlock cell?_putRow)
set_option maxHeartbeats 1000000
/-- the tables of the library that number texts read -/
def Tabs (w : World) : Prop := w.cell? ⟨4, 15, none⟩ = some (.int .u8 4) ∧ Lib.TabIs Tryd.prog w "internal/strconv.uint64pow10" .u64 Lib.pow10Tab
theorem tabIs_below {P : Program} {w w' : World} {name : String} {k : IntKind} {zs : List Int} (h : Lib.TabIs P w name k zs) (hb : Below w.heap.size w w') : Lib.TabIs P w' name k zs := by
  unfold Lib.TabIs World.var? at *
  cases hg : P.globalNamed name with
  | none => simp [hg] at h
  | some g =>
    simp only [hg, Option.bind_some] at h ⊢
    have hlt : g < w.heap.size := by
      rcases Nat.lt_or_ge g w.heap.size with h' | h'
      · exact h'
      · rw [Array.getElem?_eq_none h'] at h; simp at h
    rw [hb.block g hlt]
    exact h
theorem Tabs.below {w w' : World} (h : Tabs w) (hb : Below w.heap.size w w') : Tabs w' := ⟨cell_below hb h.1, tabIs_below h.2 hb⟩
theorem below_drewN {B : Nat} {a w : World} (h : Below B a w) (n : Nat) : Below B a (w.drewN n) := ⟨h.os, h.tape, h.output, h.size, h.block⟩
theorem below_putRow {α : Type} [Inhabited α] {enc : α → Value} {B : Nat} {a w : World} (h : Below B a w) (blk off : Nat) (d : Array α) (hB : B ≤ blk) : Below B a (putRow enc w blk off d) := by
  refine h.trans ⟨rfl, rfl, rfl, by simp [putRow, mapBlock], fun k hk => ?_⟩
  simp only [putRow, mapBlock, Array.getElem?_modify]
  rw [if_neg (by omega)]
theorem holds_zero0 (w : World) (T : TypeId) (nd : Nat) (hs : nd ≤ 24) : Holds (fun (b : UInt8) => Value.int .u8 (b.toNat : Int)) (w.alloc (.cells Lib.zeros24 T)) w.heap.size 0 (Array.replicate nd (0 : UInt8)) := fun j hj => by
  have hj' : j < nd := by simpa using hj
  refine ⟨?_, World.frozen?_alloc_new _ _ _ _⟩
  rw [World.cell?_alloc_new, Lib.zeros24_at _ (by omega), getElem!_pos _ j hj]
  simp
theorem len24 : Tryd.prog.arrayLen 197 = 24 := by kernel_rfl
theorem slice24 (W : World) (b k : Nat) (hk : k < 24) : (Instr.sliceAt 197 (.pointer (some ⟨b, 0, none⟩)) none (some (.int .i64 (k : Int))) none).run Tryd.prog W = .ok (.slice (some ⟨b, 0, none⟩) k 24) W := by
  rw [run_sliceAt_array_h W 197 ⟨b, 0, none⟩ (by simp [Program.arrayLen, Program.elem, Tryd.underlying197]) .i64 (k : Int) (by omega) (by rw [len24]; omega)]
  rw [len24]
  have h2 : Tryd.prog.elem 197 = 5 := by kernel_rfl
  simp [go_sem, h2]
set_option maxRecDepth 100000 in
theorem fmt10_small (u : Nat) (w : World) (hu : u < 100) :
    Calls Tryd.prog 123 #[.int .u64 (u : Int), .int .i64 10] w fun e w' => e = .returned (.string ⟨(Dp.digs 10 u).toArray⟩) ∧ Below w.heap.size w w' := by
  have K := Lib.hid (Tryd.internal_strconv_small u hu w)
  go_enter Tryd.func123, Tryd.ntmps123
  go_wp2_with fail
  refine K.out.mono ?_
  rintro e w' ⟨rfl, rfl⟩
  go_wp2
  go_ret
  exact ⟨by rw [← Dp.dec_digs]; rfl, Below.refl _ _⟩
set_option maxRecDepth 100000 in
theorem fmt10_big (u : Nat) (w : World) (hu : u < 18446744073709551616) (h1 : 100 ≤ u) (htab : Lib.TabIs Tryd.prog w "internal/strconv.uint64pow10" .u64 Lib.pow10Tab) :
    Calls Tryd.prog 123 #[.int .u64 (u : Int), .int .i64 10] w fun e w' => e = .returned (.string ⟨(Dp.digs 10 u).toArray⟩) ∧ Below w.heap.size w w' := by
  have hu1 : 1 ≤ u := by omega
  have hnd20 : Lib.nDigits u ≤ 20 := by have := Lib.numDigits_eq u hu1 hu; split at this <;> omega
  have hH0 := holds_zero0 w 197 (Lib.nDigits u) (by omega)
  have hfmt := Tryd.internal_strconv_formatBase10 w.heap.size 0 24 u (Array.replicate (Lib.nDigits u) 0) (w.alloc (.cells Lib.zeros24 197)) hH0 (by rw [Array.size_replicate]; exact Lib.lt_pow_nDigits u) hu (by rw [Array.size_replicate]; omega)
  rw [Array.size_replicate] at hfmt
  have HH0 := Lib.hid hH0
  have HF := Lib.hid hfmt
  have ND := Lib.hid (Tryd.internal_strconv_numDigits u hu1 hu (w.alloc (.cells Lib.zeros24 197)) (Lib.tabIs_alloc htab _))
  have hsl := fun W => slice24 W w.heap.size (Lib.nDigits u) (by omega)
  have iu : (100 : Int) ≤ (u : Int) := by omega
  clear hH0 hfmt htab hu hu1 h1
  go_enter Tryd.func123, Tryd.ntmps123
  go_wp2_with fail
  refine ND.out.mono ?_
  rintro e w' ⟨rfl, rfl⟩
  go_wp2_with fail
  refine HF.out.mono ?_
  rintro e w' ⟨rfl, k, v', dk, rfl, hF⟩
  have hcv : (convert 22 9 (.slice (some ⟨w.heap.size, 0, none⟩) (Lib.nDigits u) 24)).run Tryd.prog ((putRow (fun (b : UInt8) => Value.int .u8 (b.toNat : Int)) (w.alloc (.cells Lib.zeros24 197)) w.heap.size 0 dk).drewN k) = .ok (.string ⟨(Lib.decDigits u).toArray⟩) ((putRow (fun (b : UInt8) => Value.int .u8 (b.toNat : Int)) (w.alloc (.cells Lib.zeros24 197)) w.heap.size 0 dk).drewN k) := by
    have h := run_convert_bytes_back (P := Tryd.prog) ((putRow (fun (b : UInt8) => Value.int .u8 (b.toNat : Int)) (w.alloc (.cells Lib.zeros24 197)) w.heap.size 0 dk).drewN k) 22 9 5 ⟨w.heap.size, 0, none⟩ 24 (Lib.decDigits u) Tryd.underlying22 Tryd.underlying5 Tryd.underlying9 (fun j hj => by
      rw [Lib.row_is_numeral hF j hj, Lib.add_plain, World.cell?_drewN]
      exact cell?_putRow (fun (b : UInt8) => Value.int .u8 (b.toNat : Int)) _ w.heap.size 0 _ dk HH0.out (by rw [hF.size, Array.size_replicate]) j (by rw [hF.size]; rw [Lib.decDigits_length] at hj; exact hj))
    rw [Lib.decDigits_length] at h
    exact h
  go_wp2
  go_ret
  exact ⟨by rw [← Dp.dec_digs]; rfl, below_drewN (below_putRow ((Below.refl _ _).alloc (Nat.le_refl _) _) _ _ _ (Nat.le_refl _)) k⟩
theorem fmt10 (u : Nat) (w : World) (hu : u < 18446744073709551616) (ht : Tabs w) :
    Calls Tryd.prog 123 #[.int .u64 (u : Int), .int .i64 10] w fun e w' => e = .returned (.string ⟨(Dp.digs 10 u).toArray⟩) ∧ Below w.heap.size w w' := by
  by_cases h : u < 100
  · exact fmt10_small u w h
  · exact fmt10_big u w hu (by omega) ht.2
theorem fmt16 (u : Nat) (w : World) (hu : u < 18446744073709551616) (ht : Tabs w) :
    Calls Tryd.prog 123 #[.int .u64 (u : Int), .int .i64 16] w fun e w' => e = .returned (.string ⟨(Dp.digs 16 u).toArray⟩) ∧ Below w.heap.size w w' := by
  have K := Lib.hid (hex_any u w hu ht.1)
  clear ht hu
  go_enter Tryd.func123, Tryd.ntmps123
  go_wp2_with fail
  refine K.out.mono ?_
  rintro e w' ⟨rfl, hb⟩
  go_wp2
  go_ret
  exact ⟨rfl, hb⟩
theorem strconv_fmt (b : Nat) (u : Nat) (w : World) (hb : b = 10 ∨ b = 16) (hu : u < 18446744073709551616) (ht : Tabs w) :
    Calls Tryd.prog 102 #[.int .u64 (u : Int), .int .i64 (b : Int)] w fun e w' => e = .returned (.string ⟨(Dp.digs b u).toArray⟩) ∧ Below w.heap.size w w' := by
  have K : Hid (Calls Tryd.prog 123 #[.int .u64 (u : Int), .int .i64 (b : Int)] w fun e w' => e = .returned (.string ⟨(Dp.digs b u).toArray⟩) ∧ Below w.heap.size w w') := by
    rcases hb with rfl | rfl
    · exact fmt10 u w hu ht
    · exact fmt16 u w hu ht
  clear ht hu hb
  go_enter Tryd.func102, Tryd.ntmps102
  go_wp2_with fail
  refine K.out.mono ?_
  rintro e w' ⟨rfl, hb⟩
  go_wp2
  go_ret
  exact ⟨rfl, hb⟩
theorem dec_text (u : Nat) (w : World) (hu : u < 18446744073709551616) (ht : Tabs w) :
    Calls Tryd.prog 71 #[.int .u64 (u : Int)] w fun e w' => e = .returned (.string ⟨(Dp.digs 10 u).toArray⟩) ∧ Below w.heap.size w w' := by
  have K := Lib.hid (fun W (h : Below w.heap.size w W) => strconv_fmt 10 u W (.inl rfl) hu (ht.below h))
  have i0 := bases_0
  clear ht hu
  go_enter Tryd.func71, Tryd.ntmps71
  go_wp2_with fail
  refine (dec_bases _).mono ?_
  rintro e w1 ⟨rfl, hb⟩
  go_wp2_with fail
  refine (K.out w1 hb).mono ?_
  rintro e w2 ⟨rfl, hb2⟩
  go_wp2
  go_ret
  exact ⟨rfl, hb.trans (hb2.mono hb.size)⟩
theorem dec_hex (u : Nat) (w : World) (hu : u < 18446744073709551616) (ht : Tabs w) :
    Calls Tryd.prog 86 #[.int .u64 (u : Int)] w fun e w' => e = .returned (.string ⟨(Dp.digs 16 u).toArray⟩) ∧ Below w.heap.size w w' := by
  have K := Lib.hid (fun W (h : Below w.heap.size w W) => strconv_fmt 16 u W (.inr rfl) hu (ht.below h))
  have i0 := bases_1
  clear ht hu
  go_enter Tryd.func86, Tryd.ntmps86
  go_wp2_with fail
  refine (dec_bases _).mono ?_
  rintro e w1 ⟨rfl, hb⟩
  go_wp2_with fail
  refine (K.out w1 hb).mono ?_
  rintro e w2 ⟨rfl, hb2⟩
  go_wp2
  go_ret
  exact ⟨rfl, hb.trans (hb2.mono hb.size)⟩
end Go.Proofs.YtoidopdpnnogaaaDoor
