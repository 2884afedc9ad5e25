/- strings.Builder's copyCheck and WriteByte, walked at this program (the shelf's own laws of them cannot be laid here). The builder's row lies at 'base' or above, so that all below but the builder stands. -/
import Derived.Test.YtlefgkiembokeaaDoorTw9
import Derived.Test.YtlefgkiembokeaaDoorTw6
import Derived.Laws.Externs
import Derived.Lib.UnsafeStr
namespace Go.Proofs.YtlefgkiembokeaaDoor
set_option linter.unusedVariables false
set_option linter.unusedSimpArgs false
open Go.RowKit Go.Shelf
set_option maxHeartbeats 2000000
set_option maxRecDepth 100000
/-- below 'base' all but block b stands -/
structure Fr (b base : Nat) (w w' : World) : Prop where
  os : w'.os = w.os
  tape : w'.tape = w.tape
  output : w'.output = w.output
  size : w.heap.size ≤ w'.heap.size
  block : ∀ k, k < base → k ≠ b → w'.heap[k]? = w.heap[k]?
theorem Fr.trans {b base : Nat} {w1 w2 w3 : World} (h : Fr b base w1 w2) (k : Fr b base w2 w3) : Fr b base w1 w3 :=
  ⟨k.os.trans h.os, k.tape.trans h.tape, k.output.trans h.output, Nat.le_trans h.size k.size, fun i hi hb => (k.block i hi hb).trans (h.block i hi hb)⟩
theorem Fr.of {b base : Nat} {w w' : World} (h : Below base w w') : Fr b base w w' := ⟨h.os, h.tape, h.output, h.size, fun k hk _ => h.block k hk⟩
theorem Fr.set (b base i : Nat) (w : World) (v : Value) : Fr b base w (w.setCell ⟨b, i, none⟩ v) := ⟨rfl, rfl, rfl, by simp, fun k _ hk => heap_setCell_other _ _ _ _ hk⟩
theorem Fr.below {b base B : Nat} {w w' : World} (h : Fr b base w w') (hB : B ≤ b) (hb : B ≤ base) : Below B w w' := ⟨h.os, h.tape, h.output, h.size, fun k hk => h.block k (by omega) (by omega)⟩
def BD (w : World) (b base : Nat) (p : Value) (bs : List Value) : Prop :=
  ∃ v, w.heap[b]? = some (.cells #[p, v] 112 (0, 0)) ∧ w.ownsRow base 5 1 v bs.length bs
theorem builder_used (b : Nat) (w : World) (h0 : w.cell? ⟨b, 0, none⟩ = some (.pointer (some ⟨b, 0, none⟩))) :
    Calls Tryd.prog 124 #[.pointer (some ⟨b, 0, none⟩)] w fun e w' => e = .returned (.tuple #[]) ∧ w' = w := by
  obtain ⟨j, hj, _⟩ := Option.map_eq_some_iff.1 (show (Tryd.prog.info? 112).map (·.size) = some 2 by kernel_rfl)
  go_enter Tryd.func124, Tryd.ntmps124
  go_wp2
  rw [Lib.run_neq_ptr_same w _ Tryd.underlying110 hj]
  go_wp2
  go_end0
  exact ⟨rfl, rfl⟩
theorem builder_fresh (b : Nat) (w : World) (h0 : w.cell? ⟨b, 0, none⟩ = some (.pointer none)) (hsh : w.shape? b = some (112, 2)) (hfz : w.frozen? ⟨b, 0, none⟩ = false) :
    Calls Tryd.prog 124 #[.pointer (some ⟨b, 0, none⟩)] w fun e w' => e = .returned (.tuple #[]) ∧ w' = w.setCell ⟨b, 0, none⟩ (.pointer (some ⟨b, 0, none⟩)) := by
  obtain ⟨j, hj, hjs⟩ := Option.map_eq_some_iff.1 (show (Tryd.prog.info? 112).map (·.size) = some 2 by kernel_rfl)
  have hl : liesAt Tryd.prog Tryd.prog.depth 112 (2 / Tryd.prog.cellsOf 112) 0 112 1 = true := by kernel_rfl
  go_enter Tryd.func124, Tryd.ntmps124
  go_wp2
  rw [Lib.run_to_unsafe w ⟨b, 0, none⟩ Tryd.underlying110 Tryd.underlying171 hj (by rw [hjs]; decide) hsh (Nat.zero_lt_succ 1)]
  simp only [Result.andThen]
  rw [Oper.upon_value]
  go_wp2
  rw [run_callFunc_extern Tryd.func146 (by kernel_rfl) (by kernel_rfl) (by kernel_rfl) (e := Extern.AbiNoEscape.same) (by kernel_rfl)]
  rw [Lib.run_noEscape]
  simp only [Result.andThen]
  rw [Oper.upon_value]
  go_wp2
  rw [Lib.run_from_unsafe w ⟨b, 0, none⟩ Tryd.underlying171 Tryd.underlying110 hj hsh hl]
  simp only [Result.andThen]
  rw [Oper.upon_value]
  go_wp2
  go_end0
  exact ⟨rfl, rfl⟩
theorem bd_used {w : World} {b base : Nat} {p q : Value} {bs : List Value} (h : BD w b base p bs) (hb : b < base) : BD (w.setCell ⟨b, 0, none⟩ q) b base q bs := by
  obtain ⟨v, hv, hown⟩ := h
  exact ⟨v, heap_setCell_same _ _ _ _ _ _ hv, ownsRow_setCell_below hown hb _⟩
theorem builder_check (b base : Nat) (p : Value) (bs : List Value) (w : World) (hp : p = .pointer none ∨ p = .pointer (some ⟨b, 0, none⟩)) (h : BD w b base p bs) (hb : b < base) :
    Calls Tryd.prog 124 #[.pointer (some ⟨b, 0, none⟩)] w fun e w' => e = .returned (.tuple #[]) ∧ BD w' b base (.pointer (some ⟨b, 0, none⟩)) bs ∧ Fr b base w w' := by
  have hh := h
  obtain ⟨v, hv, hown⟩ := hh
  have c0 : w.cell? ⟨b, 0, none⟩ = some p := by simp [World.cell?, hv]
  rcases hp with rfl | rfl
  · refine (builder_fresh b w c0 (by simp [World.shape?, hv]) (frozen_of_row _ _ _ _ _ hv)).mono ?_
    rintro e w' ⟨rfl, rfl⟩
    exact ⟨rfl, bd_used h hb, Fr.set _ _ _ _ _⟩
  · refine (builder_used b w c0).mono ?_
    rintro e w' ⟨rfl, rfl⟩
    exact ⟨rfl, h, Fr.of (Below.refl _ _)⟩
theorem builder_byte (b base : Nat) (p : Value) (bs : List Value) (c : Int) (w : World) (hp : p = .pointer none ∨ p = .pointer (some ⟨b, 0, none⟩)) (h : BD w b base p bs) (hb : b < base) (hw : base ≤ w.heap.size) (hl : bs.length ≤ 1000000) :
    Calls Tryd.prog 95 #[.pointer (some ⟨b, 0, none⟩), .int .u8 c] w fun e w' => e = .returned .nilIface ∧ BD w' b base (.pointer (some ⟨b, 0, none⟩)) (bs ++ [.int .u8 c]) ∧ Fr b base w w' := by
  obtain ⟨i0, hi, hz0, hz1, hz2⟩ := info_parts (show (Tryd.prog.info? 5).map (fun i => (i.zero, i.size, i.bytes)) = some (some (.int .u8 0), 1, 1) by kernel_rfl)
  have K := Lib.hid (builder_check b base p bs w hp h hb)
  clear h hp
  go_enter Tryd.func95, Tryd.ntmps95
  go_wp2_with fail
  refine K.out.mono ?_
  rintro e w1 ⟨rfl, ⟨v, hv, hown⟩, hfr⟩
  have HV := Lib.hid hv
  have HO := Lib.hid hown
  have HF := Lib.hid hfr
  have hw1 : base ≤ w1.heap.size := Nat.le_trans hw hfr.size
  have c1 : w1.cell? ⟨b, 1, none⟩ = some v := by simp [World.cell?, hv]
  clear K hv hown hfr hw
  go_wp2_with (at_builtin; refine wpList_append_own _ rfl _ _ 41 rfl base 5 i0 (.int .u8 0) 1 1 Tryd.underlying41 hi hz0 hz1 hz2 rfl (by decide) _ _ _ rfl (HO.out.alloc _) ⟨w1.heap.size, 0, none⟩ 1 1 [.int .u8 c] rfl rfl ?c1 ?c2 ?c3 ?c4 ?c5 ?_)
  case c1 =>
    intro j u hj
    match j, hj with
    | 0, hj => simp at hj; subst hj; simp [Addr.add]
  case c2 => intro u hu; simp at hu; subst hu; rfl
  case c3 => unfold maxLen; omega
  case c4 => omega
  case c5 => simp; omega
  intro v' w2 hown' hgrow _
  have hblt : b < w1.heap.size := Nat.lt_of_lt_of_le hb hw1
  have hne : v.ownBlock ≠ some b := fun e => by have := own_ge HO.out b e; omega
  have hb2 : w2.heap[b]? = some (.cells #[.pointer (some ⟨b, 0, none⟩), v] 112 (0, 0)) := by
    rw [hgrow.block b (by simp; omega) (fun e => hne e.symm), Lib.alloc_old w1 _ b hblt]
    exact HV.out
  have HB2 := Lib.hid hb2
  have f1 : w2.frozen? ⟨b, 1, none⟩ = false := frozen_of_row _ _ _ _ _ hb2
  have d1 : w2.cell? ⟨b, 1, none⟩ = some v := by simp [World.cell?, hb2]
  have HBL := Lib.hid (show Below base w1 w2 from Below.grown ((Below.refl _ _).alloc hw1 _) hgrow (by simp; omega) (own_ge HO.out))
  obtain ⟨g, cap, rfl⟩ : ∃ g cap, v' = .slice (some ⟨g, 0, none⟩) (bs.length + 1) cap := by
    rcases hown'.2 with ⟨_, h0⟩ | ⟨g, cap, cur, hv, _⟩
    · omega
    · exact ⟨g, cap, hv⟩
  have HO2 := Lib.hid hown'
  clear hgrow hown' hb2 hne
  go_wp2
  go_ret
  refine ⟨rfl, ⟨_, heap_setCell_same _ _ _ _ _ _ HB2.out, ?_⟩, HF.out.trans ((Fr.of HBL.out).trans (Fr.set _ _ _ _ _))⟩
  rw [List.length_append]
  exact ownsRow_setCell_below HO2.out hb _
theorem builder_string (b base : Nat) (p : Value) (l : List UInt8) (w : World) (hp : p = .pointer none ∨ p = .pointer (some ⟨b, 0, none⟩)) (h : BD w b base p (Lib.byteCells l)) (hb : b < base) (hw : base ≤ w.heap.size) :
    Calls Tryd.prog 94 #[.pointer (some ⟨b, 0, none⟩)] w fun e w' => e = .returned (.string ⟨l.toArray⟩) ∧ Below b w w' := by
  obtain ⟨v, hv, hown⟩ := h
  have hne : v.ownBlock ≠ some b := fun e => by have := own_ge hown b e; omega
  have ho : w.ownsRow b 5 1 v (Lib.byteCells l).length (Lib.byteCells l) := by
    refine ⟨hown.1, ?_⟩
    rcases hown.2 with h | ⟨g, cap, cur, h1, h2, h3⟩
    · exact .inl h
    · exact .inr ⟨g, cap, cur, h1, by omega, h3⟩
  have hB : Lib.IsBuilder 112 5 b b (Lib.byteCells l) w := by
    rcases hp with rfl | rfl
    · exact .inl ⟨Nat.le_refl _, v, hv, ho, hne⟩
    · exact .inr ⟨Nat.le_refl _, v, hv, ho, hne⟩
  exact Tryd.Builder_String_any b b l w hB (by omega)
end Go.Proofs.YtlefgkiembokeaaDoor
