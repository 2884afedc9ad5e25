/- Texts of this claim, one behind the other: GK, CkC, CkE, CkJ, Ck0, GL, GM, GN, GO, GP, Rf. -/
import Derived.Test.YtcfhenekoaegaaaGreatDoorCGTm2
import Derived.ProofKit
import Derived.Orders
import Derived.Below
import Derived.Test.YtcfhenekoaegaaaGreatDoorCGTm1
import Derived.Laws.AppendOwn
import Derived.Laws.AppendOwnNone
import Derived.Laws.OwnMore
import Derived.Lib.ItoaMem
import Derived.IntWalk
import Derived.Deep.QuietTactic
import Derived.BigQuiet
import Derived.RangeFuncNested
import Derived.RangeFuncBound
import Derived.RangeFuncCalls
import Derived.RangeFuncLeaves
import Derived.Scope
/- target: Parse. -/
namespace Go.Proofs.YtcfhenekoaegaaaGreatDoor
set_option linter.unusedVariables false
set_option linter.unusedSimpArgs false
open Go.RowKit Go.Shelf
set_option maxHeartbeats 4000000
set_option maxRecDepth 100000
/-- what Parse tells -/
def ParseOut (w : World) (o : Option (List (List UInt8) × List (List UInt8 × List UInt8))) (e : Ending) : Prop := match o with
  | some (P, Q) => ∃ vp vq, e = .returned (.tuple #[.agg #[vp, vq], .int .i64 0]) ∧ StrRow w vp P ∧ PrRow w vq Q
  | none => e = .returned (.tuple #[.agg #[.slice none 0 0, .slice none 0 0], .int .i64 210])
/-- the stand of the two questions -/
def AskAt (s : List UInt8) (W : World) (i : Value) (wr : World) : Prop :=
  (i = .int .i64 0 ∧ wr = W) ∨ (i = .int .i64 1 ∧ wr = W ∧ (s.head? == some 47) = true) ∨ (i = .int .i64 2 ∧ Below W.heap.size W wr ∧ Gt.ok s = true)
/-- a text that is none: the panic is caught -/
theorem parse_door (s : ByteArray) (w W : World) (hB : Below w.heap.size w W) (u v : Value) (hT : W.heap[w.heap.size]? = some (.cells #[u, v] 26 (0, 0))) (hE : W.heap[w.heap.size + 1]? = some (.cells #[.int .i64 0] 27 (0, 0)))
    (hp : Gt.parse s.data.toList = none) (x1 x4 x5 x6 x7 x8 x9 x10 x11 x12 x13 x14 x15 x16 x17 x18 x19 x20 x21 x22 x23 x24 x25 x26 x27 x28 x29 x30 x31 x32 x33 x34 x35 : Value) :
    bodyPostD Tryz.prog Tryz.f7 (fun e w' => ParseOut w' (Gt.parse s.data.toList) e ∧ Below w.heap.size w w') (.panic [{ v := errno 210, recovered := false }])
      { tmps := #[.string s, x1, .pointer (some ⟨w.heap.size, 0, none⟩), .pointer (some ⟨w.heap.size + 1, 0, none⟩), x4, x5, x6, x7, x8, x9, x10, x11, x12, x13, x14, x15, x16, x17, x18, x19, x20, x21, x22, x23, x24, x25, x26, x27, x28, x29, x30, x31, x32, x33, x34, x35], defers := [{ target := Target.fn (Fn.func 24) #[], args := #[.pointer (some ⟨w.heap.size + 1, 0, none⟩), .func (.func 25) #[] #[.pointer (some ⟨w.heap.size, 0, none⟩)]] }] } W := by
  rw [hp]
  have c1 : W.cell? ⟨w.heap.size + 1, 0, none⟩ = some (.int .i64 0) := by simp [World.cell?, hE]
  have z1 : W.frozen? ⟨w.heap.size + 1, 0, none⟩ = false := frozen_of_row _ _ _ _ _ hE
  have t1 := heap_setCell_same _ _ 0 _ _ (.slice none 0 0) hT
  have t2 : ((W.setCell ⟨w.heap.size, 0, none⟩ (.slice none 0 0)).setCell ⟨w.heap.size, 1, none⟩ (.slice none 0 0)).heap[w.heap.size]? = some (.cells #[.slice none 0 0, .slice none 0 0] 26 (0, 0)) := heap_setCell_same _ _ 1 _ _ (.slice none 0 0) t1
  obtain ⟨W2, hW2⟩ : ∃ Z, (W.setCell ⟨w.heap.size, 0, none⟩ (.slice none 0 0)).setCell ⟨w.heap.size, 1, none⟩ (.slice none 0 0) = Z := ⟨_, rfl⟩
  have HB2 := Lib.hid (show Below w.heap.size w W2 by rw [← hW2]; exact (hB.setCell (Nat.le_refl _) _).setCell (Nat.le_refl _) _)
  have c2 : W2.cell? ⟨w.heap.size + 1, 0, none⟩ = some (.int .i64 0) := by
    rw [← hW2, World.cell?_setCell_other, World.cell?_setCell_other]; exact c1; simp; simp
  have z2 : W2.frozen? ⟨w.heap.size + 1, 0, none⟩ = false := by rw [← hW2]; simpa using z1
  have K := tg_clearT w.heap.size u v W hT
  rw [hW2] at t2 K
  refine leaves_cons (f := 24) (args := #[.pointer (some ⟨w.heap.size + 1, 0, none⟩), .func (.func 25) #[] #[.pointer (some ⟨w.heap.size, 0, none⟩)]]) (by simp) (by simp [go_sem]) ?_
  refine (tg_caught ⟨w.heap.size + 1, 0, none⟩ 25 #[.pointer (some ⟨w.heap.size, 0, none⟩)] 210 [] W W2 (clearT_enter _) K (.int .i64 0) c2 z2).mono ?_
  rintro e u' w'' ⟨rfl, rfl, rfl⟩
  have d0 : W2.cell? ⟨w.heap.size, 0, none⟩ = some (.slice none 0 0) := by simp [World.cell?, t2]
  have d1 : W2.cell? ⟨w.heap.size, 1, none⟩ = some (.slice none 0 0) := by simp [World.cell?, t2]
  simp [Leaves, settle, results, Tryz.results7, go_sem, d0, d1, c2]
  exact ⟨rfl, HB2.out.setCell (Nat.le_succ _) _⟩
theorem StrRow.setT {w : World} {v : Value} {L : List (List UInt8)} {T : Nat} {p1 p2 : Option Addr} {n1 k1 n2 k2 : Nat} {t : TypeId} (h : StrRow w v L) (hT : w.heap[T]? = some (.cells #[.slice p1 n1 k1, .slice p2 n2 k2] t (0, 0))) (i : Nat) (x : Value) :
    StrRow (w.setCell ⟨T, i, none⟩ x) v L := by
  obtain ⟨p, cap, rfl, h⟩ := h
  refine ⟨p, cap, rfl, h.imp id ?_⟩
  rintro ⟨g, rfl, hc⟩
  refine ⟨g, rfl, fun j hj => ?_⟩
  have h1 := hc j hj
  rw [World.cell?_setCell_other, h1]
  intro e
  obtain rfl : T = g := by simpa using congrArg Addr.block e
  simp only [World.cell?, hT, Option.bind_eq_bind] at h1
  match j with
  | 0 => simp [tx] at h1
  | 1 => simp [tx] at h1
  | j + 2 => simp at h1
theorem StrRow.setI {w : World} {v : Value} {L : List (List UInt8)} {T : Nat} {k : IntKind} {n : Int} {t : TypeId} (h : StrRow w v L) (hT : w.heap[T]? = some (.cells #[.int k n] t (0, 0))) (i : Nat) (x : Value) :
    StrRow (w.setCell ⟨T, i, none⟩ x) v L := by
  obtain ⟨p, cap, rfl, h⟩ := h
  refine ⟨p, cap, rfl, h.imp id ?_⟩
  rintro ⟨g, rfl, hc⟩
  refine ⟨g, rfl, fun j hj => ?_⟩
  have h1 := hc j hj
  rw [World.cell?_setCell_other, h1]
  intro e
  obtain rfl : T = g := by simpa using congrArg Addr.block e
  simp only [World.cell?, hT, Option.bind_eq_bind] at h1
  match j with
  | 0 => simp [tx] at h1
  | j + 1 => simp at h1
theorem PrRow.slice {w : World} {v : Value} {L : List (List UInt8 × List UInt8)} (h : PrRow w v L) : ∃ p n c, v = .slice p n c := by
  obtain ⟨B, _, ⟨rfl, _⟩ | ⟨g, cap, cur, rfl, _⟩⟩ := h
  · exact ⟨_, _, _, rfl⟩
  · exact ⟨_, _, _, rfl⟩
theorem PrRow.setT {w : World} {v : Value} {L : List (List UInt8 × List UInt8)} {T : Nat} {cs : Array Value} {t : TypeId} (h : PrRow w v L) (hT : w.heap[T]? = some (.cells cs t (0, 0))) (ht : t ≠ 47) (i : Nat) (x : Value) :
    PrRow (w.setCell ⟨T, i, none⟩ x) v L := by
  obtain ⟨B, hl, h⟩ := h
  refine ⟨B, hl, h.imp id ?_⟩
  rintro ⟨g, cap, cur, rfl, h1, h2, h3⟩
  refine ⟨g, cap, cur, rfl, h1, ?_, h3⟩
  rw [Below.heap_setCell _ _ _ _ (by
    intro e
    obtain rfl : g = T := by simpa using e
    rw [h2] at hT
    simp at hT
    exact ht hT.2.symm)]
  exact h2
theorem ok_pos {l : List UInt8} (h : Gt.ok l = true) : 1 ≤ Gs.pos 63 l := by
  unfold Gt.ok at h
  rw [Bool.and_eq_true] at h
  cases l with
  | nil => exact absurd h.1 (by decide)
  | cons c r =>
    have hc : c = 47 := by have := h.1; simpa using this
    subst hc
    rw [Gs.pos_next _ _ _ (by decide)]
    omega
theorem tg_Parse (s : ByteArray) (w : World) (hs : s.size ≤ 90000) (hm : Mx w) (h0 : 0 < w.heap.size) :
    Calls Tryz.prog 7 #[.string s] w fun e w' => ParseOut w' (Gt.parse s.data.toList) e ∧ Below w.heap.size w w' := by
  have hce1 := ask1_enter
  have hce2 := ask2_enter
  have hmf : ∀ (fn : Fn) (first cap : Array Value) (w : World), (Instr.makeFunc fn first cap).run Tryz.prog w = .ok (.func fn first cap) w := fun _ _ _ _ => rfl
  have hi0 : ∀ (x y : Value) (w : World), (Instr.index 54 (.agg #[x, y]) (.int .i64 0)).run Tryz.prog w = .ok x w := fun _ _ _ => by kernel_rfl
  have hi1 : ∀ (x y : Value) (w : World), (Instr.index 54 (.agg #[x, y]) (.int .i64 1)).run Tryz.prog w = .ok y w := fun _ _ _ => by kernel_rfl
  obtain ⟨W1, hW1⟩ : ∃ W, (w.alloc (.cells #[.slice none 0 0, .slice none 0 0] 26)).alloc (.cells #[.int .i64 0] 27) = W := ⟨_, rfl⟩
  have HSZ := Lib.hid (show W1.heap.size = w.heap.size + 2 by rw [← hW1]; simp)
  have HB := Lib.hid (show Below w.heap.size w W1 by
    rw [← hW1]
    exact ((Below.refl _ _).alloc (Nat.le_refl _) _).alloc (by simp) _)
  have HC0 := Lib.hid (show W1.heap[w.heap.size]? = some (.cells #[.slice none 0 0, .slice none 0 0] 26 (0, 0)) by
    rw [← hW1, Below.heap_alloc _ _ _ (by simp)]
    exact World.alloc_heap_new _ _)
  have HC1 := Lib.hid (show W1.heap[w.heap.size + 1]? = some (.cells #[.int .i64 0] 27 (0, 0)) by
    rw [← hW1]
    have := World.alloc_heap_new (w.alloc (.cells #[.slice none 0 0, .slice none 0 0] 26)) (.cells #[.int .i64 0] 27)
    simpa using this)
  have HW1 := Lib.hid hW1
  have HM := Lib.hid hm
  clear hW1 hm
  have KA := Lib.hid (tg_asks W1)
  have K1 := Lib.hid (fun W => tg_ask1 s W)
  have K2 := Lib.hid (fun W => tg_ask2 s W)
  obtain ⟨a1, ha1⟩ : ∃ o, (s.data.toList.head? == some 47) = o := ⟨_, rfl⟩
  obtain ⟨a2, ha2⟩ : ∃ o, s.data.toList.all Gt.okB = o := ⟨_, rfl⟩
  rw [ha1] at K1
  rw [ha2] at K2
  have HA1 := Lib.hid ha1
  have HA2 := Lib.hid ha2
  clear ha1 ha2
  go_enter_defers Tryz.func7, Tryz.ntmps7
  go_wp2_with fail
  rw [HW1.out]
  refine KA.out.mono ?_
  rintro e w2 ⟨rfl, hb⟩
  have HB2 := Lib.hid hb
  clear hb
  go_wp2_with fail
  go_loopw [11] (fun i wr => AskAt s.data.toList w2 i wr) (fun i _ => (2 - intOf i).toNat)
  case atStart => exact .inl ⟨rfl, rfl⟩
  case round =>
    rcases hrel with ⟨rfl, rfl⟩ | ⟨rfl, rfl, hh⟩ | ⟨rfl, hb3, hok⟩
    · cases a1 with
      | true =>
        go_wp2_with fail
        refine (K1.out wr).mono ?_
        rintro e w3 ⟨rfl, hw3⟩
        subst w3
        go_wp2_with fail
        refine (tg_must 210 wr).mono ?_
        rintro e w4 ⟨rfl, hw4⟩
        subst w4
        go_wp2
        go_roundw
        case rel => exact .inr (.inl ⟨rfl, rfl, HA1.out⟩)
        case measure => simp [intOf]
      | false =>
        go_wp2_with fail
        refine (K1.out wr).mono ?_
        rintro e w3 ⟨rfl, hw3⟩
        subst w3
        go_wp2_with fail
        refine (tg_must_no 210 wr).mono ?_
        rintro e w4 ⟨rfl, hw4⟩
        subst w4
        exact parse_door s w wr (HB.out.trans (HB2.out.mono HB.out.size)) (.slice none 0 0) (.slice none 0 0) ((HB2.out.block _ (by rw [HSZ.out]; omega)).trans HC0.out) ((HB2.out.block _ (by rw [HSZ.out]; omega)).trans HC1.out) (Gt.parse_bad (by unfold Gt.ok; rw [HA1.out]; rfl)) _ _ _ _ _ _ _ _ _ _ _ _ _ _ _ _ _ _ _ _ _ _ _ _ _ _ _ _ _ _ _ _ _
    · cases a2 with
      | true =>
        go_wp2_with fail
        refine (K2.out wr).mono ?_
        rintro e w3 ⟨rfl, hb3⟩
        have HB3 := Lib.hid hb3
        clear hb3
        go_wp2_with fail
        refine (tg_must 210 w3).mono ?_
        rintro e w4 ⟨rfl, hw4⟩
        subst w4
        go_wp2
        go_roundw
        case rel => exact .inr (.inr ⟨rfl, HB3.out, by unfold Gt.ok; rw [hh, HA2.out]; rfl⟩)
        case measure => simp [intOf]
      | false =>
        go_wp2_with fail
        refine (K2.out wr).mono ?_
        rintro e w3 ⟨rfl, hb3⟩
        have HB3 := Lib.hid (HB2.out.trans (hb3.mono HB2.out.size))
        clear hb3
        go_wp2_with fail
        refine (tg_must_no 210 w3).mono ?_
        rintro e w4 ⟨rfl, hw4⟩
        subst w4
        exact parse_door s w w3 (HB.out.trans (HB3.out.mono HB.out.size)) (.slice none 0 0) (.slice none 0 0) ((HB3.out.block _ (by rw [HSZ.out]; omega)).trans HC0.out) ((HB3.out.block _ (by rw [HSZ.out]; omega)).trans HC1.out) (Gt.parse_bad (by unfold Gt.ok; rw [HA2.out, Bool.and_false])) _ _ _ _ _ _ _ _ _ _ _ _ _ _ _ _ _ _ _ _ _ _ _ _ _ _ _ _ _ _ _ _ _
    · have HBR := Lib.hid (HB2.out.trans (hb3.mono HB2.out.size))
      have HOK := Lib.hid hok
      obtain ⟨m, hm'⟩ := HM.out.below (HB.out.trans (HBR.out.mono HB.out.size)) h0
      have KC := Lib.hid (Tryz.strings_Cut s ⟨#[63]⟩ m wr (by omega) hm')
      rw [show (⟨#[63]⟩ : ByteArray).data.toList = [63] from rfl, Gs.cut_is] at KC
      obtain ⟨pb, hpb⟩ : ∃ z : ByteArray, (⟨(s.data.toList.take (Gs.pos 63 s.data.toList)).toArray⟩ : ByteArray) = z := ⟨_, rfl⟩
      obtain ⟨qb, hqb⟩ : ∃ z : ByteArray, (⟨(s.data.toList.drop (Gs.pos 63 s.data.toList + 1)).toArray⟩ : ByteArray) = z := ⟨_, rfl⟩
      obtain ⟨is, his⟩ : ∃ b, decide (Gs.pos 63 s.data.toList < s.data.toList.length) = b := ⟨_, rfl⟩
      simp only [hpb, hqb, his] at KC
      have HPL := Lib.hid (show pb.data.toList = s.data.toList.take (Gs.pos 63 s.data.toList) by rw [← hpb])
      have HQL := Lib.hid (show qb.data.toList = s.data.toList.drop (Gs.pos 63 s.data.toList + 1) by rw [← hqb])
      have hp1 : 1 ≤ pb.size := by
        have h1 := ok_pos hok
        have h2 : pb.data.toList.length = pb.size := rfl
        have h3 := Gs.pos_le 63 s.data.toList
        rw [HPL.out, List.length_take] at h2
        omega
      have HPS := Lib.hid (show pb.size ≤ 100000 by
        have h1 : pb.data.toList.length = pb.size := rfl
        have h2 : s.data.toList.length = s.size := rfl
        rw [HPL.out, List.length_take] at h1; omega)
      have HQS := Lib.hid (show qb.size ≤ 90000 by
        have h1 : qb.data.toList.length = qb.size := rfl
        have h2 : s.data.toList.length = s.size := rfl
        rw [HQL.out, List.length_drop] at h1; omega)
      clear hpb hqb his hm' hb3 hok
      go_wp2_with fail
      refine KC.out.mono ?_
      rintro e w5 ⟨rfl, n, hw5⟩
      have HB5 := Lib.hid (show Below W1.heap.size W1 w5 by rw [hw5]; exact below_drewN HBR.out n)
      clear hw5
      go_wp2_with fail
      obtain ⟨p1, hp⟩ : ∃ z, pb.extract 1 pb.size = z := ⟨_, rfl⟩
      rw [hp]
      have HSEG := Lib.hid (show Gt.segs s.data.toList = Gs.parts 47 [] p1.data.toList by
        unfold Gt.segs
        rw [← HPL.out, ← hp, Lib.extract_data, List.take_of_length_le]
        rw [List.length_drop]; exact Nat.le_refl _)
      have HP1P := Lib.hid (show p1.size + 1 ≤ pb.size by
        have h1 : (pb.extract 1 pb.size).data.toList.length = p1.size := by rw [hp]; rfl
        have h2 : pb.data.toList.length = pb.size := rfl
        rw [Lib.extract_data, List.length_take, List.length_drop] at h1; omega)
      have HP1S := Lib.hid (show p1.size ≤ 100000 by
        have h1 : (pb.extract 1 pb.size).data.toList.length = p1.size := by rw [hp]; rfl
        have h2 : pb.data.toList.length = pb.size := rfl
        have h3 := HPS.out
        rw [Lib.extract_data, List.length_take, List.length_drop] at h1; omega)
      have HT5 := Lib.hid ((HB5.out.block _ (by rw [HSZ.out]; omega)).trans HC0.out)
      have HE5 := Lib.hid ((HB5.out.block _ (by rw [HSZ.out]; omega)).trans HC1.out)
      have HBW5 := Lib.hid (HB.out.trans (HB5.out.mono HB.out.size))
      have HZ5 := Lib.hid (show w.heap.size + 2 ≤ w5.heap.size by have := HB5.out.size; rw [HSZ.out] at this; exact this)
      clear hp hp1 KC KA K1 K2 HB5 HBR HB2 HB HC0 HC1 HW1
      refine (tg_split p1 47 w5 (by have := HP1S.out; omega) (HM.out.below HBW5.out h0)).mono ?_
      rintro e w6 ⟨D, hD, rfl, hw6⟩
      have HB6 := Lib.hid (show Below w5.heap.size w5 w6 by rw [hw6]; exact (Below.refl _ _).alloc (Nat.le_refl _) _)
      have HSR := Lib.hid (show SR w6 (.slice (some ⟨w5.heap.size, 0, none⟩) D.length D.length) D from .inr ⟨w5.heap.size, 0, D.length, rfl, by rw [hw6]; simp, fun j hj => by
        have hnew : w6.heap[w5.heap.size]? = some (.cells (D.map Value.string).toArray 9 (0, 0)) := by rw [hw6]; exact World.alloc_heap_new _ _
        simp [World.cell?, hnew, List.getElem?_eq_getElem hj]⟩)
      have HD := Lib.hid hD
      have HDL := Lib.hid (show D.length ≤ 100000 by
        have h1 := Gs.parts_many 47 p1.data.toList []
        rw [← hD, List.length_map] at h1
        have h2 : p1.data.toList.length = p1.size := rfl
        have h3 := ok_pos HOK.out
        have h4 : pb.data.toList.length = pb.size := rfl
        have h5 := HPS.out
        have h6 := HP1S.out
        have h7 := HP1P.out
        omega)
      have HDS := Lib.hid (fun z (hz : z ∈ D) => show z.size ≤ 1000000 by
        have h1 := Gs.parts_len 47 p1.data.toList [] z.data.toList (by rw [← hD]; exact List.mem_map.2 ⟨z, hz, rfl⟩)
        have h2 : p1.data.toList.length = p1.size := rfl
        have h3 : z.data.toList.length = z.size := rfl
        have h4 := HP1S.out
        simp at h1
        omega)
      clear hw6 hD
      go_wp2_with fail
      refine (tg_made 30 Gt.seg _ D w6 HSR.out HDL.out part_enter (fun z hz W => tg_part z W (HDS.out z hz))).mono ?_
      rintro e w7 ⟨hor, hb7⟩
      have HB7 := Lib.hid (show Below w5.heap.size w5 w7 from HB6.out.trans (hb7.mono HB6.out.size))
      clear hb7
      rw [HD.out, ← HSEG.out] at hor
      have HT7 := Lib.hid ((HB7.out.block _ (by have := HZ5.out; omega)).trans HT5.out)
      have HE7 := Lib.hid ((HB7.out.block _ (by have := HZ5.out; omega)).trans HE5.out)
      have HBW7 := Lib.hid (HBW5.out.trans (HB7.out.mono HBW5.out.size))
      have HZ7 := Lib.hid (show w.heap.size + 2 ≤ w7.heap.size from Nat.le_trans HZ5.out HB7.out.size)
      clear HB7 HB6 HSR HDS HT5 HE5 HBW5
      rcases hor with ⟨R, r, h1, rfl, hrow⟩ | ⟨h1, rfl⟩
      · have HP1 := Lib.hid h1
        have HROW := Lib.hid hrow
        obtain ⟨pr, cr, hr, _⟩ := hrow
        obtain ⟨nr, hnr⟩ : ∃ z, R.length = z := ⟨_, rfl⟩
        rw [hnr] at hr
        subst hr
        have c0 : w7.cell? ⟨w.heap.size, 0, none⟩ = some (.slice none 0 0) := by simp [World.cell?, HT7.out]
        have z0 : w7.frozen? ⟨w.heap.size, 0, none⟩ = false := frozen_of_row _ _ _ _ _ HT7.out
        clear h1 hnr
        go_wp2_with fail
        obtain ⟨w8, hw8⟩ : ∃ Z, w7.setCell ⟨w.heap.size, 0, none⟩ (.slice pr nr cr) = Z := ⟨_, rfl⟩
        rw [hw8]
        have HT8 := Lib.hid (show w8.heap[w.heap.size]? = some (.cells #[.slice pr nr cr, .slice none 0 0] 26 (0, 0)) by
          rw [← hw8]; exact heap_setCell_same _ _ 0 _ _ (.slice pr nr cr) HT7.out)
        have HE8 := Lib.hid (show w8.heap[w.heap.size + 1]? = some (.cells #[.int .i64 0] 27 (0, 0)) by
          rw [← hw8, Below.heap_setCell _ _ _ _ (by simp)]; exact HE7.out)
        have HR8 := Lib.hid (show StrRow w8 (.slice pr nr cr) R by rw [← hw8]; exact HROW.out.setT HT7.out 0 _)
        have HBW8 := Lib.hid (show Below w.heap.size w w8 by rw [← hw8]; exact HBW7.out.setCell (Nat.le_refl _) _)
        have HZ8 := Lib.hid (show w.heap.size + 2 ≤ w8.heap.size by rw [← hw8]; simpa using HZ7.out)
        clear hw8 c0 z0 HT7 HE7 HROW HBW7 HZ7
        refine (tg_split qb 38 w8 (by have := HQS.out; omega) (HM.out.below HBW8.out h0)).mono ?_
        rintro e w9 ⟨D2, hD2, rfl, hw9⟩
        have hnew : w9.heap[w8.heap.size]? = some (.cells (D2.map Value.string).toArray 9 (0, 0)) := by rw [hw9]; exact World.alloc_heap_new _ _
        have HB9 := Lib.hid (show Below w8.heap.size w8 w9 by rw [hw9]; exact (Below.refl _ _).alloc (Nat.le_refl _) _)
        have HD2L := Lib.hid (show D2.length ≤ 100000 by
          have h1 := Gs.parts_many 38 qb.data.toList []
          rw [← hD2, List.length_map] at h1
          have h2 : qb.data.toList.length = qb.size := rfl
          have h3 := HQS.out
          omega)
        have HD2S := Lib.hid (fun z (hz : z ∈ D2) => show z.size ≤ 1000000 by
          have h1 := Gs.parts_len 38 qb.data.toList [] z.data.toList (by rw [← hD2]; exact List.mem_map.2 ⟨z, hz, rfl⟩)
          have h2 : qb.data.toList.length = qb.size := rfl
          have h3 : z.data.toList.length = z.size := rfl
          have h4 := HQS.out
          simp at h1
          omega)
        have HQR := Lib.hid (show (D2.filter fun s => !s.data.toList.isEmpty).map (·.data.toList) = Gt.qrys s.data.toList by
          unfold Gt.qrys
          rw [← HQL.out, ← hD2, List.filter_map]; rfl)
        have KST := Lib.hid (tg_strike w8.heap.size D2.length D2 w9 hnew (Nat.le_refl _) (by have := HD2L.out; omega))
        clear hD2 hnew hw9
        go_wp2_with fail
        refine KST.out.mono ?_
        rintro e w10 ⟨v, rfl, hsr, hb10⟩
        have HB10 := Lib.hid (show Below w8.heap.size w8 w10 from HB9.out.trans hb10)
        have HSR := Lib.hid hsr
        have HFL := Lib.hid (show (D2.filter fun s => !s.data.toList.isEmpty).length ≤ 100000 from Nat.le_trans (List.length_filter_le _ _) HD2L.out)
        have HFS := Lib.hid (fun z (hz : z ∈ D2.filter fun s => !s.data.toList.isEmpty) => HD2S.out z (List.mem_filter.1 hz).1)
        obtain ⟨F, hF⟩ : ∃ z, (D2.filter fun s => !s.data.toList.isEmpty) = z := ⟨_, rfl⟩
        rw [hF] at HSR HQR HFL HFS
        clear hb10 hsr KST HB9 HD2S HD2L hF
        go_wp2_with fail
        refine (tg_madeP 33 Gt.pairOf v F w10 HSR.out HFL.out pair_enter (fun z hz W hbW => tg_pair z W (HFS.out z hz)
          (HM.out.below (HBW8.out.trans ((HB10.out.trans (hbW.mono HB10.out.size)).mono (by have := HZ8.out; omega))) h0) (by have := hbW.size; have := HB10.out.size; have := HZ8.out; omega))).mono ?_
        rintro e w11 ⟨hor, hb11⟩
        have HB11 := Lib.hid (show Below w8.heap.size w8 w11 from HB10.out.trans (hb11.mono HB10.out.size))
        clear hb11
        rw [HQR.out] at hor
        have HT11 := Lib.hid ((HB11.out.block _ (by have := HZ8.out; omega)).trans HT8.out)
        have HE11 := Lib.hid ((HB11.out.block _ (by have := HZ8.out; omega)).trans HE8.out)
        have HBW11 := Lib.hid (HBW8.out.trans (HB11.out.mono HBW8.out.size))
        have HR11 := Lib.hid (HR8.out.below HB11.out)
        clear HB11 HB10 HSR HFS HT8 HE8 HBW8 HR8
        rcases hor with ⟨Q, q, h1, rfl, hrow⟩ | ⟨h1, rfl⟩
        · have HPQ := Lib.hid (show Gt.parse s.data.toList = some (R, Q) by rw [Gt.parse_is HOK.out HP1.out, h1]; rfl)
          have HROW := Lib.hid hrow
          obtain ⟨pq, nq, cq, hq⟩ := hrow.slice
          subst hq
          have c1 : w11.cell? ⟨w.heap.size, 1, none⟩ = some (.slice none 0 0) := by simp [World.cell?, HT11.out]
          have z1 : w11.frozen? ⟨w.heap.size, 1, none⟩ = false := frozen_of_row _ _ _ _ _ HT11.out
          have c0 : w11.cell? ⟨w.heap.size, 0, none⟩ = some (.slice pr nr cr) := by simp [World.cell?, HT11.out]
          have z0 : w11.frozen? ⟨w.heap.size, 0, none⟩ = false := frozen_of_row _ _ _ _ _ HT11.out
          have c2 : w11.cell? ⟨w.heap.size + 1, 0, none⟩ = some (.int .i64 0) := by simp [World.cell?, HE11.out]
          have z2 : w11.frozen? ⟨w.heap.size + 1, 0, none⟩ = false := frozen_of_row _ _ _ _ _ HE11.out
          clear h1 hrow
          go_wp2_with fail
          obtain ⟨w12, hw12⟩ : ∃ Z, ((((w11.setCell ⟨w.heap.size, 1, none⟩ (.slice pq nq cq)).setCell ⟨w.heap.size, 0, none⟩ (.slice pr nr cr)).setCell ⟨w.heap.size, 1, none⟩ (.slice pq nq cq)).setCell ⟨w.heap.size + 1, 0, none⟩ (.int .i64 0)) = Z := ⟨_, rfl⟩
          rw [hw12]
          have t1 : (w11.setCell ⟨w.heap.size, 1, none⟩ (.slice pq nq cq)).heap[w.heap.size]? = some (.cells #[.slice pr nr cr, .slice pq nq cq] 26 (0, 0)) := heap_setCell_same _ _ 1 _ _ (.slice pq nq cq) HT11.out
          have t2 : ((w11.setCell ⟨w.heap.size, 1, none⟩ (.slice pq nq cq)).setCell ⟨w.heap.size, 0, none⟩ (.slice pr nr cr)).heap[w.heap.size]? = some (.cells #[.slice pr nr cr, .slice pq nq cq] 26 (0, 0)) := heap_setCell_same _ _ 0 _ _ (.slice pr nr cr) t1
          have t3 : (((w11.setCell ⟨w.heap.size, 1, none⟩ (.slice pq nq cq)).setCell ⟨w.heap.size, 0, none⟩ (.slice pr nr cr)).setCell ⟨w.heap.size, 1, none⟩ (.slice pq nq cq)).heap[w.heap.size]? = some (.cells #[.slice pr nr cr, .slice pq nq cq] 26 (0, 0)) := heap_setCell_same _ _ 1 _ _ (.slice pq nq cq) t2
          have e3 : (((w11.setCell ⟨w.heap.size, 1, none⟩ (.slice pq nq cq)).setCell ⟨w.heap.size, 0, none⟩ (.slice pr nr cr)).setCell ⟨w.heap.size, 1, none⟩ (.slice pq nq cq)).heap[w.heap.size + 1]? = some (.cells #[.int .i64 0] 27 (0, 0)) := by
            rw [Below.heap_setCell _ _ _ _ (by simp), Below.heap_setCell _ _ _ _ (by simp), Below.heap_setCell _ _ _ _ (by simp)]; exact HE11.out
          have r1 := HR11.out.setT HT11.out 1 (.slice pq nq cq)
          have r2 := r1.setT t1 0 (.slice pr nr cr)
          have r3 := r2.setT t2 1 (.slice pq nq cq)
          have q1 := HROW.out.setT HT11.out (by decide) 1 (.slice pq nq cq)
          have q2 := q1.setT t1 (by decide) 0 (.slice pr nr cr)
          have q3 := q2.setT t2 (by decide) 1 (.slice pq nq cq)
          have q4 := q3.setT e3 (by decide) 0 (.int .i64 0)
          have r4 : StrRow ((((w11.setCell ⟨w.heap.size, 1, none⟩ (.slice pq nq cq)).setCell ⟨w.heap.size, 0, none⟩ (.slice pr nr cr)).setCell ⟨w.heap.size, 1, none⟩ (.slice pq nq cq)).setCell ⟨w.heap.size + 1, 0, none⟩ (.int .i64 0)) (.slice pr nr cr) R := r3.setI e3 0 (.int .i64 0)
          have t4 : ((((w11.setCell ⟨w.heap.size, 1, none⟩ (.slice pq nq cq)).setCell ⟨w.heap.size, 0, none⟩ (.slice pr nr cr)).setCell ⟨w.heap.size, 1, none⟩ (.slice pq nq cq)).setCell ⟨w.heap.size + 1, 0, none⟩ (.int .i64 0)).heap[w.heap.size]? = some (.cells #[.slice pr nr cr, .slice pq nq cq] 26 (0, 0)) := by
            rw [Below.heap_setCell _ _ _ _ (by simp)]; exact t3
          have e4 := heap_setCell_same _ _ 0 _ _ (.int .i64 0) e3
          have HBW12 := Lib.hid ((((HBW11.out.setCell (p := ⟨w.heap.size, 1, none⟩) (Nat.le_refl _) (.slice pq nq cq)).setCell (p := ⟨w.heap.size, 0, none⟩) (Nat.le_refl _) (.slice pr nr cr)).setCell (p := ⟨w.heap.size, 1, none⟩) (Nat.le_refl _) (.slice pq nq cq)).setCell (p := ⟨w.heap.size + 1, 0, none⟩) (Nat.le_succ _) (.int .i64 0))
          rw [hw12] at q4 r4 t4 e4 HBW12
          have HQ4 := Lib.hid q4
          have HR4 := Lib.hid r4
          clear t1 t2 t3 e3 r1 r2 r3 q1 q2 q3 c0 c1 c2 z0 z1 z2 q4 r4 hw12
          refine leaves_cons (f := 24) (args := #[.pointer (some ⟨w.heap.size + 1, 0, none⟩), .func (.func 25) #[] #[.pointer (some ⟨w.heap.size, 0, none⟩)]]) (by simp) (by simp [go_sem]) ?_
          refine (tg_caught_idle _ _ _).mono ?_
          rintro e u' w'' ⟨rfl, rfl, rfl⟩
          have d0 : w''.cell? ⟨w.heap.size, 0, none⟩ = some (.slice pr nr cr) := by simp [World.cell?, t4]
          have d1 : w''.cell? ⟨w.heap.size, 1, none⟩ = some (.slice pq nq cq) := by simp [World.cell?, t4]
          have d2 : w''.cell? ⟨w.heap.size + 1, 0, none⟩ = some (.int .i64 0) := by simp [World.cell?, e4]
          clear t4 e4
          simp [Leaves, settle, results, Tryz.results7, go_sem, d0, d1, d2]
          rw [HPQ.out]
          exact ⟨⟨_, _, rfl, HR4.out, HQ4.out⟩, HBW12.out⟩
        · exact parse_door s w w11 HBW11.out (.slice pr nr cr) (.slice none 0 0) HT11.out HE11.out (by rw [Gt.parse_is HOK.out HP1.out, h1]; rfl) _ _ _ _ _ _ _ _ _ _ _ _ _ _ _ _ _ _ _ _ _ _ _ _ _ _ _ _ _ _ _ _ _
      · exact parse_door s w w7 HBW7.out (.slice none 0 0) (.slice none 0 0) HT7.out HE7.out (Gt.parse_segs HOK.out h1) _ _ _ _ _ _ _ _ _ _ _ _ _ _ _ _ _ _ _ _ _ _ _ _ _ _ _ _ _ _ _ _ _
end Go.Proofs.YtcfhenekoaegaaaGreatDoor

/- A region that draws its order, by what holds at each of its stands. -/
namespace Go.Proofs.YtcfhenekoaegaaaGreatDoor
set_option linter.unusedVariables false
set_option linter.unusedSimpArgs false

set_option maxHeartbeats 2000000
def backB (md : Region.Mode) (ops : Array Oper) : Bool := (List.range ops.size).all fun i => ((ops[i]?).map fun o => o.guard.isNone && o.after.all fun e => !Region.binds md e || decide (e.on < i)).getD true
section
variable {P : Program} {ops : Array Oper} {Q : Exit → Act → World → Prop} {md : Region.Mode}
theorem back_of (h : backB md ops = true) {i : Nat} {o : Oper} (ho : ops[i]? = some o) : o.guard = none ∧ ∀ e ∈ o.after, Region.binds md e = true → e.on < i := by
  have hi := (Array.getElem?_eq_some_iff.1 ho).1
  have h1 := List.all_eq_true.1 h i (List.mem_range.2 hi)
  rw [ho] at h1
  simp only [Option.map_some, Option.getD_some, Bool.and_eq_true] at h1
  refine ⟨by simpa using h1.1, fun e he hbd => ?_⟩
  have := (Array.all_eq_true_iff_forall_mem.1 h1.2) e he
  rw [hbd] at this
  simpa using this
theorem ready_mem {listed : Array Bool} (hs : listed.size = ops.size) {i : Nat} (h : i ∈ Region.ready md ops listed) :
    ∃ o, ops[i]? = some o ∧ listed.getD i false = false ∧ i < listed.size ∧ ∀ e ∈ o.after, Region.binds md e = true → listed.getD e.on false = true := by
  unfold Region.ready at h
  obtain ⟨h1, h2⟩ := List.mem_filter.1 h
  have hi := List.mem_range.1 h1
  refine ⟨ops[i], Array.getElem?_eq_getElem hi, ?_, by omega, ?_⟩
  · simp only [Bool.and_eq_true] at h2
    have h3 := h2.1
    have hj : i < listed.size := by omega
    simp only [Array.getD, hj, dite_true] at h3 ⊢
    simpa using h3
  · intro e he hb
    simp only [Bool.and_eq_true, Array.getElem?_eq_getElem hi, Option.map_some, Option.getD_some] at h2
    have h3 := (Array.all_eq_true_iff_forall_mem.1 h2.2) e he
    rw [hb] at h3
    simpa using h3
theorem ready_all (hb : backB md ops = true) {listed : Array Bool} (hs : listed.size = ops.size) (h : Region.ready md ops listed = []) : ∀ i, i < ops.size → listed.getD i false = true := by
  intro i
  induction i using Nat.strongRecOn with
  | _ i ih =>
    intro hi
    by_cases hl : listed.getD i false = true
    · exact hl
    · exfalso
      have hj : i < listed.size := by omega
      have hm : i ∈ Region.ready md ops listed := by
        unfold Region.ready
        refine List.mem_filter.2 ⟨List.mem_range.2 hi, ?_⟩
        simp only [Bool.and_eq_true, Array.getElem?_eq_getElem hi, Option.map_some, Option.getD_some]
        refine ⟨?_, Array.all_eq_true_iff_forall_mem.2 fun e he => ?_⟩
        · simp only [Array.getD, hj, dite_true] at hl ⊢
          simpa using hl
        · cases hbd : Region.binds md e with
          | false => rfl
          | true =>
            have h1 := (back_of hb (Array.getElem?_eq_getElem hi)).2 e he hbd
            rw [ih e.on h1 (by omega)]
            simp
      rw [h] at hm
      cases hm
theorem wpAny_inv (hb : backB md ops = true) (Inv : (Nat → Bool) → Act → World → Prop)
    (hstep : ∀ (f : Nat → Bool) (a : Act) (w : World) (i : Nat) (o : Oper), ops[i]? = some o → f i = false → (∀ e ∈ o.after, Region.binds md e = true → f e.on = true) → Inv f a w →
      o.wp P a w (Inv (fun j => if j = i then true else f j)) Q)
    (hdone : ∀ (f : Nat → Bool) (a : Act) (w : World), (∀ i, i < ops.size → f i = true) → Inv f a w → Q .normal a w) :
    ∀ (fuel : Nat) (listed : Array Bool) (a : Act) (w : World), listed.size = ops.size → listed.toList.count false ≤ fuel → Inv (fun i => listed.getD i false) a w → wpAny P md ops Q fuel listed a w := by
  intro fuel
  induction fuel with
  | zero =>
    intro listed a w hs hc hI
    have hr : Region.ready md ops listed = [] := by
      cases hr : Region.ready md ops listed with
      | nil => rfl
      | cons i r =>
        obtain ⟨o, ho, hl, hi, _⟩ := ready_mem (md := md) hs (i := i) (by rw [hr]; exact List.mem_cons_self)
        have h1 : false ∈ listed.toList := by
          simp only [Array.getD, hi, dite_true] at hl
          have h2 : listed[i] ∈ listed.toList := Array.mem_toList_iff.2 (Array.getElem_mem hi)
          have h3 : listed[i] = false := hl
          rwa [h3] at h2
        have := List.count_pos_iff.2 h1
        omega
    exact ⟨hr, hdone _ a w (ready_all hb hs hr) hI⟩
  | succ fuel ih =>
    intro listed a w hs hc hI
    refine ⟨fun hr => hdone _ a w (ready_all hb hs hr) hI, fun i hi => ?_⟩
    obtain ⟨o, ho, hl, hil, hpre⟩ := ready_mem hs hi
    have hg := (back_of hb ho).1
    have h1 := hstep _ a w i o ho hl hpre hI
    unfold wpOp
    simp only [ho]
    rw [if_pos (by simp [Region.wanted, hg])]
    refine .inl (Oper.wp_mono (fun a' w' hI' => ?_) h1)
    refine ih _ a' w' (by simp [hs]) ?_ ?_
    · have h3 : listed.toList[i]'(by simpa using hil) = false := by
        simp only [Array.getD, hil, dite_true] at hl
        simpa using hl
      rw [Array.toList_setIfInBounds, List.count_set (h := by simpa using hil), h3]
      have h4 : 0 < listed.toList.count false := List.count_pos_iff.2 (by rw [← h3]; exact List.getElem_mem _)
      rw [if_pos (by rfl), if_neg (by decide)]
      omega
    · refine cast (congrArg (fun g => Inv g a' w') (funext fun j => ?_)) hI'
      by_cases hj : j = i
      · subst hj
        simp [Array.getD, hil]
      · rw [if_neg hj]
        simp only [Array.getD, Array.size_setIfInBounds]
        by_cases hjl : j < listed.size
        · simp [hjl, Array.getElem_setIfInBounds, Ne.symm hj]
        · simp [hjl]
theorem region_inv {id : Nat} {a : Act} {w : World} (hm : P.follows .mixedOrders = true) (hb : backB .any ops = true) (Inv : (Nat → Bool) → Act → World → Prop) (h0 : Inv (fun _ => false) a w.drew)
    (hstep : ∀ (f : Nat → Bool) (a : Act) (w : World) (i : Nat) (o : Oper), ops[i]? = some o → f i = false → (∀ e ∈ o.after, Region.binds .any e = true → f e.on = true) → Inv f a w →
      o.wp P a w (Inv (fun j => if j = i then true else f j)) Q)
    (hdone : ∀ (f : Nat → Bool) (a : Act) (w : World), (∀ i, i < ops.size → f i = true) → Inv f a w → Q .normal a w) : (Code.region id ops true).wp P Q a w := by
  refine wp_region_any hm (wpAny_inv hb Inv hstep hdone _ _ a _ (by simp) ?_ ?_)
  · refine Nat.le_trans List.count_le_length ?_
    simp
  · refine cast (congrArg (fun g => Inv g a w.drew) (funext fun j => ?_)) h0
    by_cases hj : j < ops.size <;> simp [Array.getD, hj]
end
end Go.Proofs.YtcfhenekoaegaaaGreatDoor

/- A region that draws its order and fills one slot by each operation: by what each slot holds. -/
namespace Go.Proofs.YtcfhenekoaegaaaGreatDoor
set_option linter.unusedVariables false
set_option linter.unusedSimpArgs false
open Go.RowKit
set_option maxHeartbeats 2000000
def fillN (slot : Nat → Nat) (vs : Nat → Value) (m : Nat) (t : Array Value) : Array Value := (List.range m).foldl (fun t i => t.setIfInBounds (slot i) (vs i)) t
theorem fillN_succ (slot : Nat → Nat) (vs : Nat → Value) (m : Nat) (t : Array Value) : fillN slot vs (m + 1) t = (fillN slot vs m t).setIfInBounds (slot m) (vs m) := by
  simp [fillN, List.range_succ]
theorem fillN_size (slot : Nat → Nat) (vs : Nat → Value) (m : Nat) (t : Array Value) : (fillN slot vs m t).size = t.size := by
  induction m with
  | zero => rfl
  | succ m ih => rw [fillN_succ, Array.size_setIfInBounds, ih]
theorem getD_set (t : Array Value) (d j : Nat) (v : Value) (hd : d < t.size) : (t.setIfInBounds d v).getD j undef = if j = d then v else t.getD j undef := by
  rw [Array.getD_eq_getD_getElem?, Array.getD_eq_getD_getElem?, Array.getElem?_setIfInBounds]
  by_cases h : j = d
  · subst h; simp [hd]
  · rw [if_neg (Ne.symm h), if_neg h]
theorem fillN_get (slot : Nat → Nat) (vs : Nat → Value) (t : Array Value) (hs : ∀ i, slot i < t.size) : ∀ m j, (∀ i, i < m → slot i ≠ j) → (fillN slot vs m t).getD j undef = t.getD j undef
  | 0, j, _ => rfl
  | m + 1, j, h => by
    rw [fillN_succ, getD_set _ _ _ _ (by rw [fillN_size]; exact hs m), if_neg (Ne.symm (h m (by omega))), fillN_get slot vs t hs m j (fun i hi => h i (by omega))]
theorem fillN_at (slot : Nat → Nat) (vs : Nat → Value) (t : Array Value) (hs : ∀ i, slot i < t.size) : ∀ m, (∀ i j, i < m → j < m → slot i = slot j → i = j) → ∀ i, i < m → (fillN slot vs m t).getD (slot i) undef = vs i
  | 0, _, i, hi => absurd hi (by omega)
  | m + 1, hinj, i, hi => by
    rw [fillN_succ, getD_set _ _ _ _ (by rw [fillN_size]; exact hs m)]
    by_cases h : i = m
    · subst h; rw [if_pos rfl]
    · rw [if_neg (fun e => h (hinj i m hi (by omega) e))]
      exact fillN_at slot vs t hs m (fun i j h1 h2 h3 => hinj i j (by omega) (by omega) h3) i (by omega)
theorem ext_getD {s t : Array Value} (hs : s.size = t.size) (h : ∀ j, s.getD j undef = t.getD j undef) : s = t := by
  refine Array.ext hs (fun i h1 h2 => ?_)
  have := h i
  rw [Array.getD_eq_getD_getElem?, Array.getD_eq_getD_getElem?, Array.getElem?_eq_getElem h1, Array.getElem?_eq_getElem h2] at this
  exact this
section
variable {P : Program} {ops : Array Oper} {Q : Exit → Act → World → Prop}
/-- where such a region stands -/
structure Stand (a0 : Act) (w0 : World) (m : Nat) (slot : Nat → Nat) (F : Nat → World → Value → Prop) (f : Nat → Bool) (a : Act) (w : World) : Prop where
  defers : a.defers = a0.defers
  size : a.tmps.size = a0.tmps.size
  rest : ∀ j, (∀ i, i < m → slot i ≠ j) → a.tmps.getD j undef = a0.tmps.getD j undef
  bel : Below w0.heap.size w0 w
  have_ : ∀ i, i < m → f i = true → F i w (a.tmps.getD (slot i) undef)
theorem region_slots {id : Nat} {a0 : Act} {w0 : World} (slot : Nat → Nat) (F : Nat → World → Value → Prop) (hm : P.follows .mixedOrders = true) (hb : backB .any ops = true)
    (hs : ∀ i, slot i < a0.tmps.size) (hinj : ∀ i j, i < ops.size → j < ops.size → slot i = slot j → i = j) (hF : ∀ i w w' v, F i w v → Below w.heap.size w w' → F i w' v)
    (hdst : ∀ i o, ops[i]? = some o → o.dst = some (slot i))
    (hstep : ∀ (f : Nat → Bool) (a : Act) (w : World) (i : Nat) (o : Oper), ops[i]? = some o → (∀ e ∈ o.after, Region.binds .any e = true → F e.on w (a.tmps.getD (slot e.on) undef)) → Below w0.heap.size w0 w →
      (∀ j, (∀ i, i < ops.size → slot i ≠ j) → a.tmps.getD j undef = a0.tmps.getD j undef) → o.wp P a w (fun a' w' => ∃ v, a' = a.put o.dst v ∧ F i w' v ∧ Below w.heap.size w w') Q)
    (hdone : ∀ (vs : Nat → Value) (w : World), Below w0.heap.size w0 w → (∀ i, i < ops.size → F i w (vs i)) → Q .normal { a0 with tmps := fillN slot vs ops.size a0.tmps } w) : (Code.region id ops true).wp P Q a0 w0 := by
  refine region_inv hm hb (Stand a0 w0 ops.size slot F) ⟨rfl, rfl, fun _ _ => rfl, ⟨rfl, rfl, rfl, Nat.le_refl _, fun _ _ => rfl⟩, fun _ _ h => by cases h⟩ ?_ ?_
  · intro f a w i o ho hf hpre hI
    have hi := (Array.getElem?_eq_some_iff.1 ho).1
    refine Oper.wp_mono ?_ (hstep f a w i o ho (fun e he hbd => hI.have_ e.on (by have := (back_of hb ho).2 e he hbd; omega) (hpre e he hbd)) hI.bel hI.rest)
    rintro a' w' ⟨v, rfl, hv, hbw⟩
    rw [hdst i o ho]
    have hsl : slot i < a.tmps.size := by rw [hI.size]; exact hs i
    refine ⟨hI.defers, by rw [← hI.size]; exact Array.size_setIfInBounds .., fun j hj => ?_, hI.bel.trans (hbw.mono hI.bel.size), fun j hj hfj => ?_⟩
    · show (a.tmps.setIfInBounds (slot i) v).getD j undef = _
      rw [getD_set _ _ _ _ hsl, if_neg (Ne.symm (hj i hi))]
      exact hI.rest j hj
    · show F j w' ((a.tmps.setIfInBounds (slot i) v).getD (slot j) undef)
      rw [getD_set _ _ _ _ hsl]
      by_cases hji : j = i
      · subst hji; rw [if_pos rfl]; exact hv
      · rw [if_neg (fun e => hji (hinj j i hj hi e))]
        have h2 : f j = true := by simpa [hji] using hfj
        exact hF j w w' _ (hI.have_ j hj h2) hbw
  · intro f a w hall hI
    have e : a = { a0 with tmps := fillN slot (fun i => a.tmps.getD (slot i) undef) ops.size a0.tmps } := by
      have h1 : a.tmps = fillN slot (fun i => a.tmps.getD (slot i) undef) ops.size a0.tmps := by
        refine ext_getD (by rw [fillN_size, hI.size]) (fun j => ?_)
        by_cases hj : ∃ i, i < ops.size ∧ slot i = j
        · obtain ⟨i, hi, rfl⟩ := hj
          rw [fillN_at slot _ _ hs _ hinj i hi]
        · rw [fillN_get slot _ _ hs _ j (fun i hi e => hj ⟨i, hi, e⟩), hI.rest j (fun i hi e => hj ⟨i, hi, e⟩)]
      obtain ⟨t, d⟩ := a
      have h2 := hI.defers
      simp only at h1 h2
      rw [← h1, h2]
    rw [e]
    exact hdone _ w hI.bel (fun i hi => hI.have_ i hi (hall i hi))
end
end Go.Proofs.YtcfhenekoaegaaaGreatDoor

/- A drawn region by what its slots hold, where the world is told by a relation of its own. -/
namespace Go.Proofs.YtcfhenekoaegaaaGreatDoor
set_option linter.unusedVariables false
set_option linter.unusedSimpArgs false
open Go.RowKit
section
variable {P : Program} {ops : Array Oper} {Q : Exit → Act → World → Prop}
/-- where such a region stands -/
structure Stand2 (a0 : Act) (m : Nat) (slot : Nat → Nat) (F : Nat → World → Value → Prop) (T : (Nat → Bool) → World → Prop) (f : Nat → Bool) (a : Act) (w : World) : Prop where
  defers : a.defers = a0.defers
  size : a.tmps.size = a0.tmps.size
  rest : ∀ j, (∀ i, i < m → slot i ≠ j) → a.tmps.getD j undef = a0.tmps.getD j undef
  yet : ∀ i, i < m → f i = false → a.tmps.getD (slot i) undef = a0.tmps.getD (slot i) undef
  told : T f w
  have_ : ∀ i, i < m → f i = true → F i w (a.tmps.getD (slot i) undef)
theorem region_slots2 {id : Nat} {a0 : Act} {w0 : World} (slot : Nat → Nat) (F : Nat → World → Value → Prop) (T : (Nat → Bool) → World → Prop) (hm : P.follows .mixedOrders = true) (hb : backB .any ops = true)
    (hs : ∀ i, slot i < a0.tmps.size) (hinj : ∀ i j, i < ops.size → j < ops.size → slot i = slot j → i = j) (h0 : T (fun _ => false) w0.drew)
    (hdst : ∀ i o, ops[i]? = some o → o.dst = some (slot i))
    (hstep : ∀ (f : Nat → Bool) (a : Act) (w : World) (i : Nat) (o : Oper), ops[i]? = some o → f i = false → (∀ e ∈ o.after, Region.binds .any e = true → f e.on = true ∧ F e.on w (a.tmps.getD (slot e.on) undef)) → T f w →
      (∀ j, (∀ i, i < ops.size → slot i ≠ j) → a.tmps.getD j undef = a0.tmps.getD j undef) → (∀ i, i < ops.size → f i = false → a.tmps.getD (slot i) undef = a0.tmps.getD (slot i) undef) →
      o.wp P a w (fun a' w' => ∃ v, a' = a.put o.dst v ∧ F i w' v ∧ T (fun j => if j = i then true else f j) w' ∧ ∀ j v', f j = true → F j w v' → F j w' v') Q)
    (hdone : ∀ (f : Nat → Bool) (vs : Nat → Value) (w : World), (∀ i, i < ops.size → f i = true) → T f w → (∀ i, i < ops.size → F i w (vs i)) → Q .normal { a0 with tmps := fillN slot vs ops.size a0.tmps } w) : (Code.region id ops true).wp P Q a0 w0 := by
  refine region_inv hm hb (Stand2 a0 ops.size slot F T) ⟨rfl, rfl, fun _ _ => rfl, fun _ _ _ => rfl, h0, fun _ _ h => by cases h⟩ ?_ ?_
  · intro f a w i o ho hf hpre hI
    have hi := (Array.getElem?_eq_some_iff.1 ho).1
    refine Oper.wp_mono ?_ (hstep f a w i o ho hf (fun e he hbd => ⟨hpre e he hbd, hI.have_ e.on (by have := (back_of hb ho).2 e he hbd; omega) (hpre e he hbd)⟩) hI.told hI.rest hI.yet)
    rintro a' w' ⟨v, rfl, hv, ht, hst⟩
    rw [hdst i o ho]
    have hsl : slot i < a.tmps.size := by rw [hI.size]; exact hs i
    refine ⟨hI.defers, by rw [← hI.size]; exact Array.size_setIfInBounds .., fun j hj => ?_, fun j hj hfj => ?_, ht, fun j hj hfj => ?_⟩
    · show (a.tmps.setIfInBounds (slot i) v).getD j undef = _
      rw [getD_set _ _ _ _ hsl, if_neg (Ne.symm (hj i hi))]
      exact hI.rest j hj
    · show (a.tmps.setIfInBounds (slot i) v).getD (slot j) undef = _
      have hji : j ≠ i := fun e => by simp [e] at hfj
      rw [getD_set _ _ _ _ hsl, if_neg (fun e => hji (hinj j i hj hi e))]
      exact hI.yet j hj (by simpa [hji] using hfj)
    · show F j w' ((a.tmps.setIfInBounds (slot i) v).getD (slot j) undef)
      rw [getD_set _ _ _ _ hsl]
      by_cases hji : j = i
      · subst hji; rw [if_pos rfl]; exact hv
      · rw [if_neg (fun e => hji (hinj j i hj hi e))]
        have h2 : f j = true := by simpa [hji] using hfj
        exact hst j _ h2 (hI.have_ j hj h2)
  · intro f a w hall hI
    have e : a = { a0 with tmps := fillN slot (fun i => a.tmps.getD (slot i) undef) ops.size a0.tmps } := by
      have h1 : a.tmps = fillN slot (fun i => a.tmps.getD (slot i) undef) ops.size a0.tmps := by
        refine ext_getD (by rw [fillN_size, hI.size]) (fun j => ?_)
        by_cases hj : ∃ i, i < ops.size ∧ slot i = j
        · obtain ⟨i, hi, rfl⟩ := hj
          rw [fillN_at slot _ _ hs _ hinj i hi]
        · rw [fillN_get slot _ _ hs _ j (fun i hi e => hj ⟨i, hi, e⟩), hI.rest j (fun i hi e => hj ⟨i, hi, e⟩)]
      obtain ⟨t, d⟩ := a
      have h2 := hI.defers
      simp only at h1 h2
      rw [← h1, h2]
    rw [e]
    exact hdone f _ w hall hI.told (fun i hi => hI.have_ i hi (hall i hi))
end
end Go.Proofs.YtcfhenekoaegaaaGreatDoor

/- Slices of bytes, and slices of such, as they lie in memory. No condition but those that each lemma states. -/
namespace Go.Proofs.YtcfhenekoaegaaaGreatDoor
set_option linter.unusedVariables false
set_option linter.unusedSimpArgs false
open Go.RowKit
def by8 (b : UInt8) : Value := .int .u8 (b.toNat : Int)
/-- a slice of bytes -/
def BRow (w : World) (v : Value) (l : List UInt8) : Prop := ∃ ao cap, v = .slice ao l.length cap ∧ l.length ≤ cap ∧
  ((ao = none ∧ l = [] ∧ cap = 0) ∨ ∃ g o, ao = some ⟨g, o, none⟩ ∧ ∀ j, j < l.length → w.cell? ⟨g, o + j, none⟩ = some (by8 (l.getD j 0)))
theorem BRow.below {w w' : World} {v : Value} {l : List UInt8} (h : BRow w v l) (hb : Below w.heap.size w w') : BRow w' v l := by
  obtain ⟨ao, cap, rfl, hc, h⟩ := h
  refine ⟨ao, cap, rfl, hc, ?_⟩
  rcases h with h | ⟨g, o, rfl, h⟩
  · exact .inl h
  · exact .inr ⟨g, o, rfl, fun j hj => cell_below hb (h j hj)⟩
theorem BRow.nil (w : World) : BRow w (.slice none 0 0) [] := ⟨none, 0, rfl, Nat.le_refl _, .inl ⟨rfl, rfl, rfl⟩⟩
/-- one block holds no byte: what else holds bytes lies elsewhere -/
theorem BRow.grown {w w' : World} {v : Value} {l : List UInt8} {K : Nat} {x : Value} {t : TypeId} (h : BRow w v l) (hK : w.heap[K]? = some (.cells #[x] t (0, 0))) (hx : ∀ k n, x ≠ .int k n) (hg : w.grownBy w' (some K)) : BRow w' v l := by
  obtain ⟨ao, cap, rfl, hc, h⟩ := h
  refine ⟨ao, cap, rfl, hc, ?_⟩
  rcases h with h | ⟨g, o, rfl, h⟩
  · exact .inl h
  · refine .inr ⟨g, o, rfl, fun j hj => ?_⟩
    have hc := h j hj
    have hne : some g ≠ some K := by
      intro e
      obtain rfl : g = K := by simpa using e
      simp only [World.cell?, hK, Option.bind_eq_bind] at hc
      rcases Nat.eq_zero_or_pos (o + j) with h0 | h0
      · rw [h0] at hc
        simp [by8] at hc
        exact hx _ _ hc
      · have : (#[x] : Array Value)[o + j]? = none := Array.getElem?_eq_none (by simp; omega)
        simp [this] at hc
    have hlt := lt_of_cell hc
    exact (World.cell?_of_block (a := ⟨g, o + j, none⟩) (hg.block g hlt hne)).trans hc
/-- a slice of slices of bytes -/
def BRows (w : World) (v : Value) (L : List (List UInt8)) : Prop := ∃ p c, v = .slice p L.length c ∧ L.length ≤ c ∧
  ((p = none ∧ L = [] ∧ c = 0) ∨ ∃ g o, p = some ⟨g, o, none⟩ ∧ ∀ k, k < L.length → ∃ x, w.cell? ⟨g, o + k, none⟩ = some x ∧ BRow w x (L.getD k []))
theorem BRows.below {w w' : World} {v : Value} {L : List (List UInt8)} (h : BRows w v L) (hb : Below w.heap.size w w') : BRows w' v L := by
  obtain ⟨p, c, rfl, hc, h⟩ := h
  refine ⟨p, c, rfl, hc, ?_⟩
  rcases h with h | ⟨g, o, rfl, h⟩
  · exact .inl h
  · refine .inr ⟨g, o, rfl, fun k hk => ?_⟩
    obtain ⟨x, h1, h2⟩ := h k hk
    exact ⟨x, cell_below hb h1, h2.below hb⟩
/-- what a slice of the call's own owns reads as bytes -/
theorem BRow.of_own {w : World} {base : Nat} {v : Value} {l : List UInt8} {n : Nat} (h : w.ownsRow base 5 1 v n (l.map by8)) : BRow w v l := by
  have hl : n = l.length := by have := h.1; simpa using this.symm
  subst hl
  rcases h.2 with ⟨rfl, h0⟩ | ⟨g, cap, cur, rfl, hb, hg, hn, hm, hs, ht⟩
  · have : l = [] := List.length_eq_zero_iff.1 h0
    subst this
    exact BRow.nil w
  · refine ⟨_, cap, rfl, hn, .inr ⟨g, 0, rfl, fun j hj => ?_⟩⟩
    rw [Nat.zero_add]
    unfold World.cell?
    rw [show (⟨g, j, none⟩ : Addr).block = g from rfl, hg]
    show (if (none : Option _).isSome then none else cur[j]?) = _
    have h1 : (cur.toList.take (l.length * 1))[j]? = (l.map by8)[j]? := by rw [ht]
    rw [List.getElem?_take_of_lt (by omega)] at h1
    rw [if_neg (by simp), ← Array.getElem?_toList, h1, List.getElem?_map, List.getElem?_eq_getElem hj, List.getD_eq_getElem?_getD, List.getElem?_eq_getElem hj]
    rfl
theorem conv_brow {w : World} {v : Value} {l : List UInt8} (h : BRow w v l) : (convert 74 9 v).run Tryz.prog w = .ok (.string ⟨l.toArray⟩) w := by
  obtain ⟨ao, cap, rfl, hc, h⟩ := h
  rcases h with ⟨rfl, rfl, rfl⟩ | ⟨g, o, rfl, h⟩
  · rw [show ([] : List UInt8).length = 0 from rfl, run_convert_bytes_string w 74 9 5 none 0 0 Tryz.underlying74 Tryz.underlying5 Tryz.underlying9]
    rfl
  · refine run_convert_bytes_back w 74 9 5 ⟨g, o, none⟩ cap l Tryz.underlying74 Tryz.underlying5 Tryz.underlying9 (fun j hj => ?_)
    rw [Lib.add_plain, h j hj, List.getD_eq_getElem?_getD, List.getElem?_eq_getElem hj]
    rfl
theorem by8_one (u : Value) (l : List UInt8) (h : u ∈ l.map by8) : u.oneCell' = true := by
  obtain ⟨b, _, rfl⟩ := List.mem_map.1 h
  rfl
/-- the bytes of a row, as append asks for them -/
theorem BRow.news {w : World} {g o : Nat} {l : List UInt8} (h : ∀ j, j < l.length → w.cell? ⟨g, o + j, none⟩ = some (by8 (l.getD j 0))) (j : Nat) (u : Value) (hj : (l.map by8)[j]? = some u) : w.cell? ((⟨g, o, none⟩ : Addr).add j) = some u := by
  rw [List.getElem?_map] at hj
  rcases hl : l[j]? with _ | x
  · rw [hl] at hj; cases hj
  · rw [hl] at hj
    have hlt := (List.getElem?_eq_some_iff.1 hl).1
    rw [Lib.add_plain, h j hlt, List.getD_eq_getElem?_getD, hl]
    exact hj
end Go.Proofs.YtcfhenekoaegaaaGreatDoor

/- The reference's Decode. -/
namespace Go.Proofs.YtcfhenekoaegaaaGreatDoor
set_option linter.unusedVariables false
set_option linter.unusedSimpArgs false
open Go.RowKit Go.Shelf
set_option maxHeartbeats 4000000
set_option maxRecDepth 100000
/-- what the slots of the drawn region hold -/
def RdF (s : ByteArray) (i : Nat) (x1 x2 d1 d2 y : Int) (v0 : Value) (B n : Nat) (xs : List Value) : Nat → World → Value → Prop
  | 0, _, v => v = v0
  | 1, _, v => v = .string s
  | 2, _, v => v = .int .i64 i
  | 3, _, v => v = .int .i64 (i + 1 : Nat)
  | 4, _, v => v = .int .u8 x1
  | 5, _, v => v = .int .u64 d1
  | 6, _, v => v = .int .u64 (16 * d1)
  | 7, _, v => v = .string s
  | 8, _, v => v = .int .i64 i
  | 9, _, v => v = .int .i64 (i + 2 : Nat)
  | 10, _, v => v = .int .u8 x2
  | 11, _, v => v = .int .u64 d2
  | 12, _, v => v = .int .u64 (16 * d1 + d2)
  | 13, _, v => v = .int .u8 y
  | 14, w, v => ∃ g, v = .slice (some ⟨g, 0, none⟩) 1 1 ∧ w.heap[g]? = some (.cells #[.int .u8 y] 5 (0, 0)) ∧ v0.ownBlock ≠ some g
  | 15, w, v => w.ownsRow B 5 1 v (n + 1) (xs ++ [.int .u8 y])
  | 16, w, v => w.ownsRow B 5 1 v (n + 1) (xs ++ [.int .u8 y])
  | _, _, _ => False
def rdSlot (i : Nat) : Nat := ([46, 47, 48, 49, 50, 51, 52, 53, 54, 55, 56, 57, 58, 59, 60, 61, 6] : List Nat).getD i 46
theorem rdSlot_lt (i : Nat) : rdSlot i < 77 := by
  unfold rdSlot
  match i with
  | 0 | 1 | 2 | 3 | 4 | 5 | 6 | 7 | 8 | 9 | 10 | 11 | 12 | 13 | 14 | 15 | 16 => decide
  | n + 17 => simp
theorem rdSlot_inj : ∀ i, i < 17 → ∀ j, j < 17 → rdSlot i = rdSlot j → i = j := by decide
theorem RdF.alloc {s : ByteArray} {i : Nat} {x1 x2 d1 d2 y : Int} {v0 : Value} {B n : Nat} {xs : List Value} (j : Nat) (w : World) (o : Obj) (v : Value) (h : RdF s i x1 x2 d1 d2 y v0 B n xs j w v) : RdF s i x1 x2 d1 d2 y v0 B n xs j (w.alloc o) v := by
  match j, h with
  | 0, h | 1, h | 2, h | 3, h | 4, h | 5, h | 6, h | 7, h | 8, h | 9, h | 10, h | 11, h | 12, h | 13, h => exact h
  | 14, ⟨g, h1, h2, h3⟩ =>
    refine ⟨g, h1, ?_, h3⟩
    rw [Below.heap_alloc _ _ _ (Array.getElem?_eq_some_iff.1 h2).1]
    exact h2
  | 15, h => exact World.ownsRow.alloc h _
  | 16, h => exact World.ownsRow.alloc h _
  | n + 17, h => exact h.elim
/-- the world, as far as the region has come -/
def RdT (w0 : World) (v0 : Value) (B n : Nat) (xs : List Value) (f : Nat → Bool) (w : World) : Prop :=
  Below B w0 w ∧ (f 15 = false → w.ownsRow B 5 1 v0 n xs ∧ f 16 = false) ∧ (f 0 = false → f 15 = false) ∧ (f 14 = false → f 15 = false)
/-- one operation that leaves the world -/
theorem s2_same {P : Program} {o : Oper} {a : Act} {w : World} {Q : Exit → Act → World → Prop} {F : Nat → World → Value → Prop} {T : (Nat → Bool) → World → Prop} {f : Nat → Bool} {i : Nat} (v : Value)
    (h : o.wp P a w (fun a' w' => a' = a.put o.dst v ∧ w' = w) Q) (hF : F i w v) (hT : T (fun j => if j = i then true else f j) w) :
    o.wp P a w (fun a' w' => ∃ v, a' = a.put o.dst v ∧ F i w' v ∧ T (fun j => if j = i then true else f j) w' ∧ ∀ j v', f j = true → F j w v' → F j w' v') Q := by
  refine Oper.wp_mono ?_ h
  rintro a' w' ⟨rfl, rfl⟩
  exact ⟨v, rfl, hF, hT, fun _ _ _ h => h⟩
theorem rdT_step {w0 w : World} {v0 : Value} {B n : Nat} {xs : List Value} {f : Nat → Bool} {i : Nat} (h : RdT w0 v0 B n xs f w) (h1 : i ≠ 15) (h2 : i ≠ 16) : RdT w0 v0 B n xs (fun j => if j = i then true else f j) w := by
  obtain ⟨a, b, c, d⟩ := h
  refine ⟨a, fun h3 => ?_, fun h3 => ?_, fun h3 => ?_⟩
  · have h4 : f 15 = false := by simpa [Ne.symm h1] using h3
    exact ⟨(b h4).1, by simpa [Ne.symm h2] using (b h4).2⟩
  · have : f 0 = false := by by_cases e : 0 = i <;> simp_all
    simpa [Ne.symm h1] using c this
  · have : f 14 = false := by by_cases e : 14 = i <;> simp_all
    simpa [Ne.symm h1] using d this
theorem ev_tmp {a : Act} {t : Nat} {v : Value} (h : a.tmps.getD t undef = v) : a.tmps[t]?.getD undef = v := by rw [← Array.getD_eq_getD_getElem?]; exact h
/-- what Decode answers -/
theorem call_same {P : Program} {o : Oper} {a : Act} {w : World} {Q : Exit → Act → World → Prop} (t k : Nat) (ty : Array TypeId) (v r : Value) (ho : o.op = Op.call { callee := .value (.func k), args := #[.tmp t], argTypes := ty }) (hv : a.tmps.getD t undef = v)
    (eg : ∀ args w, (callFunc k args).run P w = .ok (.enter k args) w) (hc : Calls P k #[v] w fun e w' => e = .returned r ∧ w = w') :
    o.wp P a w (fun a' w' => a' = a.put o.dst r ∧ w' = w) Q := by
  have e := ev_tmp hv
  have e2 : a.eval (.func k) = .func (.func k) #[] #[] := rfl
  unfold Oper.wp execOp
  simp [ho, resolve, invoke, e2, e, eg, go_sem]
  refine hc.mono ?_
  rintro z w' ⟨rfl, rfl⟩
  exact ⟨rfl, rfl⟩
theorem ref_Decode (s : ByteArray) (pl : Bool) (w : World) (hs : s.size ≤ 1000000) :
    Calls Tryz.prog 12 #[.string s, .bool pl] w fun e w' => e = .returned (decOut (Gt.dec pl s.data.toList)) ∧ Below w.heap.size w w' := by
  obtain ⟨i0, hi, hz0, hz1, hz2⟩ := info_parts (show (Tryz.prog.info? 5).map (fun i => (i.zero, i.size, i.bytes)) = some (some (.int .u8 0), 1, 1) by kernel_rfl)
  obtain ⟨B, hB⟩ : ∃ B, w.heap.size = B := ⟨_, rfl⟩
  rw [hB]
  have HL := Lib.hid (show s.data.toList.length = s.size from rfl)
  have HIX := Lib.hid (fun k h W => index_at s W k h)
  obtain ⟨O, hO⟩ : ∃ O, Gt.dec pl s.data.toList = O := ⟨_, rfl⟩
  rw [hO]
  have HO := Lib.hid hO
  clear hO
  go_enter Tryz.func12, Tryz.ntmps12
  go_wp2_with fail
  go_loopw [6, 7] (fun v i wr => ∃ (k : Nat) (acc : List UInt8), i = .int .i64 k ∧ Gt.DAt pl s.data.toList acc k ∧ wr.ownsRow B 5 1 v acc.length (acc.map by8) ∧ Below B w wr)
    (fun _ i _ => s.size - (intOf i).toNat)
  case atStart => exact ⟨0, [], rfl, Gt.dAt_start _ _, World.ownsRow_nil _ _ _ _, Below.refl _ _⟩
  case round =>
    obtain ⟨k, acc, rfl, hat, hown, hbl⟩ := hrel
    obtain ⟨V, rfl⟩ : ∃ V, V = u6 := ⟨_, rfl⟩
    have hk : k ≤ s.size := hat.1
    have hacc : acc.length ≤ k := hat.2.1
    have HA := Lib.hid hat
    have HN := Lib.hid hown
    have HB := Lib.hid hbl
    clear hat hown hbl
    by_cases hlt : k < s.size
    · have HKL := Lib.hid (show k < s.data.toList.length from hlt)
      obtain ⟨c, hcc⟩ : ∃ c, s.data.toList[k]'HKL.out = c := ⟨_, rfl⟩
      have HC := Lib.hid hcc
      obtain ⟨x, hx⟩ : ∃ x : Int, (c.toNat : Int) = x := ⟨_, rfl⟩
      have hsx : ((s[k]'hlt).toNat : Int) = x := by rw [← hx, ← hcc]; rfl
      have HX := Lib.hid hx
      clear hx hcc
      by_cases he : x = 37
      · subst he
        have HC37 := Lib.hid (show c = 37 from UInt8.toNat_inj.1 (by have := HX.out; show c.toNat = 37; omega))
        by_cases hsh : s.size ≤ k + 2
        · have HE := Lib.hid (Gt.dAt_short HA.out HKL.out (HC.out.trans HC37.out) (by rw [HL.out]; exact hsh))
          go_wp2_with fail
          go_ret2
          exact ⟨by rw [← HO.out, HE.out]; rfl, HB.out⟩
        · have hk1 : k + 1 < s.size := by omega
          have hk2 : k + 2 < s.size := by omega
          have HK1 := Lib.hid (show k + 1 < s.data.toList.length by rw [HL.out]; exact hk1)
          have HK2 := Lib.hid (show k + 2 < s.data.toList.length by rw [HL.out]; exact hk2)
          obtain ⟨b1, hb1⟩ : ∃ b, s.data.toList[k + 1]'HK1.out = b := ⟨_, rfl⟩
          obtain ⟨b2, hb2⟩ : ∃ b, s.data.toList[k + 2]'HK2.out = b := ⟨_, rfl⟩
          obtain ⟨x1, hx1⟩ : ∃ x : Int, (b1.toNat : Int) = x := ⟨_, rfl⟩
          obtain ⟨x2, hx2⟩ : ∃ x : Int, (b2.toNat : Int) = x := ⟨_, rfl⟩
          have r1 : ∀ W, (Instr.index 9 (.string s) (.int .i64 ((k : Int) + 1))).run Tryz.prog W = .ok (.int .u8 x1) W := fun W => by
            have := HIX.out (k + 1) hk1 W
            rw [show ((s[k + 1]'hk1).toNat : Int) = x1 by rw [← hx1, ← hb1]; rfl] at this
            exact this
          have r2 : ∀ W, (Instr.index 9 (.string s) (.int .i64 ((k : Int) + 2))).run Tryz.prog W = .ok (.int .u8 x2) W := fun W => by
            have := HIX.out (k + 2) hk2 W
            rw [show ((s[k + 2]'hk2).toNat : Int) = x2 by rw [← hx2, ← hb2]; rfl] at this
            exact this
          have K1 := Lib.hid (fun W => ref_digit x1 W (by omega) (by have := b1.toNat_lt; omega))
          have K2 := Lib.hid (fun W => ref_digit x2 W (by omega) (by have := b2.toNat_lt; omega))
          have HV1 := Lib.hid (show Gt.hx (s.data.toList[k + 1]'HK1.out) = Dp.digV x1 by unfold Gt.hx; rw [hb1, hx1])
          have HV2 := Lib.hid (show Gt.hx (s.data.toList[k + 2]'HK2.out) = Dp.digV x2 by unfold Gt.hx; rw [hb2, hx2])
          have hl1 := Dp.digV_lo x1
          have hl2 := Dp.digV_lo x2
          obtain ⟨d1, hd1⟩ : ∃ d, Dp.digV x1 = d := ⟨_, rfl⟩
          obtain ⟨d2, hd2⟩ : ∃ d, Dp.digV x2 = d := ⟨_, rfl⟩
          rw [hd1] at K1 HV1 hl1
          rw [hd2] at K2 HV2 hl2
          have HB12 := Lib.hid (show Gt.two (s.data.toList[k + 1]'HK1.out) (s.data.toList[k + 2]'HK2.out) = Gt.two b1 b2 by rw [hb1, hb2])
          have HH := Lib.hid (show Gt.hx b1 = d1 ∧ Gt.hx b2 = d2 by rw [← hb1, ← hb2]; exact ⟨HV1.out, HV2.out⟩)
          clear hb1 hb2 hx1 hx2 hd1 hd2 hsh
          by_cases h1 : 15 < d1
          · have HE := Lib.hid (Gt.dAt_bad HA.out HK2.out (HC.out.trans HC37.out) (fun h => by have := h.1; rw [HV1.out] at this; omega))
            go_wp2_with fail
            refine (K1.out _).mono ?_
            rintro e w3 ⟨rfl, rfl⟩
            go_wp2_with fail
            go_ret2
            exact ⟨by rw [← HO.out, HE.out]; rfl, HB.out⟩
          · by_cases h2 : 15 < d2
            · have HE := Lib.hid (Gt.dAt_bad HA.out HK2.out (HC.out.trans HC37.out) (fun h => by have := h.2; rw [HV2.out] at this; omega))
              go_wp2_with fail
              refine (K1.out _).mono ?_
              rintro e w3 ⟨rfl, rfl⟩
              go_wp2_with fail
              refine (K2.out _).mono ?_
              rintro e w3 ⟨rfl, rfl⟩
              go_wp2_with fail
              go_ret2
              exact ⟨by rw [← HO.out, HE.out]; rfl, HB.out⟩
            · have HD := Lib.hid (Gt.dAt_pct HA.out HK2.out (HC.out.trans HC37.out) ⟨by rw [HV1.out]; omega, by rw [HV2.out]; omega⟩)
              rw [HB12.out] at HD
              have HTW := Lib.hid (show ((Gt.two b1 b2).toNat : Int) = 16 * d1 + d2 by rw [Gt.two_val _ _ ⟨by rw [HH.out.1]; omega, by rw [HH.out.2]; omega⟩, HH.out.1, HH.out.2])
              go_wp2_with fail
              refine (K1.out _).mono ?_
              rintro e w3 ⟨rfl, rfl⟩
              go_wp2_with fail
              refine (K2.out _).mono ?_
              rintro e w3 ⟨rfl, rfl⟩
              go_wp2_with fail
              have HWS := Lib.hid (show IntKind.i64.wrap ((k : Int) + 1) = (k : Int) + 1 ∧ IntKind.i64.wrap ((k : Int) + 2) = (k : Int) + 2 ∧ IntKind.u64.wrap (16 * d1) = 16 * d1 ∧ IntKind.u64.wrap (16 * d1 + d2) = 16 * d1 + d2 ∧ IntKind.u8.wrap (16 * d1 + d2) = 16 * d1 + d2 from
                ⟨IntWalk.i64_in _ (by omega), IntWalk.i64_in _ (by omega), by simp only [IntKind.wrap_u64]; omega, by simp only [IntKind.wrap_u64]; omega, by simp only [IntKind.wrap_u8]; omega⟩)
              refine region_slots2 rdSlot (RdF s k x1 x2 d1 d2 (16 * d1 + d2) V B acc.length (acc.map by8)) (RdT w V B acc.length (acc.map by8)) (by kernel_rfl) (by kernel_rfl) rdSlot_lt (fun i j hi hj => rdSlot_inj i hi j hj) ?start ?dst ?step ?done
              case start => exact ⟨HB.out.drew, fun _ => ⟨HN.out.belowed (Below.refl _ _).drew, rfl⟩, fun _ => rfl, fun _ => rfl⟩
              case dst =>
                intro i o ho
                match i, ho with
                | 0, ho | 1, ho | 2, ho | 3, ho | 4, ho | 5, ho | 6, ho | 7, ho | 8, ho | 9, ho | 10, ho | 11, ho | 12, ho | 13, ho | 14, ho | 15, ho | 16, ho => cases ho; rfl
                | n + 17, ho => exact absurd ho (by simp)
              case step =>
                intro f a' W i o ho hfi hpre hT hrest hyet
                match i, ho with
                | 0, ho =>
                  cases ho
                  have q : a'.tmps[6]?.getD undef = V := ev_tmp (hyet 16 (by decide) (hT.2.1 (hT.2.2.1 hfi)).2)
                  exact s2_same (V) (by unfold Oper.wp execOp; go_simp; all_goals ((try simp only [q]); (try go_simp); first | done | rfl | exact ⟨rfl, rfl⟩ | rw [HWS.out.1] | rw [HWS.out.2.1] | rw [HWS.out.2.2.1] | rw [HWS.out.2.2.2.1] | rw [HWS.out.2.2.2.2] | trivial)) rfl (rdT_step hT (by decide) (by decide))
                | 1, ho =>
                  cases ho
                  have q : a'.tmps[0]?.getD undef = .string s := ev_tmp (hrest 0 (by decide))
                  exact s2_same (.string s) (by unfold Oper.wp execOp; go_simp; all_goals ((try simp only [q]); (try go_simp); first | done | rfl | exact ⟨rfl, rfl⟩ | rw [HWS.out.1] | rw [HWS.out.2.1] | rw [HWS.out.2.2.1] | rw [HWS.out.2.2.2.1] | rw [HWS.out.2.2.2.2] | trivial)) rfl (rdT_step hT (by decide) (by decide))
                | 2, ho =>
                  cases ho
                  have q : a'.tmps[7]?.getD undef = .int .i64 k := ev_tmp (hrest 7 (by decide))
                  exact s2_same (.int .i64 k) (by unfold Oper.wp execOp; go_simp; all_goals ((try simp only [q]); (try go_simp); first | done | rfl | exact ⟨rfl, rfl⟩ | rw [HWS.out.1] | rw [HWS.out.2.1] | rw [HWS.out.2.2.1] | rw [HWS.out.2.2.2.1] | rw [HWS.out.2.2.2.2] | trivial)) rfl (rdT_step hT (by decide) (by decide))
                | 3, ho =>
                  cases ho
                  have q2 : a'.tmps[48]?.getD undef = .int .i64 k := ev_tmp (hpre { on := 2, ground := .data } (by simp) rfl).2
                  exact s2_same (.int .i64 (k + 1 : Nat)) (by unfold Oper.wp execOp; go_simp; all_goals ((try simp only [q2]); (try go_simp); first | done | rfl | exact ⟨rfl, rfl⟩ | rw [HWS.out.1] | rw [HWS.out.2.1] | rw [HWS.out.2.2.1] | rw [HWS.out.2.2.2.1] | rw [HWS.out.2.2.2.2] | trivial)) rfl (rdT_step hT (by decide) (by decide))
                | 4, ho =>
                  cases ho
                  have q1 : a'.tmps[47]?.getD undef = .string s := ev_tmp (hpre { on := 1, ground := .data } (by simp) rfl).2
                  have q3 : a'.tmps[49]?.getD undef = .int .i64 (k + 1 : Nat) := ev_tmp (hpre { on := 3, ground := .data } (by simp) rfl).2
                  exact s2_same (.int .u8 x1) (by unfold Oper.wp execOp; go_simp; all_goals ((try simp only [q1, q3]); (try go_simp); first | done | rfl | exact ⟨rfl, rfl⟩ | rw [HWS.out.1] | rw [HWS.out.2.1] | rw [HWS.out.2.2.1] | rw [HWS.out.2.2.2.1] | rw [HWS.out.2.2.2.2] | trivial)) rfl (rdT_step hT (by decide) (by decide))
                | 5, ho =>
                  cases ho
                  have q : a'.tmps.getD 50 undef = .int .u8 x1 := (hpre { on := 4, ground := .data } (by simp) rfl).2
                  exact s2_same (.int .u64 d1) (call_same 50 42 _ _ _ rfl q (enters_of Tryz.func42 (by kernel_rfl) rfl) (K1.out W)) rfl (rdT_step hT (by decide) (by decide))
                | 6, ho =>
                  cases ho
                  have q5 : a'.tmps[51]?.getD undef = .int .u64 d1 := ev_tmp (hpre { on := 5, ground := .data } (by simp) rfl).2
                  exact s2_same (.int .u64 (16 * d1)) (by unfold Oper.wp execOp; go_simp; all_goals ((try simp only [q5]); (try go_simp); first | done | rfl | exact ⟨rfl, rfl⟩ | rw [HWS.out.1] | rw [HWS.out.2.1] | rw [HWS.out.2.2.1] | rw [HWS.out.2.2.2.1] | rw [HWS.out.2.2.2.2] | trivial)) rfl (rdT_step hT (by decide) (by decide))
                | 7, ho =>
                  cases ho
                  have q : a'.tmps[0]?.getD undef = .string s := ev_tmp (hrest 0 (by decide))
                  exact s2_same (.string s) (by unfold Oper.wp execOp; go_simp; all_goals ((try simp only [q]); (try go_simp); first | done | rfl | exact ⟨rfl, rfl⟩ | rw [HWS.out.1] | rw [HWS.out.2.1] | rw [HWS.out.2.2.1] | rw [HWS.out.2.2.2.1] | rw [HWS.out.2.2.2.2] | trivial)) rfl (rdT_step hT (by decide) (by decide))
                | 8, ho =>
                  cases ho
                  have q : a'.tmps[7]?.getD undef = .int .i64 k := ev_tmp (hrest 7 (by decide))
                  exact s2_same (.int .i64 k) (by unfold Oper.wp execOp; go_simp; all_goals ((try simp only [q]); (try go_simp); first | done | rfl | exact ⟨rfl, rfl⟩ | rw [HWS.out.1] | rw [HWS.out.2.1] | rw [HWS.out.2.2.1] | rw [HWS.out.2.2.2.1] | rw [HWS.out.2.2.2.2] | trivial)) rfl (rdT_step hT (by decide) (by decide))
                | 9, ho =>
                  cases ho
                  have q8 : a'.tmps[54]?.getD undef = .int .i64 k := ev_tmp (hpre { on := 8, ground := .data } (by simp) rfl).2
                  exact s2_same (.int .i64 (k + 2 : Nat)) (by unfold Oper.wp execOp; go_simp; all_goals ((try simp only [q8]); (try go_simp); first | done | rfl | exact ⟨rfl, rfl⟩ | rw [HWS.out.1] | rw [HWS.out.2.1] | rw [HWS.out.2.2.1] | rw [HWS.out.2.2.2.1] | rw [HWS.out.2.2.2.2] | trivial)) rfl (rdT_step hT (by decide) (by decide))
                | 10, ho =>
                  cases ho
                  have q7 : a'.tmps[53]?.getD undef = .string s := ev_tmp (hpre { on := 7, ground := .data } (by simp) rfl).2
                  have q9 : a'.tmps[55]?.getD undef = .int .i64 (k + 2 : Nat) := ev_tmp (hpre { on := 9, ground := .data } (by simp) rfl).2
                  exact s2_same (.int .u8 x2) (by unfold Oper.wp execOp; go_simp; all_goals ((try simp only [q7, q9]); (try go_simp); first | done | rfl | exact ⟨rfl, rfl⟩ | rw [HWS.out.1] | rw [HWS.out.2.1] | rw [HWS.out.2.2.1] | rw [HWS.out.2.2.2.1] | rw [HWS.out.2.2.2.2] | trivial)) rfl (rdT_step hT (by decide) (by decide))
                | 11, ho =>
                  cases ho
                  have q : a'.tmps.getD 56 undef = .int .u8 x2 := (hpre { on := 10, ground := .data } (by simp) rfl).2
                  exact s2_same (.int .u64 d2) (call_same 56 42 _ _ _ rfl q (enters_of Tryz.func42 (by kernel_rfl) rfl) (K2.out W)) rfl (rdT_step hT (by decide) (by decide))
                | 12, ho =>
                  cases ho
                  have q6 : a'.tmps[52]?.getD undef = .int .u64 (16 * d1) := ev_tmp (hpre { on := 6, ground := .data } (by simp) rfl).2
                  have q11 : a'.tmps[57]?.getD undef = .int .u64 d2 := ev_tmp (hpre { on := 11, ground := .data } (by simp) rfl).2
                  exact s2_same (.int .u64 (16 * d1 + d2)) (by unfold Oper.wp execOp; go_simp; all_goals ((try simp only [q6, q11]); (try go_simp); first | done | rfl | exact ⟨rfl, rfl⟩ | rw [HWS.out.1] | rw [HWS.out.2.1] | rw [HWS.out.2.2.1] | rw [HWS.out.2.2.2.1] | rw [HWS.out.2.2.2.2] | trivial)) rfl (rdT_step hT (by decide) (by decide))
                | 13, ho =>
                  cases ho
                  have q12 : a'.tmps[58]?.getD undef = .int .u64 (16 * d1 + d2) := ev_tmp (hpre { on := 12, ground := .data } (by simp) rfl).2
                  exact s2_same (.int .u8 (16 * d1 + d2)) (by unfold Oper.wp execOp; go_simp; all_goals ((try simp only [q12]); (try go_simp); first | done | rfl | exact ⟨rfl, rfl⟩ | rw [HWS.out.1] | rw [HWS.out.2.1] | rw [HWS.out.2.2.1] | rw [HWS.out.2.2.2.1] | rw [HWS.out.2.2.2.2] | trivial)) rfl (rdT_step hT (by decide) (by decide))
                | 14, ho =>
                  cases ho
                  have q : a'.tmps[59]?.getD undef = .int .u8 (16 * d1 + d2) := ev_tmp (hpre { on := 13, ground := .data } (by simp) rfl).2
                  have hO := hT.2.1 (hT.2.2.2 hfi)
                  have hT' := rdT_step hT (i := 14) (by decide) (by decide)
                  unfold Oper.wp execOp
                  go_simp
                  refine ⟨_, rfl, ⟨W.heap.size, rfl, World.alloc_heap_new _ _, fun h => Nat.lt_irrefl _ (hO.1.lt _ h).2⟩, ?_, fun j u _ h => RdF.alloc j _ _ u h⟩
                  obtain ⟨ta, tb, tc, td⟩ := hT'
                  exact ⟨ta.alloc (by have := hT.1.size; omega) _, fun h => ⟨(tb h).1.alloc _, (tb h).2⟩, tc, td⟩
                | 15, ho =>
                  cases ho
                  have q46 : a'.eval (.tmp 46) = V := (hpre { on := 0, ground := .data } (by simp) rfl).2
                  obtain ⟨g, hg1, hg2, hg3⟩ := (hpre { on := 14, ground := .data } (by simp) rfl).2
                  have q60 : a'.eval (.tmp 60) = .slice (some ⟨g, 0, none⟩) 1 1 := hg1
                  have f0 := (hpre { on := 0, ground := .data } (by simp) rfl).1
                  have f14 := (hpre { on := 14, ground := .data } (by simp) rfl).1
                  have hO := hT.2.1 hfi
                  refine wp_append_own _ _ _ 74 rfl B 5 i0 (.int .u8 0) 1 1 Tryz.underlying74 hi hz0 hz1 hz2 rfl (by decide) V acc.length (acc.map by8) q46 hO.1 ⟨g, 0, none⟩ 1 1 [.int .u8 (16 * d1 + d2)] q60 rfl ?_ ?_ ?_ ?_ ?_ ?_
                  · intro j u hj
                    match j, hj with
                    | 0, hj => simp at hj; subst hj; simp [Addr.add, World.cell?, hg2]
                  · intro u hu; simp at hu; subst hu; rfl
                  · unfold maxLen; omega
                  · omega
                  · have := hT.1.size; omega
                  · intro v' w' hown' hgrow _
                    refine ⟨v', rfl, hown', ⟨Below.grown hT.1 hgrow (by have := hT.1.size; omega) (own_ge hO.1), fun h => by simp at h, fun h => by simp [f0] at h, fun h => by simp [f14] at h⟩, fun j u hj hF => ?_⟩
                    match j, hF with
                    | 0, h | 1, h | 2, h | 3, h | 4, h | 5, h | 6, h | 7, h | 8, h | 9, h | 10, h | 11, h | 12, h | 13, h => exact h
                    | 14, ⟨g', h1, h2, h3⟩ => exact ⟨g', h1, (hgrow.block g' (Array.getElem?_eq_some_iff.1 h2).1 (Ne.symm h3)).trans h2, h3⟩
                    | 15, h => rw [hfi] at hj; cases hj
                    | 16, h => rw [hO.2] at hj; cases hj
                    | n + 17, h => exact h.elim
                | 16, ho =>
                  cases ho
                  have h15 := hpre { on := 15, ground := .data } (by simp) rfl
                  obtain ⟨z, hz⟩ : ∃ z, a'.tmps.getD 61 undef = z := ⟨_, rfl⟩
                  have hF15 : W.ownsRow B 5 1 z (acc.length + 1) (acc.map by8 ++ [.int .u8 (16 * d1 + d2)]) := by rw [← hz]; exact h15.2
                  have q := ev_tmp hz
                  refine s2_same z (by unfold Oper.wp execOp; go_simp; all_goals ((try simp only [q]); first | done | rfl)) hF15 ?_
                  obtain ⟨ta, tb, tc, td⟩ := hT
                  exact ⟨ta, fun h => by simp [h15.1] at h, fun h => by simpa using tc (by simpa using h), fun h => by simpa using td (by simpa using h)⟩
                | n + 17, ho => exact absurd ho (by simp)
              case done =>
                intro f vs W hall hT hvs
                have v0 : vs 0 = V := hvs 0 (by decide)
                have v1 : vs 1 = .string s := hvs 1 (by decide)
                have v2 : vs 2 = .int .i64 k := hvs 2 (by decide)
                have v3 : vs 3 = .int .i64 (k + 1 : Nat) := hvs 3 (by decide)
                have v4 : vs 4 = .int .u8 x1 := hvs 4 (by decide)
                have v5 : vs 5 = .int .u64 d1 := hvs 5 (by decide)
                have v6 : vs 6 = .int .u64 (16 * d1) := hvs 6 (by decide)
                have v7 : vs 7 = .string s := hvs 7 (by decide)
                have v8 : vs 8 = .int .i64 k := hvs 8 (by decide)
                have v9 : vs 9 = .int .i64 (k + 2 : Nat) := hvs 9 (by decide)
                have v10 : vs 10 = .int .u8 x2 := hvs 10 (by decide)
                have v11 : vs 11 = .int .u64 d2 := hvs 11 (by decide)
                have v12 : vs 12 = .int .u64 (16 * d1 + d2) := hvs 12 (by decide)
                have v13 : vs 13 = .int .u8 (16 * d1 + d2) := hvs 13 (by decide)
                obtain ⟨y14, hy14⟩ : ∃ z, vs 14 = z := ⟨_, rfl⟩
                obtain ⟨y15, hy15⟩ : ∃ z, vs 15 = z := ⟨_, rfl⟩
                obtain ⟨y16, hy16⟩ : ∃ z, vs 16 = z := ⟨_, rfl⟩
                have HO1 := Lib.hid (show W.ownsRow B 5 1 y16 (acc ++ [Gt.two b1 b2]).length ((acc ++ [Gt.two b1 b2]).map by8) by
                  rw [List.map_append, List.length_append, ← hy16]
                  show W.ownsRow B 5 1 (vs 16) (acc.length + 1) (acc.map by8 ++ [.int .u8 ((Gt.two b1 b2).toNat : Int)])
                  rw [HTW.out]
                  exact hvs 16 (by decide))
                have HB1 := Lib.hid hT.1
                simp only [fillN, List.size_toArray, List.length_cons, List.length_nil, Nat.reduceAdd, show List.range 17 = [0, 1, 2, 3, 4, 5, 6, 7, 8, 9, 10, 11, 12, 13, 14, 15, 16] from rfl, List.foldl_cons, List.foldl_nil, show rdSlot 0 = 46 from rfl, show rdSlot 1 = 47 from rfl, show rdSlot 2 = 48 from rfl, show rdSlot 3 = 49 from rfl, show rdSlot 4 = 50 from rfl, show rdSlot 5 = 51 from rfl, show rdSlot 6 = 52 from rfl, show rdSlot 7 = 53 from rfl, show rdSlot 8 = 54 from rfl, show rdSlot 9 = 55 from rfl, show rdSlot 10 = 56 from rfl, show rdSlot 11 = 57 from rfl, show rdSlot 12 = 58 from rfl, show rdSlot 13 = 59 from rfl, show rdSlot 14 = 60 from rfl, show rdSlot 15 = 61 from rfl, show rdSlot 16 = 6 from rfl, v0, v1, v2, v3, v4, v5, v6, v7, v8, v9, v10, v11, v12, v13, hy14, hy15, hy16]
                clear v0 v1 v2 v3 v4 v5 v6 v7 v8 v9 v10 v11 v12 v13 hy14 hy15 hy16 hvs hT
                go_simp
                go_wp2_with fail
                go_roundw
                case rel => exact ⟨k + 3, acc ++ [Gt.two b1 b2], by go_num, HD.out, HO1.out, HB1.out⟩
                case measure => simp [intOf]; omega
      · have e1 : (x == 37) = false := beq_eq_false_iff_ne.2 he
        have HD1 := Lib.hid (Gt.dAt_one HA.out HKL.out (fun e => he (by rw [← HX.out, ← HC.out, e]; rfl)))
        rw [HC.out] at HD1
        by_cases hp : pl = true ∧ x = 43
        · obtain ⟨rfl, rfl⟩ := hp
          have HBL := Lib.hid (show Gt.bl true c = 32 by
            have : c = 43 := UInt8.toNat_inj.1 (by have := HX.out; show c.toNat = 43; omega)
            subst this; rfl)
          rw [HBL.out] at HD1
          clear he
          go_wp2_with (at_builtin; refine wpList_append_own _ rfl _ _ 74 rfl B 5 i0 (.int .u8 0) 1 1 Tryz.underlying74 hi hz0 hz1 hz2 rfl (by decide) _ _ _ rfl (HN.out.alloc _) ⟨wr.heap.size, 0, none⟩ 1 1 [.int .u8 32] rfl rfl ?a1 ?a2 ?a3 ?a4 ?a5 ?_)
          case a1 =>
            intro j u hj
            match j, hj with
            | 0, hj => simp at hj; subst hj; simp [Addr.add]
          case a2 => intro u hu; simp at hu; subst hu; rfl
          case a3 => unfold maxLen; omega
          case a4 => omega
          case a5 => have := HB.out.size; simp; omega
          intro v' w1 hown' hgrow _
          have HB1 := Lib.hid (show Below B w w1 from Below.grown (HB.out.alloc (by have := HB.out.size; omega) _) hgrow (by have := HB.out.size; simp; omega) (own_ge HN.out))
          have HO1 := Lib.hid (show w1.ownsRow B 5 1 v' (acc ++ [32]).length ((acc ++ [32]).map by8) by
            rw [List.map_append, List.length_append]
            exact hown')
          clear hgrow hown'
          go_wp2
          go_roundw
          case rel => exact ⟨k + 1, acc ++ [32], by go_num, HD1.out, HO1.out, HB1.out⟩
          case measure => simp [intOf]; omega
        · have HBL := Lib.hid (show Gt.bl pl c = c by
            unfold Gt.bl
            rw [if_neg]
            intro h
            rw [Bool.and_eq_true, beq_iff_eq] at h
            exact hp ⟨h.1, by rw [← HX.out, h.2]; rfl⟩)
          rw [HBL.out] at HD1
          have HPP := Lib.hid hp
          clear he hp
          cases pl with
          | false =>
            go_wp2_with (at_builtin; refine wpList_append_own _ rfl _ _ 74 rfl B 5 i0 (.int .u8 0) 1 1 Tryz.underlying74 hi hz0 hz1 hz2 rfl (by decide) _ _ _ rfl (HN.out.alloc _) ⟨wr.heap.size, 0, none⟩ 1 1 [.int .u8 x] rfl rfl ?b1 ?b2 ?b3 ?b4 ?b5 ?_)
            case b1 =>
              intro j u hj
              match j, hj with
              | 0, hj => simp at hj; subst hj; simp [Addr.add]
            case b2 => intro u hu; simp at hu; subst hu; rfl
            case b3 => unfold maxLen; omega
            case b4 => omega
            case b5 => have := HB.out.size; simp; omega
            intro v' w1 hown' hgrow _
            have HB1 := Lib.hid (show Below B w w1 from Below.grown (HB.out.alloc (by have := HB.out.size; omega) _) hgrow (by have := HB.out.size; simp; omega) (own_ge HN.out))
            have HO1 := Lib.hid (show w1.ownsRow B 5 1 v' (acc ++ [c]).length ((acc ++ [c]).map by8) by
              rw [List.map_append, List.length_append]
              show w1.ownsRow B 5 1 v' (acc.length + 1) (acc.map by8 ++ [.int .u8 (c.toNat : Int)])
              rw [HX.out]
              exact hown')
            clear hgrow hown'
            go_wp2
            go_roundw
            case rel => exact ⟨k + 1, acc ++ [c], by go_num, HD1.out, HO1.out, HB1.out⟩
            case measure => simp [intOf]; omega
          | true =>
            have e2 : (x == 43) = false := beq_eq_false_iff_ne.2 (fun e => HPP.out ⟨rfl, e⟩)
            go_wp2_with (at_builtin; refine wpList_append_own _ rfl _ _ 74 rfl B 5 i0 (.int .u8 0) 1 1 Tryz.underlying74 hi hz0 hz1 hz2 rfl (by decide) _ _ _ rfl (HN.out.alloc _) ⟨wr.heap.size, 0, none⟩ 1 1 [.int .u8 x] rfl rfl ?e1 ?e2 ?e3 ?e4 ?e5 ?_)
            case e2 => first | rfl | (intro u hu; simp at hu; subst hu; rfl)
            case e3 => unfold maxLen; omega
            case e4 => omega
            case e5 => have := HB.out.size; simp; omega
            intro v' w1 hown' hgrow _
            have HB1 := Lib.hid (show Below B w w1 from Below.grown (HB.out.alloc (by have := HB.out.size; omega) _) hgrow (by have := HB.out.size; simp; omega) (own_ge HN.out))
            have HO1 := Lib.hid (show w1.ownsRow B 5 1 v' (acc ++ [c]).length ((acc ++ [c]).map by8) by
              rw [List.map_append, List.length_append]
              show w1.ownsRow B 5 1 v' (acc.length + 1) (acc.map by8 ++ [.int .u8 (c.toNat : Int)])
              rw [HX.out]
              exact hown')
            clear hgrow hown'
            go_wp2
            go_roundw
            case rel => exact ⟨k + 1, acc ++ [c], by go_num, HD1.out, HO1.out, HB1.out⟩
            case measure => simp [intOf]; omega
    · have HE := Lib.hid (Gt.dAt_end HA.out (by rw [HL.out]; omega))
      have hcv := conv_brow (BRow.of_own HN.out)
      go_wp2_with fail
      go_ret2
      refine ⟨?_, HB.out⟩
      rw [← HO.out, HE.out]; rfl
end Go.Proofs.YtcfhenekoaegaaaGreatDoor

/- The reference's pair. -/
namespace Go.Proofs.YtcfhenekoaegaaaGreatDoor
set_option linter.unusedVariables false
set_option linter.unusedSimpArgs false
open Go.RowKit Go.Shelf
set_option maxHeartbeats 4000000
set_option maxRecDepth 100000
theorem str_to (u : ByteArray) (w : World) (k : Nat) (hk : k ≤ u.size) (hu : u.size ≤ 9223372036854775807) : (Instr.slice 9 (.string u) none (some (.int .i64 (k : Int))) none).run Tryz.prog w = .ok (.string (u.extract 0 k)) w := by
  have h2 : (k : Int) ≤ u.size := by omega
  simp [go_sem, Tryz.underlying9, h2]
theorem str_from (u : ByteArray) (w : World) (k : Nat) (hk : k ≤ u.size) (hu : u.size ≤ 9223372036854775807) : (Instr.slice 9 (.string u) (some (.int .i64 (k : Int))) none none).run Tryz.prog w = .ok (.string (u.extract k u.size)) w := by
  have h2 : (k : Int) ≤ u.size := by omega
  simp [go_sem, Tryz.underlying9, h2]
theorem min_i64 (a b m : Nat) (hm : m = min a b) (w : World) : (Builtin.min_ #[3, 3] 3 #[.int .i64 (a : Int), .int .i64 (b : Int)]).run Tryz.prog w = .ok (.int .i64 (m : Int)) w := by
  have : (Builtin.min_ #[3, 3] 3 #[.int .i64 (a : Int), .int .i64 (b : Int)]).run Tryz.prog w = .ok (.int .i64 (if (b : Int) < a then (b : Int) else a)) w := by simp [Builtin.min_, Builtin.min2, go_sem]
  rw [this]
  congr 2
  split <;> omega
theorem ext_to (s : ByteArray) (k : Nat) : (s.extract 0 k).data.toList = s.data.toList.take k := by rw [Lib.extract_data]; simp
theorem ext_from (s : ByteArray) (k : Nat) : (s.extract k s.size).data.toList = s.data.toList.drop k := by
  rw [Lib.extract_data, List.take_of_length_le]
  rw [List.length_drop]; exact Nat.le_refl _
theorem drop_min (l : List UInt8) (n m : Nat) (h : m = min (n + 1) l.length) : l.drop m = l.drop (n + 1) := by
  rcases Nat.le_total (n + 1) l.length with h' | h'
  · rw [h, Nat.min_eq_left h']
  · rw [h, Nat.min_eq_right h', List.drop_eq_nil_of_le (Nat.le_refl _), List.drop_eq_nil_of_le h']
/-- what the reference's pair tells -/
def rprOut (o : Option (List UInt8 × List UInt8)) : Value := match o with
  | some (k, v) => .tuple #[.agg #[.string ⟨k.toArray⟩, .string ⟨v.toArray⟩], .int .i64 0]
  | none => .tuple #[.agg #[.string ⟨#[]⟩, .string ⟨#[]⟩], .int .i64 210]
theorem ref_pair (s : ByteArray) (w : World) (hs : s.size ≤ 1000000) :
    Calls Tryz.prog 39 #[.string s] w fun e w' => e = .returned (rprOut (Gt.pairOf s.data.toList)) ∧ Below w.heap.size w w' := by
  obtain ⟨W1, hW1⟩ : ∃ W, w.alloc (.cells #[.string ⟨#[]⟩, .string ⟨#[]⟩] 47) = W := ⟨_, rfl⟩
  have HB := Lib.hid (show Below w.heap.size w W1 by rw [← hW1]; exact (Below.refl _ _).alloc (Nat.le_refl _) _)
  have HT := Lib.hid (show W1.heap[w.heap.size]? = some (.cells #[.string ⟨#[]⟩, .string ⟨#[]⟩] 47 (0, 0)) by rw [← hW1]; exact World.alloc_heap_new _ _)
  have HZ := Lib.hid (show W1.heap.size = w.heap.size + 1 by rw [← hW1]; simp)
  have HW := Lib.hid hW1
  clear hW1
  have KA := ref_at s 61 W1 hs
  rw [show (((61 : UInt8).toNat : Nat) : Int) = 61 from rfl] at KA
  have hn := Gs.pos_le 61 s.data.toList
  rw [show s.data.toList.length = s.size from rfl] at hn
  have hp1 : Gt.pairOf s.data.toList = match Gt.dec true (s.data.toList.take (Gs.pos 61 s.data.toList)) with
    | none => none
    | some k => (Gt.dec true (s.data.toList.drop (Gs.pos 61 s.data.toList + 1))).map fun v => (k, v) := rfl
  obtain ⟨n, hpos⟩ : ∃ n, Gs.pos 61 s.data.toList = n := ⟨_, rfl⟩
  rw [hpos] at KA hn hp1
  obtain ⟨m, hm⟩ : ∃ m, m = min (n + 1) s.size := ⟨_, rfl⟩
  have hm2 : m ≤ s.size := by omega
  have HTO := Lib.hid (fun W => str_to s W n hn (by omega))
  have HFR := Lib.hid (fun W => str_from s W m hm2 (by omega))
  have HMI := Lib.hid (fun W => min_i64 (n + 1) s.size m hm W)
  have hto := HTO.out
  have hfr := HFR.out
  have hmi : ∀ W, (Builtin.min_ #[3, 3] 3 #[.int .i64 ((n : Int) + 1), .int .i64 (s.size : Int)]).run Tryz.prog W = .ok (.int .i64 (m : Int)) W := fun W => HMI.out W
  have e1 := ext_to s n
  have e2 := ext_from s m
  rw [drop_min s.data.toList n m hm] at e2
  obtain ⟨kb, hkb⟩ : ∃ z, s.extract 0 n = z := ⟨_, rfl⟩
  obtain ⟨vb, hvb⟩ : ∃ z, s.extract m s.size = z := ⟨_, rfl⟩
  rw [hkb] at hto e1
  rw [hvb] at hfr e2
  have HKS := Lib.hid (show kb.size ≤ 1000000 by
    have h1 : kb.data.toList.length = kb.size := rfl
    have h2 : s.data.toList.length = s.size := rfl
    rw [e1, List.length_take] at h1; omega)
  have HVS := Lib.hid (show vb.size ≤ 1000000 by
    have h1 : vb.data.toList.length = vb.size := rfl
    have h2 : s.data.toList.length = s.size := rfl
    rw [e2, List.length_drop] at h1; omega)
  have K1 := Lib.hid (fun W => ref_Decode kb true W HKS.out)
  have K2 := Lib.hid (fun W => ref_Decode vb true W HVS.out)
  rw [e1] at K1
  rw [e2] at K2
  obtain ⟨o1, ho1⟩ : ∃ o, Gt.dec true (s.data.toList.take n) = o := ⟨_, rfl⟩
  obtain ⟨o2, ho2⟩ : ∃ o, Gt.dec true (s.data.toList.drop (n + 1)) = o := ⟨_, rfl⟩
  rw [ho1, ho2] at hp1
  rw [ho1] at K1
  rw [ho2] at K2
  rw [hp1]
  have HKA := Lib.hid KA
  have hn3 : n ≤ 1000000 := by omega
  clear KA hp1 hpos hm hkb hvb e1 e2 ho1 ho2 HTO HFR HMI
  cases o1 with
  | none =>
    cases o2 with
    | none =>
      simp only [decOut] at K1 K2
      go_enter Tryz.func39, Tryz.ntmps39
      go_wp2_with fail
      rw [HW.out]
      refine HKA.out.mono ?_
      rintro e w2 ⟨rfl, hb2⟩
      have HB2 := Lib.hid hb2
      clear hb2
      go_wp2_with fail
      refine (K1.out w2).mono ?_
      rintro e w3 ⟨rfl, hb3⟩
      have HB3 := Lib.hid (HB2.out.trans (hb3.mono HB2.out.size))
      clear hb3
      go_wp2_with fail
      refine (K2.out w3).mono ?_
      rintro e w4 ⟨rfl, hb4⟩
      have HB4 := Lib.hid (HB3.out.trans (hb4.mono HB3.out.size))
      have HT4 := Lib.hid ((HB4.out.block _ (by rw [HZ.out]; omega)).trans HT.out)
      have HBW := Lib.hid (HB.out.trans (HB4.out.mono HB.out.size))
      have c0 : w4.cell? ⟨w.heap.size, 0, none⟩ = some (.string ⟨#[]⟩) := by simp [World.cell?, HT4.out]
      have c1 : w4.cell? ⟨w.heap.size, 1, none⟩ = some (.string ⟨#[]⟩) := by simp [World.cell?, HT4.out]
      have z0 : w4.frozen? ⟨w.heap.size, 0, none⟩ = false := frozen_of_row _ _ _ _ _ HT4.out
      have z1 : w4.frozen? ⟨w.heap.size, 1, none⟩ = false := frozen_of_row _ _ _ _ _ HT4.out
      clear hb4
      go_wp2_with fail
      obtain ⟨w5, hw5⟩ : ∃ Z, (w4.setCell ⟨w.heap.size, 0, none⟩ (.string ⟨#[]⟩)).setCell ⟨w.heap.size, 1, none⟩ (.string ⟨#[]⟩) = Z := ⟨_, rfl⟩
      rw [hw5]
      have HB5 := Lib.hid (show Below w.heap.size w w5 by rw [← hw5]; exact (HBW.out.setCell (p := ⟨w.heap.size, 0, none⟩) (Nat.le_refl _) _).setCell (p := ⟨w.heap.size, 1, none⟩) (Nat.le_refl _) _)
      have hT5 : w5.heap[w.heap.size]? = some (.cells #[.string ⟨#[]⟩, .string ⟨#[]⟩] 47 (0, 0)) := by
        rw [← hw5]; exact heap_setCell_same _ _ 1 _ _ _ (heap_setCell_same _ _ 0 _ _ _ HT4.out)
      have f0 : w5.cell? ⟨w.heap.size, 0, none⟩ = some (.string ⟨#[]⟩) := by simp [World.cell?, hT5]
      have f1 : w5.cell? ⟨w.heap.size, 1, none⟩ = some (.string ⟨#[]⟩) := by simp [World.cell?, hT5]
      clear hw5 hT5 c0 c1 z0 z1
      exact bodyPost_ret (v := .tuple #[.agg #[.string ⟨#[]⟩, .string ⟨#[]⟩], .int .i64 210]) (by simp [results, Tryz.results39, go_sem, f0, f1]) rfl ⟨rfl, HB5.out⟩
    | some r2 =>
      simp only [decOut] at K1 K2
      go_enter Tryz.func39, Tryz.ntmps39
      go_wp2_with fail
      rw [HW.out]
      refine HKA.out.mono ?_
      rintro e w2 ⟨rfl, hb2⟩
      have HB2 := Lib.hid hb2
      clear hb2
      go_wp2_with fail
      refine (K1.out w2).mono ?_
      rintro e w3 ⟨rfl, hb3⟩
      have HB3 := Lib.hid (HB2.out.trans (hb3.mono HB2.out.size))
      clear hb3
      go_wp2_with fail
      refine (K2.out w3).mono ?_
      rintro e w4 ⟨rfl, hb4⟩
      have HB4 := Lib.hid (HB3.out.trans (hb4.mono HB3.out.size))
      have HT4 := Lib.hid ((HB4.out.block _ (by rw [HZ.out]; omega)).trans HT.out)
      have HBW := Lib.hid (HB.out.trans (HB4.out.mono HB.out.size))
      have c0 : w4.cell? ⟨w.heap.size, 0, none⟩ = some (.string ⟨#[]⟩) := by simp [World.cell?, HT4.out]
      have c1 : w4.cell? ⟨w.heap.size, 1, none⟩ = some (.string ⟨#[]⟩) := by simp [World.cell?, HT4.out]
      have z0 : w4.frozen? ⟨w.heap.size, 0, none⟩ = false := frozen_of_row _ _ _ _ _ HT4.out
      have z1 : w4.frozen? ⟨w.heap.size, 1, none⟩ = false := frozen_of_row _ _ _ _ _ HT4.out
      clear hb4
      go_wp2_with fail
      obtain ⟨w5, hw5⟩ : ∃ Z, (w4.setCell ⟨w.heap.size, 0, none⟩ (.string ⟨#[]⟩)).setCell ⟨w.heap.size, 1, none⟩ (.string ⟨#[]⟩) = Z := ⟨_, rfl⟩
      rw [hw5]
      have HB5 := Lib.hid (show Below w.heap.size w w5 by rw [← hw5]; exact (HBW.out.setCell (p := ⟨w.heap.size, 0, none⟩) (Nat.le_refl _) _).setCell (p := ⟨w.heap.size, 1, none⟩) (Nat.le_refl _) _)
      have hT5 : w5.heap[w.heap.size]? = some (.cells #[.string ⟨#[]⟩, .string ⟨#[]⟩] 47 (0, 0)) := by
        rw [← hw5]; exact heap_setCell_same _ _ 1 _ _ _ (heap_setCell_same _ _ 0 _ _ _ HT4.out)
      have f0 : w5.cell? ⟨w.heap.size, 0, none⟩ = some (.string ⟨#[]⟩) := by simp [World.cell?, hT5]
      have f1 : w5.cell? ⟨w.heap.size, 1, none⟩ = some (.string ⟨#[]⟩) := by simp [World.cell?, hT5]
      clear hw5 hT5 c0 c1 z0 z1
      exact bodyPost_ret (v := .tuple #[.agg #[.string ⟨#[]⟩, .string ⟨#[]⟩], .int .i64 210]) (by simp [results, Tryz.results39, go_sem, f0, f1]) rfl ⟨rfl, HB5.out⟩
  | some r1 =>
    cases o2 with
    | none =>
      simp only [decOut] at K1 K2
      go_enter Tryz.func39, Tryz.ntmps39
      go_wp2_with fail
      rw [HW.out]
      refine HKA.out.mono ?_
      rintro e w2 ⟨rfl, hb2⟩
      have HB2 := Lib.hid hb2
      clear hb2
      go_wp2_with fail
      refine (K1.out w2).mono ?_
      rintro e w3 ⟨rfl, hb3⟩
      have HB3 := Lib.hid (HB2.out.trans (hb3.mono HB2.out.size))
      clear hb3
      go_wp2_with fail
      refine (K2.out w3).mono ?_
      rintro e w4 ⟨rfl, hb4⟩
      have HB4 := Lib.hid (HB3.out.trans (hb4.mono HB3.out.size))
      have HT4 := Lib.hid ((HB4.out.block _ (by rw [HZ.out]; omega)).trans HT.out)
      have HBW := Lib.hid (HB.out.trans (HB4.out.mono HB.out.size))
      have c0 : w4.cell? ⟨w.heap.size, 0, none⟩ = some (.string ⟨#[]⟩) := by simp [World.cell?, HT4.out]
      have c1 : w4.cell? ⟨w.heap.size, 1, none⟩ = some (.string ⟨#[]⟩) := by simp [World.cell?, HT4.out]
      have z0 : w4.frozen? ⟨w.heap.size, 0, none⟩ = false := frozen_of_row _ _ _ _ _ HT4.out
      have z1 : w4.frozen? ⟨w.heap.size, 1, none⟩ = false := frozen_of_row _ _ _ _ _ HT4.out
      clear hb4
      go_wp2_with fail
      obtain ⟨w5, hw5⟩ : ∃ Z, (w4.setCell ⟨w.heap.size, 0, none⟩ (.string ⟨#[]⟩)).setCell ⟨w.heap.size, 1, none⟩ (.string ⟨#[]⟩) = Z := ⟨_, rfl⟩
      rw [hw5]
      have HB5 := Lib.hid (show Below w.heap.size w w5 by rw [← hw5]; exact (HBW.out.setCell (p := ⟨w.heap.size, 0, none⟩) (Nat.le_refl _) _).setCell (p := ⟨w.heap.size, 1, none⟩) (Nat.le_refl _) _)
      have hT5 : w5.heap[w.heap.size]? = some (.cells #[.string ⟨#[]⟩, .string ⟨#[]⟩] 47 (0, 0)) := by
        rw [← hw5]; exact heap_setCell_same _ _ 1 _ _ _ (heap_setCell_same _ _ 0 _ _ _ HT4.out)
      have f0 : w5.cell? ⟨w.heap.size, 0, none⟩ = some (.string ⟨#[]⟩) := by simp [World.cell?, hT5]
      have f1 : w5.cell? ⟨w.heap.size, 1, none⟩ = some (.string ⟨#[]⟩) := by simp [World.cell?, hT5]
      clear hw5 hT5 c0 c1 z0 z1
      exact bodyPost_ret (v := .tuple #[.agg #[.string ⟨#[]⟩, .string ⟨#[]⟩], .int .i64 210]) (by simp [results, Tryz.results39, go_sem, f0, f1]) rfl ⟨rfl, HB5.out⟩
    | some r2 =>
      simp only [decOut] at K1 K2
      go_enter Tryz.func39, Tryz.ntmps39
      go_wp2_with fail
      rw [HW.out]
      refine HKA.out.mono ?_
      rintro e w2 ⟨rfl, hb2⟩
      have HB2 := Lib.hid hb2
      clear hb2
      go_wp2_with fail
      refine (K1.out w2).mono ?_
      rintro e w3 ⟨rfl, hb3⟩
      have HB3 := Lib.hid (HB2.out.trans (hb3.mono HB2.out.size))
      clear hb3
      go_wp2_with fail
      refine (K2.out w3).mono ?_
      rintro e w4 ⟨rfl, hb4⟩
      have HB4 := Lib.hid (HB3.out.trans (hb4.mono HB3.out.size))
      have HT4 := Lib.hid ((HB4.out.block _ (by rw [HZ.out]; omega)).trans HT.out)
      have HBW := Lib.hid (HB.out.trans (HB4.out.mono HB.out.size))
      have c0 : w4.cell? ⟨w.heap.size, 0, none⟩ = some (.string ⟨#[]⟩) := by simp [World.cell?, HT4.out]
      have c1 : w4.cell? ⟨w.heap.size, 1, none⟩ = some (.string ⟨#[]⟩) := by simp [World.cell?, HT4.out]
      have z0 : w4.frozen? ⟨w.heap.size, 0, none⟩ = false := frozen_of_row _ _ _ _ _ HT4.out
      have z1 : w4.frozen? ⟨w.heap.size, 1, none⟩ = false := frozen_of_row _ _ _ _ _ HT4.out
      clear hb4
      go_wp2_with fail
      obtain ⟨w5, hw5⟩ : ∃ Z, (w4.setCell ⟨w.heap.size, 0, none⟩ (.string ⟨r1.toArray⟩)).setCell ⟨w.heap.size, 1, none⟩ (.string ⟨r2.toArray⟩) = Z := ⟨_, rfl⟩
      rw [hw5]
      have HB5 := Lib.hid (show Below w.heap.size w w5 by rw [← hw5]; exact (HBW.out.setCell (p := ⟨w.heap.size, 0, none⟩) (Nat.le_refl _) _).setCell (p := ⟨w.heap.size, 1, none⟩) (Nat.le_refl _) _)
      have hT5 : w5.heap[w.heap.size]? = some (.cells #[.string ⟨r1.toArray⟩, .string ⟨r2.toArray⟩] 47 (0, 0)) := by
        rw [← hw5]; exact heap_setCell_same _ _ 1 _ _ _ (heap_setCell_same _ _ 0 _ _ _ HT4.out)
      have f0 : w5.cell? ⟨w.heap.size, 0, none⟩ = some (.string ⟨r1.toArray⟩) := by simp [World.cell?, hT5]
      have f1 : w5.cell? ⟨w.heap.size, 1, none⟩ = some (.string ⟨r2.toArray⟩) := by simp [World.cell?, hT5]
      clear hw5 hT5 c0 c1 z0 z1
      exact bodyPost_ret (v := .tuple #[.agg #[.string ⟨r1.toArray⟩, .string ⟨r2.toArray⟩], .int .i64 0]) (by simp [results, Tryz.results39, go_sem, f0, f1]) rfl ⟨rfl, HB5.out⟩
end Go.Proofs.YtcfhenekoaegaaaGreatDoor

/- The reference's Parse. -/
namespace Go.Proofs.YtcfhenekoaegaaaGreatDoor
set_option linter.unusedVariables false
set_option linter.unusedSimpArgs false
open Go.RowKit Go.Shelf
set_option maxHeartbeats 8000000
set_option maxRecDepth 100000
namespace Gt
/-- the pairs as far as they are read -/
def QAt (M : List (List UInt8)) (acc : List (List UInt8 × List UInt8)) (k : Nat) : Prop :=
  k ≤ M.length ∧ acc.length ≤ k ∧ all? pairOf (M.filter fun l => !l.isEmpty) = (all? pairOf ((M.drop k).filter fun l => !l.isEmpty)).map (acc ++ ·)
theorem qAt_start (M : List (List UInt8)) : QAt M [] 0 := ⟨Nat.zero_le _, Nat.le_refl _, by cases h : all? pairOf (M.filter fun l => !l.isEmpty) <;> simp [h]⟩
theorem qAt_skip {M : List (List UInt8)} {acc : List (List UInt8 × List UInt8)} {k : Nat} (h : QAt M acc k) (hk : k < M.length) (he : M[k].isEmpty = true) : QAt M acc (k + 1) := by
  refine ⟨hk, Nat.le_succ_of_le h.2.1, ?_⟩
  rw [h.2.2, List.drop_eq_getElem_cons hk, List.filter_cons, he]; rfl
theorem qAt_next {M : List (List UInt8)} {acc : List (List UInt8 × List UInt8)} {k : Nat} {y : List UInt8 × List UInt8} (h : QAt M acc k) (hk : k < M.length) (he : M[k].isEmpty = false) (hy : pairOf M[k] = some y) : QAt M (acc ++ [y]) (k + 1) := by
  refine ⟨hk, by have := h.2.1; simp; omega, ?_⟩
  rw [h.2.2, List.drop_eq_getElem_cons hk, List.filter_cons, he]
  simp only [Bool.not_false, if_true]
  rw [all_some hy]
  cases all? pairOf ((M.drop (k + 1)).filter fun l => !l.isEmpty) <;> simp
theorem qAt_bad {M : List (List UInt8)} {acc : List (List UInt8 × List UInt8)} {k : Nat} (h : QAt M acc k) (hk : k < M.length) (he : M[k].isEmpty = false) (hy : pairOf M[k] = none) : all? pairOf (M.filter fun l => !l.isEmpty) = none := by
  rw [h.2.2, List.drop_eq_getElem_cons hk, List.filter_cons, he]
  simp only [Bool.not_false, if_true]
  rw [all_none hy]; rfl
theorem qAt_end {M : List (List UInt8)} {acc : List (List UInt8 × List UInt8)} {k : Nat} (h : QAt M acc k) (hk : M.length ≤ k) : all? pairOf (M.filter fun l => !l.isEmpty) = some acc := by
  rw [h.2.2, List.drop_eq_nil_of_le hk]
  simp [all_nil]
end Gt
theorem StrRow.fr {w w' : World} {v : Value} {L : List (List UInt8)} {T B : Nat} {p1 p2 : Option Addr} {n1 k1 n2 k2 : Nat} {t : TypeId} (h : StrRow w v L) (hT : w.heap[T]? = some (.cells #[.slice p1 n1 k1, .slice p2 n2 k2] t (0, 0))) (hf : Fr T B w w') (hB : w.heap.size ≤ B) : StrRow w' v L := by
  obtain ⟨p, cap, rfl, h⟩ := h
  refine ⟨p, cap, rfl, h.imp id ?_⟩
  rintro ⟨g, rfl, hc⟩
  refine ⟨g, rfl, fun j hj => ?_⟩
  have h1 := hc j hj
  have hg := lt_of_cell h1
  have hne : g ≠ T := by
    intro e
    subst e
    simp only [World.cell?, hT, Option.bind_eq_bind] at h1
    match j with
    | 0 => simp [tx] at h1
    | 1 => simp [tx] at h1
    | j + 2 => simp at h1
  exact (World.cell?_of_block (a := ⟨g, j, none⟩) (hf.block g (Nat.lt_of_lt_of_le hg hB) hne)).trans h1
theorem own_set {w : World} {base : Nat} {e : TypeId} {size : Nat} {v : Value} {n : Nat} {xs : List Value} (h : w.ownsRow base e size v n xs) (T i : Nat) (x : Value) (hT : T < base) : (w.setCell ⟨T, i, none⟩ x).ownsRow base e size v n xs := by
  refine ⟨h.1, h.2.imp id ?_⟩
  rintro ⟨g, cap, cur, h1, h2, h3, h4⟩
  exact ⟨g, cap, cur, h1, h2, (Below.heap_setCell _ _ _ _ (by simp; omega)).trans h3, h4⟩
theorem own_slice {w : World} {base : Nat} {e : TypeId} {size : Nat} {v : Value} {n : Nat} {xs : List Value} (h : w.ownsRow base e size v n xs) : ∃ p c, v = .slice p n c := by
  rcases h.2 with ⟨rfl, h0⟩ | ⟨g, cap, cur, h1, _⟩
  · exact ⟨none, 0, by rw [h0]⟩
  · exact ⟨_, _, h1⟩
theorem ok_head {s : List UInt8} (h : (s.head? == some 47) = false) : Gt.ok s = false := by unfold Gt.ok; rw [h]; rfl
theorem okB_bad {c : UInt8} {x : Int} (h : (c.toNat : Int) = x) (hb : x < 33 ∨ 126 < x ∨ x = 35) : Gt.okB c = false := by
  unfold Gt.okB
  rcases hb with h' | h' | h'
  · rw [show decide (33 ≤ c.toNat) = false from decide_eq_false (by omega)]; rfl
  · rw [show decide (c.toNat ≤ 126) = false from decide_eq_false (by omega)]; simp
  · have : c = 35 := UInt8.toNat_inj.1 (by show c.toNat = 35; omega)
    subst this; rfl
theorem okB_good {c : UInt8} {x : Int} (h : (c.toNat : Int) = x) (h1 : ¬ x < 33) (h2 : ¬ 126 < x) (h3 : ¬ x = 35) : Gt.okB c = true := by
  unfold Gt.okB
  rw [show decide (33 ≤ c.toNat) = true from decide_eq_true (by omega), show decide (c.toNat ≤ 126) = true from decide_eq_true (by omega)]
  have : c ≠ 35 := fun e => h3 (by rw [← h, e]; rfl)
  simpa using this
theorem bad_byte {l : List UInt8} {c : UInt8} (hm : c ∈ l) (h : Gt.okB c = false) : Gt.ok l = false := by
  unfold Gt.ok
  rw [show l.all Gt.okB = false from List.all_eq_false.2 ⟨c, hm, by rw [h]; simp⟩, Bool.and_false]
theorem ref_Parse (s : ByteArray) (w : World) (hs : s.size ≤ 90000) :
    Calls Tryz.prog 8 #[.string s] w fun e w' => ParseOut w' (Gt.parse s.data.toList) e ∧ Below w.heap.size w w' := by
  obtain ⟨W1, hW1⟩ : ∃ W, w.alloc (.cells #[.slice none 0 0, .slice none 0 0] 26) = W := ⟨_, rfl⟩
  have HB := Lib.hid (show Below w.heap.size w W1 by rw [← hW1]; exact (Below.refl _ _).alloc (Nat.le_refl _) _)
  have hT : W1.heap[w.heap.size]? = some (.cells #[.slice none 0 0, .slice none 0 0] 26 (0, 0)) := by rw [← hW1]; exact World.alloc_heap_new _ _
  have HT := Lib.hid hT
  have HZ := Lib.hid (show W1.heap.size = w.heap.size + 1 by rw [← hW1]; simp)
  have c0 : W1.cell? ⟨w.heap.size, 0, none⟩ = some (.slice none 0 0) := by simp [World.cell?, hT]
  have c1 : W1.cell? ⟨w.heap.size, 1, none⟩ = some (.slice none 0 0) := by simp [World.cell?, hT]
  have z0 : W1.frozen? ⟨w.heap.size, 0, none⟩ = false := frozen_of_row _ _ _ _ _ hT
  have z1 : W1.frozen? ⟨w.heap.size, 1, none⟩ = false := frozen_of_row _ _ _ _ _ hT
  have HW := Lib.hid hW1
  have HL := Lib.hid (show s.data.toList.length = s.size from rfl)
  obtain ⟨O, hO⟩ : ∃ O, Gt.parse s.data.toList = O := ⟨_, rfl⟩
  rw [hO]
  have HO := Lib.hid hO
  clear hW1 hT hO
  have hgs : ∀ (x y : Value) (W : World), (Instr.build 26 #[]).run Tryz.prog W = .ok (.agg #[.slice none 0 0, .slice none 0 0]) W := fun _ _ _ => by kernel_rfl
  clear hgs
  by_cases h1 : 0 < s.size
  · obtain ⟨x0, hx0⟩ : ∃ x : Int, ((s[0]'h1).toNat : Int) = x := ⟨_, rfl⟩
    have hsz : ((s.size : Int) == 0) = false := beq_eq_false_iff_ne.2 (by omega)
    have HHD := Lib.hid (show (s.data.toList.head? == some 47) = (x0 == 47) by
      have h3 : s.data.toList[0]? = some (s[0]'h1) := by rw [List.getElem?_eq_getElem (by rw [HL.out]; exact h1)]; rfl
      rw [List.head?_eq_getElem?, h3]
      rw [Bool.eq_iff_iff, beq_iff_eq, beq_iff_eq]
      constructor
      · intro h
        have h4 : s[0]'h1 = 47 := Option.some.inj h
        rw [← hx0, h4]; rfl
      · intro h
        rw [show s[0]'h1 = 47 from UInt8.toNat_inj.1 (by show (s[0]'h1).toNat = 47; omega)])
    by_cases hx : x0 = 47
    · subst hx
      have HHT := Lib.hid (show (s.data.toList.head? == some 47) = true from HHD.out)
      go_enter Tryz.func8, Tryz.ntmps8
      go_wp2_with fail
      rw [HW.out]

      go_wp2_with fail
      go_loop [4] (fun i => ∃ k : Nat, k ≤ s.size ∧ i = .int .i64 k ∧ (s.data.toList.take k).all Gt.okB = true) (fun i => s.size - (intOf i).toNat)
      case atStart => exact ⟨0, Nat.zero_le _, rfl, rfl⟩
      case round =>
        obtain ⟨k, hk, rfl, hall⟩ := hrel
        have HAL := Lib.hid hall
        clear hall
        by_cases hlt : k < s.size
        · have HKL := Lib.hid (show k < s.data.toList.length from hlt)
          obtain ⟨c, hcc⟩ : ∃ c, s.data.toList[k]'HKL.out = c := ⟨_, rfl⟩
          obtain ⟨x, hx⟩ : ∃ x : Int, (c.toNat : Int) = x := ⟨_, rfl⟩
          have hsx : ((s[k]'hlt).toNat : Int) = x := by rw [← hx, ← hcc]; rfl
          have HX := Lib.hid hx
          have HTK := Lib.hid (show s.data.toList.take (k + 1) = s.data.toList.take k ++ [c] by rw [List.take_succ_eq_append_getElem HKL.out, hcc])
          have HMEM := Lib.hid (show c ∈ s.data.toList by rw [← hcc]; exact List.getElem_mem _)
          clear hx hcc
          by_cases h33 : x < 33
          · have HNO := Lib.hid (Gt.parse_bad (bad_byte HMEM.out (okB_bad HX.out (.inl h33))))
            go_wp2_with fail
            obtain ⟨wz, hwz⟩ : ∃ Z, (W1.setCell ⟨w.heap.size, 0, none⟩ (.slice none 0 0)).setCell ⟨w.heap.size, 1, none⟩ (.slice none 0 0) = Z := ⟨_, rfl⟩
            rw [hwz]
            have HBz := Lib.hid (show Below w.heap.size w wz by rw [← hwz]; exact (HB.out.setCell (p := ⟨w.heap.size, 0, none⟩) (Nat.le_refl _) _).setCell (p := ⟨w.heap.size, 1, none⟩) (Nat.le_refl _) _)
            have hTz : wz.heap[w.heap.size]? = some (.cells #[.slice none 0 0, .slice none 0 0] 26 (0, 0)) := by
              rw [← hwz]; exact heap_setCell_same _ _ 1 _ _ _ (heap_setCell_same _ _ 0 _ _ _ HT.out)
            have f0 : wz.cell? ⟨w.heap.size, 0, none⟩ = some (.slice none 0 0) := by simp [World.cell?, hTz]
            have f1 : wz.cell? ⟨w.heap.size, 1, none⟩ = some (.slice none 0 0) := by simp [World.cell?, hTz]
            exact bodyPost_ret (v := .tuple #[.agg #[.slice none 0 0, .slice none 0 0], .int .i64 210]) (by simp [results, Tryz.results8, go_sem, f0, f1]) rfl ⟨by rw [← HO.out, HNO.out]; rfl, HBz.out⟩

          · by_cases h126 : 126 < x
            · have HNO := Lib.hid (Gt.parse_bad (bad_byte HMEM.out (okB_bad HX.out (.inr (.inl h126)))))
              go_wp2_with fail
              obtain ⟨wz, hwz⟩ : ∃ Z, (W1.setCell ⟨w.heap.size, 0, none⟩ (.slice none 0 0)).setCell ⟨w.heap.size, 1, none⟩ (.slice none 0 0) = Z := ⟨_, rfl⟩
              rw [hwz]
              have HBz := Lib.hid (show Below w.heap.size w wz by rw [← hwz]; exact (HB.out.setCell (p := ⟨w.heap.size, 0, none⟩) (Nat.le_refl _) _).setCell (p := ⟨w.heap.size, 1, none⟩) (Nat.le_refl _) _)
              have hTz : wz.heap[w.heap.size]? = some (.cells #[.slice none 0 0, .slice none 0 0] 26 (0, 0)) := by
                rw [← hwz]; exact heap_setCell_same _ _ 1 _ _ _ (heap_setCell_same _ _ 0 _ _ _ HT.out)
              have f0 : wz.cell? ⟨w.heap.size, 0, none⟩ = some (.slice none 0 0) := by simp [World.cell?, hTz]
              have f1 : wz.cell? ⟨w.heap.size, 1, none⟩ = some (.slice none 0 0) := by simp [World.cell?, hTz]
              exact bodyPost_ret (v := .tuple #[.agg #[.slice none 0 0, .slice none 0 0], .int .i64 210]) (by simp [results, Tryz.results8, go_sem, f0, f1]) rfl ⟨by rw [← HO.out, HNO.out]; rfl, HBz.out⟩

            · by_cases h35 : x = 35
              · have HNO := Lib.hid (Gt.parse_bad (bad_byte HMEM.out (okB_bad HX.out (.inr (.inr h35)))))
                have he : (x == 35) = true := beq_iff_eq.2 h35
                clear h35
                go_wp2_with fail
                obtain ⟨wz, hwz⟩ : ∃ Z, (W1.setCell ⟨w.heap.size, 0, none⟩ (.slice none 0 0)).setCell ⟨w.heap.size, 1, none⟩ (.slice none 0 0) = Z := ⟨_, rfl⟩
                rw [hwz]
                have HBz := Lib.hid (show Below w.heap.size w wz by rw [← hwz]; exact (HB.out.setCell (p := ⟨w.heap.size, 0, none⟩) (Nat.le_refl _) _).setCell (p := ⟨w.heap.size, 1, none⟩) (Nat.le_refl _) _)
                have hTz : wz.heap[w.heap.size]? = some (.cells #[.slice none 0 0, .slice none 0 0] 26 (0, 0)) := by
                  rw [← hwz]; exact heap_setCell_same _ _ 1 _ _ _ (heap_setCell_same _ _ 0 _ _ _ HT.out)
                have f0 : wz.cell? ⟨w.heap.size, 0, none⟩ = some (.slice none 0 0) := by simp [World.cell?, hTz]
                have f1 : wz.cell? ⟨w.heap.size, 1, none⟩ = some (.slice none 0 0) := by simp [World.cell?, hTz]
                exact bodyPost_ret (v := .tuple #[.agg #[.slice none 0 0, .slice none 0 0], .int .i64 210]) (by simp [results, Tryz.results8, go_sem, f0, f1]) rfl ⟨by rw [← HO.out, HNO.out]; rfl, HBz.out⟩

              · have HOK1 := Lib.hid (show (s.data.toList.take (k + 1)).all Gt.okB = true by rw [HTK.out, List.all_append, HAL.out, List.all_cons, okB_good HX.out h33 h126 h35]; rfl)
                have he : (x == 35) = false := beq_eq_false_iff_ne.2 h35
                clear h35
                go_wp2_with fail
                go_round
                case rel => exact ⟨k + 1, hlt, by go_num, HOK1.out⟩
                case measure => simp [intOf]; omega
        · have HOK := Lib.hid (show Gt.ok s.data.toList = true by
            have h5 := HAL.out
            rw [List.take_of_length_le (by rw [HL.out]; omega)] at h5
            unfold Gt.ok; rw [HHT.out, h5]; rfl)
          have hpp := Gs.pos_le 63 s.data.toList
          have hp1 := ok_pos HOK.out
          rw [HL.out] at hpp
          have HSG := Lib.hid (show Gt.segs s.data.toList = Gs.parts 47 [] ((s.data.toList.take (Gs.pos 63 s.data.toList)).drop 1) from rfl)
          have HQG := Lib.hid (show Gt.qrys s.data.toList = (Gs.parts 38 [] (s.data.toList.drop (Gs.pos 63 s.data.toList + 1))).filter fun l => !l.isEmpty from rfl)
          have KAT := ref_at s 63 W1 (by omega)
          rw [show (((63 : UInt8).toNat : Nat) : Int) = 63 from rfl] at KAT
          obtain ⟨n, hpos⟩ : ∃ n, Gs.pos 63 s.data.toList = n := ⟨_, rfl⟩
          rw [hpos] at hpp hp1 HSG HQG KAT
          have HSL := Lib.hid (fun W => slice_mid s W 1 n hp1 hpp (by omega))
          have hsl : ∀ W, (Instr.slice 9 (.string s) (some (.int .i64 1)) (some (.int .i64 (n : Int))) none).run Tryz.prog W = .ok (.string (s.extract 1 n)) W := fun W => HSL.out W
          obtain ⟨m, hm⟩ : ∃ m, m = min (n + 1) s.size := ⟨_, rfl⟩
          have hm2 : m ≤ s.size := by omega
          have HFR := Lib.hid (fun W => str_from s W m hm2 (by omega))
          have HMI := Lib.hid (fun W => min_i64 (n + 1) s.size m hm W)
          have hfr := HFR.out
          have hmi : ∀ W, (Builtin.min_ #[3, 3] 3 #[.int .i64 ((n : Int) + 1), .int .i64 (s.size : Int)]).run Tryz.prog W = .ok (.int .i64 (m : Int)) W := fun W => HMI.out W
          have e1 : (s.extract 1 n).data.toList = (s.data.toList.take n).drop 1 := by rw [Lib.extract_data, List.drop_take]
          have e2 := ext_from s m
          rw [drop_min s.data.toList n m hm] at e2
          obtain ⟨pb, hpb⟩ : ∃ z, s.extract 1 n = z := ⟨_, rfl⟩
          obtain ⟨qb, hqb⟩ : ∃ z, s.extract m s.size = z := ⟨_, rfl⟩
          rw [hpb] at hsl e1
          rw [hqb] at hfr e2
          rw [← e1] at HSG
          rw [← e2] at HQG
          have HPS := Lib.hid (show pb.size ≤ 90000 by
            have h1 : pb.data.toList.length = pb.size := rfl
            rw [e1, List.length_drop, List.length_take, HL.out] at h1; omega)
          have HQS := Lib.hid (show qb.size ≤ 90000 by
            have h1 : qb.data.toList.length = qb.size := rfl
            rw [e2, List.length_drop, HL.out] at h1; omega)
          have HKAT := Lib.hid KAT
          have hn3 : n ≤ 90000 := by omega
          clear KAT hpos hm hpb hqb e1 e2 HSL HFR HMI c0 c1 z0 z1 HAL
          go_wp2_with fail
          refine HKAT.out.mono ?_
          rintro e w2 ⟨rfl, hb2⟩
          obtain ⟨W2, hW2⟩ : ∃ Z, w2.alloc (.cells #[.slice none 0 0, .slice none 0 0] 26) = Z := ⟨_, rfl⟩
          obtain ⟨T, hTT⟩ : ∃ z, w2.heap.size = z := ⟨_, rfl⟩
          have HTW := Lib.hid (show w.heap.size < T by have := hb2.size; rw [HZ.out, hTT] at this; omega)
          have HB2 := Lib.hid (show Below w.heap.size w W2 by rw [← hW2]; exact (HB.out.trans (hb2.mono HB.out.size)).alloc (by rw [hTT]; have := HTW.out; omega) _)
          have HT2 := Lib.hid (show W2.heap[w.heap.size]? = some (.cells #[.slice none 0 0, .slice none 0 0] 26 (0, 0)) by
            rw [← hW2, Below.heap_alloc _ _ _ (by rw [hTT]; exact HTW.out)]; exact (hb2.block _ (by rw [HZ.out]; omega)).trans HT.out)
          have HU2 := Lib.hid (show W2.heap[T]? = some (.cells #[.slice none 0 0, .slice none 0 0] 26 (0, 0)) by rw [← hW2, ← hTT]; exact World.alloc_heap_new _ _)
          have HW2 := Lib.hid hW2
          have HZ2 := Lib.hid (show W2.heap.size = T + 1 by rw [← hW2, ← hTT]; simp)
          have hTT2 := Lib.hid hTT
          clear hb2 hW2 hTT
          go_wp2_with fail
          rw [hTT2.out, HW2.out]
          have KB47 := ref_between pb 47 W2 (by have := HPS.out; omega)
          rw [show (((47 : UInt8).toNat : Nat) : Int) = 47 from rfl] at KB47
          refine KB47.mono ?_
          clear KB47
          rintro e w3 ⟨r7, rfl, hr7, hb3⟩
          have HR7 := Lib.hid hr7
          obtain ⟨p7, c7, rfl, _⟩ := hr7
          obtain ⟨M, hM⟩ : ∃ M, Gs.parts 47 [] pb.data.toList = M := ⟨_, rfl⟩
          have HML := Lib.hid (show M.length ≤ 100000 by
            have h1 := Gs.parts_many 47 pb.data.toList []
            rw [hM] at h1
            have h2 : pb.data.toList.length = pb.size := rfl
            have h3 := HPS.out
            omega)
          have HMS := Lib.hid (fun l (hl : l ∈ M) => show l.length ≤ 90000 by
            have h1 := Gs.parts_len 47 pb.data.toList [] l (by rw [hM]; exact hl)
            have h2 : pb.data.toList.length = pb.size := rfl
            have h3 := HPS.out
            simp at h1
            omega)
          rw [hM] at HR7 HSG ⊢
          obtain ⟨N, hN⟩ : ∃ N, M.length = N := ⟨_, rfl⟩
          have HN := Lib.hid hN
          rw [hN] at HML ⊢
          have HB3 := Lib.hid (HB2.out.trans (hb3.mono HB2.out.size))
          have HT3 := Lib.hid ((hb3.block _ (by rw [HZ2.out]; have := HTW.out; omega)).trans HT2.out)
          have HU3 := Lib.hid ((hb3.block _ (by rw [HZ2.out]; omega)).trans HU2.out)
          have HZ3 := Lib.hid (show T < w3.heap.size by have := hb3.size; rw [HZ2.out] at this; omega)
          obtain ⟨B3, hB3⟩ : ∃ b, w3.heap.size = b := ⟨_, rfl⟩
          rw [hB3] at HZ3
          have HB3E := Lib.hid hB3
          clear hM hN hb3 hB3 HU2 HT2 HB2 HZ2
          obtain ⟨i0, hi, hz0, hz1, hz2⟩ := info_parts (show (Tryz.prog.info? 9).map (fun i => (i.zero, i.size, i.bytes)) = some (some (.string ByteArray.empty), 1, 16) by kernel_rfl)
          go_wp2_with fail
          have hN9 := HML.out
          go_loopw [8] (fun i wr => ∃ (k : Nat) (acc : List (List UInt8)) (v : Value), k ≤ N ∧ i = .int .i64 k ∧ Gt.AAt Gt.seg M acc k ∧ wr.heap[T]? = some (.cells #[v, .slice none 0 0] 26 (0, 0)) ∧ wr.ownsRow B3 9 1 v acc.length (acc.map tx) ∧ Fr T B3 w3 wr)
            (fun i _ => N - (intOf i).toNat)
          case atStart => exact ⟨0, [], .slice none 0 0, Nat.zero_le _, rfl, Gt.aAt_start _ _, HU3.out, World.ownsRow_nil _ _ _ _, Fr.of (Below.refl _ _)⟩
          case round =>
            obtain ⟨k, acc, v, hk, rfl, hat, hTc, hown, hfr'⟩ := hrel
            have HA := Lib.hid hat
            have HTC := Lib.hid hTc
            have HO2 := Lib.hid hown
            have HF := Lib.hid hfr'
            have hR := HR7.out.fr HU3.out HF.out (Nat.le_of_eq HB3E.out)
            have HR := Lib.hid hR
            have HBW := Lib.hid (show Below w.heap.size w wr from HB3.out.trans (HF.out.below (by have := HTW.out; omega) (by have := HTW.out; have := HZ3.out; omega)))
            have HTwr := Lib.hid (show wr.heap[w.heap.size]? = some (.cells #[.slice none 0 0, .slice none 0 0] 26 (0, 0)) from (HF.out.block _ (by have := HTW.out; have := HZ3.out; omega) (by have := HTW.out; omega)).trans HT3.out)
            clear hat hTc hown hfr'
            by_cases hlt : k < N
            · have HKM := Lib.hid (show k < M.length by rw [HN.out]; exact hlt)
              obtain ⟨l, hl⟩ : ∃ l, M[k]'HKM.out = l := ⟨_, rfl⟩
              have HLM := Lib.hid (show l ∈ M by rw [← hl]; exact List.getElem_mem _)
              have hcell : ∃ g, p7 = some ⟨g, 0, none⟩ ∧ wr.cell? ⟨g, k, none⟩ = some (tx l) := by
                obtain ⟨p, cap, hp, h⟩ := hR
                rcases h with h | ⟨g, hg, hc⟩
                · rw [HN.out] at h; omega
                · refine ⟨g, ?_, ?_⟩
                  · have : p7 = p := by injection hp
                    rw [this, hg]
                  · rw [hc k HKM.out, List.getD_eq_getElem?_getD, List.getElem?_eq_getElem HKM.out, hl]; rfl
              obtain ⟨g, rfl, hck⟩ := hcell
              obtain ⟨lb, hlb⟩ : ∃ z : ByteArray, (⟨l.toArray⟩ : ByteArray) = z := ⟨_, rfl⟩
              rw [show tx l = .string lb by unfold tx; rw [hlb]] at hck
              have HLB := Lib.hid (show lb.data.toList = l by rw [← hlb])
              have HLS := Lib.hid (show lb.size ≤ 1000000 by
                have h1 : lb.data.toList.length = lb.size := rfl
                rw [HLB.out] at h1
                have := HMS.out l HLM.out
                omega)
              have K1 := Lib.hid (ref_Decode lb false wr HLS.out)
              rw [HLB.out] at K1
              have HL2 := Lib.hid hl
              clear hR hl hlb
              cases hd : Gt.dec false l with
              | none =>
                rw [hd] at K1
                have HNO := Lib.hid (Gt.parse_segs HOK.out (by rw [HSG.out]; exact Gt.aAt_bad HA.out HKM.out (by rw [HL2.out]; exact Gt.seg_none hd)))
                clear hd
                simp only [decOut] at K1
                go_wp2_with fail
                refine K1.out.mono ?_
                rintro e w4 ⟨rfl, hb4⟩
                have HB4 := Lib.hid (HBW.out.trans (hb4.mono HBW.out.size))
                have HT4 := Lib.hid ((hb4.block _ (Nat.lt_of_lt_of_le (Array.getElem?_eq_some_iff.1 HT.out).1 (Nat.le_trans (Nat.le_of_eq HZ.out) (by have h1 := HF.out.size; have h2 := HTW.out; have h3 := HZ3.out; have h4 := HB3E.out; omega)))).trans HTwr.out)
                clear hb4
                have c0 : w4.cell? ⟨w.heap.size, 0, none⟩ = some (.slice none 0 0) := by simp [World.cell?, HT4.out]
                have c1 : w4.cell? ⟨w.heap.size, 1, none⟩ = some (.slice none 0 0) := by simp [World.cell?, HT4.out]
                have z0 : w4.frozen? ⟨w.heap.size, 0, none⟩ = false := frozen_of_row _ _ _ _ _ HT4.out
                have z1 : w4.frozen? ⟨w.heap.size, 1, none⟩ = false := frozen_of_row _ _ _ _ _ HT4.out
                go_wp2_with fail
                obtain ⟨wz, hwz⟩ : ∃ Z, (w4.setCell ⟨w.heap.size, 0, none⟩ (.slice none 0 0)).setCell ⟨w.heap.size, 1, none⟩ (.slice none 0 0) = Z := ⟨_, rfl⟩
                rw [hwz]
                have HBz := Lib.hid (show Below w.heap.size w wz by rw [← hwz]; exact (HB4.out.setCell (p := ⟨w.heap.size, 0, none⟩) (Nat.le_refl _) _).setCell (p := ⟨w.heap.size, 1, none⟩) (Nat.le_refl _) _)
                have hTz : wz.heap[w.heap.size]? = some (.cells #[.slice none 0 0, .slice none 0 0] 26 (0, 0)) := by
                  rw [← hwz]; exact heap_setCell_same _ _ 1 _ _ _ (heap_setCell_same _ _ 0 _ _ _ HT4.out)
                have f0 : wz.cell? ⟨w.heap.size, 0, none⟩ = some (.slice none 0 0) := by simp [World.cell?, hTz]
                have f1 : wz.cell? ⟨w.heap.size, 1, none⟩ = some (.slice none 0 0) := by simp [World.cell?, hTz]
                exact bodyPost_ret (v := .tuple #[.agg #[.slice none 0 0, .slice none 0 0], .int .i64 210]) (by simp [results, Tryz.results8, go_sem, f0, f1]) rfl ⟨by rw [← HO.out, HNO.out]; rfl, HBz.out⟩
              | some q =>
                rw [hd] at K1
                have HSEG := Lib.hid (Gt.seg_some hd)
                have HQL := Lib.hid (Gt.dec_length false _ l q (Nat.le_refl _) hd)
                clear hd
                obtain ⟨qq, hqq⟩ : ∃ z : ByteArray, (⟨q.toArray⟩ : ByteArray) = z := ⟨_, rfl⟩
                have HQQ := Lib.hid (show qq.data.toList = q by rw [← hqq])
                have HQS2 := Lib.hid (show qq.size ≤ 1000000 by
                  have h1 : qq.data.toList.length = qq.size := rfl
                  rw [HQQ.out] at h1
                  have := HQL.out
                  have := HMS.out l HLM.out
                  omega)
                simp only [decOut, hqq] at K1
                have HTX := Lib.hid (show tx q = .string qq by unfold tx; rw [hqq])
                have KP := Lib.hid (fun W => ref_part qq W HQS2.out)
                rw [HQQ.out] at KP
                clear hqq
                cases hf : Gt.fine q with
                | false =>
                  rw [hf] at KP
                  have HNO := Lib.hid (Gt.parse_segs HOK.out (by rw [HSG.out]; exact Gt.aAt_bad HA.out HKM.out (by rw [HL2.out, HSEG.out, hf]; rfl)))
                  clear hf
                  go_wp2_with fail
                  refine K1.out.mono ?_
                  rintro e w4a ⟨rfl, hb4a⟩
                  go_wp2_with fail
                  refine (KP.out w4a).mono ?_
                  rintro e w4 ⟨rfl, hb4b⟩
                  have hb4 := hb4a.trans (hb4b.mono hb4a.size)
                  have HB4 := Lib.hid (HBW.out.trans (hb4.mono HBW.out.size))
                  have HT4 := Lib.hid ((hb4.block _ (Nat.lt_of_lt_of_le (Array.getElem?_eq_some_iff.1 HT.out).1 (Nat.le_trans (Nat.le_of_eq HZ.out) (by have h1 := HF.out.size; have h2 := HTW.out; have h3 := HZ3.out; have h4 := HB3E.out; omega)))).trans HTwr.out)
                  clear hb4 hb4a hb4b
                  have c0 : w4.cell? ⟨w.heap.size, 0, none⟩ = some (.slice none 0 0) := by simp [World.cell?, HT4.out]
                  have c1 : w4.cell? ⟨w.heap.size, 1, none⟩ = some (.slice none 0 0) := by simp [World.cell?, HT4.out]
                  have z0 : w4.frozen? ⟨w.heap.size, 0, none⟩ = false := frozen_of_row _ _ _ _ _ HT4.out
                  have z1 : w4.frozen? ⟨w.heap.size, 1, none⟩ = false := frozen_of_row _ _ _ _ _ HT4.out
                  go_wp2_with fail
                  obtain ⟨wz, hwz⟩ : ∃ Z, (w4.setCell ⟨w.heap.size, 0, none⟩ (.slice none 0 0)).setCell ⟨w.heap.size, 1, none⟩ (.slice none 0 0) = Z := ⟨_, rfl⟩
                  rw [hwz]
                  have HBz := Lib.hid (show Below w.heap.size w wz by rw [← hwz]; exact (HB4.out.setCell (p := ⟨w.heap.size, 0, none⟩) (Nat.le_refl _) _).setCell (p := ⟨w.heap.size, 1, none⟩) (Nat.le_refl _) _)
                  have hTz : wz.heap[w.heap.size]? = some (.cells #[.slice none 0 0, .slice none 0 0] 26 (0, 0)) := by
                    rw [← hwz]; exact heap_setCell_same _ _ 1 _ _ _ (heap_setCell_same _ _ 0 _ _ _ HT4.out)
                  have f0 : wz.cell? ⟨w.heap.size, 0, none⟩ = some (.slice none 0 0) := by simp [World.cell?, hTz]
                  have f1 : wz.cell? ⟨w.heap.size, 1, none⟩ = some (.slice none 0 0) := by simp [World.cell?, hTz]
                  exact bodyPost_ret (v := .tuple #[.agg #[.slice none 0 0, .slice none 0 0], .int .i64 210]) (by simp [results, Tryz.results8, go_sem, f0, f1]) rfl ⟨by rw [← HO.out, HNO.out]; rfl, HBz.out⟩
                | true =>
                  rw [hf] at KP
                  have HN1 := Lib.hid (Gt.aAt_next HA.out HKM.out (show Gt.seg (M[k]'HKM.out) = some q by rw [HL2.out, HSEG.out, hf]; rfl))
                  clear hf
                  go_wp2_with fail
                  refine K1.out.mono ?_
                  rintro e w4a ⟨rfl, hb4a⟩
                  go_wp2_with fail
                  refine (KP.out w4a).mono ?_
                  rintro e w4 ⟨rfl, hb4b⟩
                  have hb4 := hb4a.trans (hb4b.mono hb4a.size)
                  have HLT := Lib.hid (show T < wr.heap.size from (Array.getElem?_eq_some_iff.1 HTC.out).1)
                  have hTC4 := (hb4.block _ HLT.out).trans HTC.out
                  have HTC4 := Lib.hid hTC4
                  have HO4 := Lib.hid (HO2.out.belowed hb4)
                  have HF4 := Lib.hid (show Fr T B3 w3 w4 from HF.out.trans (Fr.of (hb4.mono (by have h1 := HF.out.size; rw [HB3E.out] at h1; exact h1))))
                  obtain ⟨pv, cv, rfl⟩ := own_slice HO2.out
                  have d0 : w4.cell? ⟨T, 0, none⟩ = some (.slice pv acc.length cv) := by simp [World.cell?, hTC4]
                  have zz0 : w4.frozen? ⟨T, 0, none⟩ = false := frozen_of_row _ _ _ _ _ hTC4
                  clear hb4 hb4a hb4b hTC4
                  go_wp2_with (at_builtin; refine wpList_append_own _ rfl _ _ 23 rfl B3 9 i0 (.string ByteArray.empty) 1 16 Tryz.underlying23 hi hz0 hz1 hz2 rfl (by decide) _ _ _ rfl (HO4.out.alloc _) ⟨w4.heap.size, 0, none⟩ 1 1 [.string qq] rfl rfl ?c1 ?c2 ?c3 ?c4 ?c5 ?_)
                  case c1 =>
                    intro j u hj
                    match j, hj with
                    | 0, hj => simp at hj; subst hj; simp [Addr.add]
                  case c2 => intro u hu; simp at hu; subst hu; rfl
                  case c3 => have := HA.out.2.1; have := HML.out; unfold maxLen; omega
                  case c4 => have := HA.out.2.1; have := HML.out; omega
                  case c5 => have h1 := HF4.out.size; rw [HB3E.out] at h1; simp; omega
                  intro v' w5 hown' hgrow _
                  have HF5 := Lib.hid (show Fr T B3 w3 w5 from HF4.out.trans (Fr.of (Below.grown ((Below.refl _ _).alloc (by have h1 := HF4.out.size; rw [HB3E.out] at h1; exact h1) _) hgrow (by have h1 := HF4.out.size; rw [HB3E.out] at h1; simp; omega) (own_ge HO4.out))))
                  have HO5 := Lib.hid (show w5.ownsRow B3 9 1 v' (acc ++ [q]).length ((acc ++ [q]).map tx) by
                    rw [List.map_append, List.length_append]
                    show w5.ownsRow B3 9 1 v' _ (_ ++ [tx q])
                    rw [HTX.out]
                    exact hown')
                  obtain ⟨pw, cw, rfl⟩ := own_slice hown'
                  have hTC5 : w5.heap[T]? = some (.cells #[.slice pv acc.length cv, .slice none 0 0] 26 (0, 0)) := by
                    have h9 : T < w4.heap.size := (Array.getElem?_eq_some_iff.1 HTC4.out).1
                    have h8 : T < B3 := HZ3.out
                    rw [hgrow.block T (by rw [World.size_alloc]; exact Nat.lt_succ_of_lt h9) (fun e => by
                      have h1 : B3 ≤ T := own_ge HO4.out T e.symm
                      exact Nat.lt_irrefl _ (Nat.lt_of_lt_of_le h8 h1)), Below.heap_alloc _ _ _ h9]
                    exact HTC4.out
                  have HTC5 := Lib.hid hTC5
                  have d5 : w5.cell? ⟨T, 0, none⟩ = some (.slice pv acc.length cv) := by simp [World.cell?, hTC5]
                  have zz5 : w5.frozen? ⟨T, 0, none⟩ = false := frozen_of_row _ _ _ _ _ hTC5
                  clear hgrow hown' hTC5 d0 zz0
                  go_wp2
                  go_roundw
                  case rel =>
                    refine ⟨k + 1, acc ++ [q], .slice pw (acc.length + 1) cw, hlt, by go_num, HN1.out, heap_setCell_same _ _ 0 _ _ _ HTC5.out, ?_, HF5.out.trans (Fr.set _ _ _ _ _)⟩
                    exact own_set HO5.out T 0 _ HZ3.out
                  case measure => simp [intOf]; omega
            · have HEP := Lib.hid (show Gt.all? Gt.seg (Gt.segs s.data.toList) = some acc by rw [HSG.out]; exact Gt.aAt_end HA.out (by rw [HN.out]; omega))
              have HPR := Lib.hid (strRow_own HO2.out)
              obtain ⟨pv, cv, rfl⟩ := own_slice HO2.out
              have KB38 := ref_between qb 38 wr (by have := HQS.out; omega)
              rw [show (((38 : UInt8).toNat : Nat) : Int) = 38 from rfl] at KB38
              have HKB := Lib.hid KB38
              obtain ⟨np, hnp⟩ : ∃ z, acc.length = z := ⟨_, rfl⟩
              rw [hnp] at HTC HPR
              clear KB38 hnp
              have HR7 := Lib.hid trivial
              go_wp2_with fail
              refine HKB.out.mono ?_
              rintro e w7 ⟨r11, rfl, hr11, hb7⟩
              have HR11 := Lib.hid hr11
              obtain ⟨p11, c11, rfl, _⟩ := hr11
              obtain ⟨M2, hM2⟩ : ∃ M, Gs.parts 38 [] qb.data.toList = M := ⟨_, rfl⟩
              have HM2L := Lib.hid (show M2.length ≤ 100000 by
                have h1 := Gs.parts_many 38 qb.data.toList []
                rw [hM2] at h1
                have h2 : qb.data.toList.length = qb.size := rfl
                have h3 := HQS.out
                omega)
              have HM2S := Lib.hid (fun l (hl : l ∈ M2) => show l.length ≤ 90000 by
                have h1 := Gs.parts_len 38 qb.data.toList [] l (by rw [hM2]; exact hl)
                have h2 : qb.data.toList.length = qb.size := rfl
                have h3 := HQS.out
                simp at h1
                omega)
              rw [hM2] at HR11 HQG ⊢
              obtain ⟨N2, hN2⟩ : ∃ N, M2.length = N := ⟨_, rfl⟩
              have HN2 := Lib.hid hN2
              rw [hN2] at HM2L ⊢
              have hn2 := HM2L.out
              have HWL := Lib.hid (show w.heap.size < wr.heap.size by
                have h1 := HF.out.size; have h2 := HTW.out; have h3 := HZ3.out; have h4 := HB3E.out; omega)
              have HTL := Lib.hid (show T < wr.heap.size from (Array.getElem?_eq_some_iff.1 HTC.out).1)
              have HB7 := Lib.hid (HBW.out.trans (hb7.mono HBW.out.size))
              have HT7 := Lib.hid ((hb7.block _ HWL.out).trans HTwr.out)
              have HU7 := Lib.hid ((hb7.block _ HTL.out).trans HTC.out)
              have HP7 := Lib.hid (HPR.out.below hb7)
              have HTL7 := Lib.hid (show T < w7.heap.size from Nat.lt_of_lt_of_le HTL.out hb7.size)
              obtain ⟨B7, hB7⟩ : ∃ b, w7.heap.size = b := ⟨_, rfl⟩
              rw [hB7] at HTL7
              have HB7E := Lib.hid hB7
              clear hM2 hN2 hb7 hB7
              obtain ⟨j0, hj, hjz0, hjz1, hjz2⟩ := info_parts (show (Tryz.prog.info? 47).map (fun i => (i.zero, i.size, i.bytes)) = some (some (.agg #[.string ByteArray.empty, .string ByteArray.empty]), 2, 32) by kernel_rfl)
              go_wp2_with fail
              go_loopw [12] (fun i wr => ∃ (k : Nat) (acq : List (List UInt8 × List UInt8)) (v : Value), k ≤ N2 ∧ i = .int .i64 k ∧ Gt.QAt M2 acq k ∧ wr.heap[T]? = some (.cells #[.slice pv np cv, v] 26 (0, 0)) ∧ wr.ownsRow B7 47 2 v acq.length (prs acq) ∧ Fr T B7 w7 wr)
                (fun i _ => N2 - (intOf i).toNat)
              case atStart => exact ⟨0, [], .slice none 0 0, Nat.zero_le _, rfl, Gt.qAt_start _, HU7.out, World.ownsRow_nil _ _ _ _, Fr.of (Below.refl _ _)⟩
              case round =>
                clear HA HTC HO2 HF HBW HTwr HWL HPR HTL
                obtain ⟨k, acq, v, hk, rfl, hat, hTc, hown, hfr'⟩ := hrel
                have HA := Lib.hid hat
                have HTC := Lib.hid hTc
                have HO2 := Lib.hid hown
                have HF := Lib.hid hfr'
                have hR := HR11.out.fr HU7.out HF.out (Nat.le_of_eq HB7E.out)
                have hTB : T < B7 := HTL7.out
                have HBW := Lib.hid (show Below w.heap.size w wr from HB7.out.trans (HF.out.below (by have := HTW.out; omega) (by have := HTW.out; omega)))
                have HTwr := Lib.hid (show wr.heap[w.heap.size]? = some (.cells #[.slice none 0 0, .slice none 0 0] 26 (0, 0)) from (HF.out.block _ (by have := HTW.out; omega) (by have := HTW.out; omega)).trans HT7.out)
                have HPR := Lib.hid (HP7.out.fr HU7.out HF.out (Nat.le_of_eq HB7E.out))
                have HWZ := Lib.hid (show B7 ≤ wr.heap.size by have h1 := HF.out.size; rw [HB7E.out] at h1; exact h1)
                obtain ⟨p2, c2, rfl⟩ := own_slice hown
                clear hat hTc hown hfr'
                by_cases hlt : k < N2
                · have HKM := Lib.hid (show k < M2.length by rw [HN2.out]; exact hlt)
                  obtain ⟨l, hl⟩ : ∃ l, M2[k]'HKM.out = l := ⟨_, rfl⟩
                  have HLM := Lib.hid (show l ∈ M2 by rw [← hl]; exact List.getElem_mem _)
                  have hcell : ∃ g, p11 = some ⟨g, 0, none⟩ ∧ wr.cell? ⟨g, k, none⟩ = some (tx l) := by
                    obtain ⟨p, cap, hp, h⟩ := hR
                    rcases h with h | ⟨g, hg, hc⟩
                    · rw [HN2.out] at h; omega
                    · refine ⟨g, ?_, ?_⟩
                      · have : p11 = p := by injection hp
                        rw [this, hg]
                      · rw [hc k HKM.out, List.getD_eq_getElem?_getD, List.getElem?_eq_getElem HKM.out, hl]; rfl
                  obtain ⟨g, rfl, hck⟩ := hcell
                  obtain ⟨lb, hlb⟩ : ∃ z : ByteArray, (⟨l.toArray⟩ : ByteArray) = z := ⟨_, rfl⟩
                  rw [show tx l = .string lb by unfold tx; rw [hlb]] at hck
                  have HLB := Lib.hid (show lb.data.toList = l by rw [← hlb])
                  have HLS := Lib.hid (show lb.size ≤ 1000000 by
                    have h1 : lb.data.toList.length = lb.size := rfl
                    rw [HLB.out] at h1
                    have := HM2S.out l HLM.out
                    omega)
                  have HL2 := Lib.hid hl
                  clear hR hl hlb
                  cases hem : l.isEmpty with
                  | true =>
                    have HN1 := Lib.hid (Gt.qAt_skip HA.out HKM.out (by rw [HL2.out]; exact hem))
                    have hem2 : lb.toList.isEmpty = true := by rw [Lib.toList_data, HLB.out]; exact hem
                    have hem3 : lb.toList = [] := List.isEmpty_iff.1 hem2
                    clear hem
                    go_wp2_with fail
                    go_roundw
                    case rel => exact ⟨k + 1, acq, _, hlt, by go_num, HN1.out, HTC.out, HO2.out, HF.out⟩
                    case measure => simp [intOf]; omega
                  | false =>
                    have HEM := Lib.hid hem
                    have hem2 : lb.toList.isEmpty = false := by rw [Lib.toList_data, HLB.out]; exact hem
                    have K1 := Lib.hid (ref_pair lb wr HLS.out)
                    rw [HLB.out] at K1
                    clear hem
                    cases hd : Gt.pairOf l with
                    | none =>
                      rw [hd] at K1
                      have HNO := Lib.hid (show Gt.parse s.data.toList = none by rw [Gt.parse_is HOK.out HEP.out, HQG.out, Gt.qAt_bad HA.out HKM.out (by rw [HL2.out]; exact HEM.out) (by rw [HL2.out]; exact hd)]; rfl)
                      clear hd
                      simp only [rprOut] at K1
                      obtain ⟨eb, heb⟩ : ∃ z : ByteArray, (⟨#[]⟩ : ByteArray) = z := ⟨_, rfl⟩
                      rw [heb] at K1
                      clear heb
                      go_wp2_with fail
                      refine K1.out.mono ?_
                      rintro e w8 ⟨rfl, hb8⟩
                      obtain ⟨w4, hw4⟩ : ∃ Z, w8.alloc (.cells #[.string eb, .string eb] 47) = Z := ⟨_, rfl⟩
                      have hb4 : Below wr.heap.size wr w4 := by rw [← hw4]; exact hb8.alloc hb8.size _
                      have HB4 := Lib.hid (HBW.out.trans (hb4.mono HBW.out.size))
                      have HT4 := Lib.hid ((hb4.block _ (by have := HWZ.out; have := HTW.out; omega)).trans HTwr.out)
                      clear hb4 hb8
                      have c0 : w4.cell? ⟨w.heap.size, 0, none⟩ = some (.slice none 0 0) := by simp [World.cell?, HT4.out]
                      have c1 : w4.cell? ⟨w.heap.size, 1, none⟩ = some (.slice none 0 0) := by simp [World.cell?, HT4.out]
                      have z0 : w4.frozen? ⟨w.heap.size, 0, none⟩ = false := frozen_of_row _ _ _ _ _ HT4.out
                      have z1 : w4.frozen? ⟨w.heap.size, 1, none⟩ = false := frozen_of_row _ _ _ _ _ HT4.out
                      go_wp2_with fail
                      clear hw4
                      obtain ⟨wz, hwz⟩ : ∃ Z, (w4.setCell ⟨w.heap.size, 0, none⟩ (.slice none 0 0)).setCell ⟨w.heap.size, 1, none⟩ (.slice none 0 0) = Z := ⟨_, rfl⟩
                      rw [hwz]
                      have HBz := Lib.hid (show Below w.heap.size w wz by rw [← hwz]; exact (HB4.out.setCell (p := ⟨w.heap.size, 0, none⟩) (Nat.le_refl _) _).setCell (p := ⟨w.heap.size, 1, none⟩) (Nat.le_refl _) _)
                      have hTz : wz.heap[w.heap.size]? = some (.cells #[.slice none 0 0, .slice none 0 0] 26 (0, 0)) := by
                        rw [← hwz]; exact heap_setCell_same _ _ 1 _ _ _ (heap_setCell_same _ _ 0 _ _ _ HT4.out)
                      have f0 : wz.cell? ⟨w.heap.size, 0, none⟩ = some (.slice none 0 0) := by simp [World.cell?, hTz]
                      have f1 : wz.cell? ⟨w.heap.size, 1, none⟩ = some (.slice none 0 0) := by simp [World.cell?, hTz]
                      exact bodyPost_ret (v := .tuple #[.agg #[.slice none 0 0, .slice none 0 0], .int .i64 210]) (by simp [results, Tryz.results8, go_sem, f0, f1]) rfl ⟨by rw [← HO.out, HNO.out]; rfl, HBz.out⟩
                    | some q =>
                      obtain ⟨qa, qd⟩ := q
                      rw [hd] at K1
                      have HN1 := Lib.hid (Gt.qAt_next HA.out HKM.out (by rw [HL2.out]; exact HEM.out) (by rw [HL2.out]; exact hd))
                      clear hd
                      simp only [rprOut] at K1
                      obtain ⟨ab, hab⟩ : ∃ z : ByteArray, (⟨qa.toArray⟩ : ByteArray) = z := ⟨_, rfl⟩
                      obtain ⟨db, hdb⟩ : ∃ z : ByteArray, (⟨qd.toArray⟩ : ByteArray) = z := ⟨_, rfl⟩
                      rw [hab, hdb] at K1
                      have HTA := Lib.hid (show [tx qa, tx qd] = [.string ab, .string db] by unfold tx; rw [hab, hdb])
                      clear hab hdb
                      go_wp2_with fail
                      refine K1.out.mono ?_
                      rintro e w8 ⟨rfl, hb8⟩
                      obtain ⟨w4, hw4⟩ : ∃ Z, w8.alloc (.cells #[.string ab, .string db] 47) = Z := ⟨_, rfl⟩
                      have HB4 := Lib.hid (show Below wr.heap.size wr w4 by rw [← hw4]; exact hb8.alloc hb8.size _)
                      have hTwr9 : T < wr.heap.size := by have := HWZ.out; omega
                      have hTC4 := (HB4.out.block _ hTwr9).trans HTC.out
                      have hPN : w4.heap[w8.heap.size]? = some (.cells #[.string ab, .string db] 47 (0, 0)) := by rw [← hw4]; exact World.alloc_heap_new _ _
                      have d1 : w4.cell? ⟨T, 1, none⟩ = some (.slice p2 acq.length c2) := by simp [World.cell?, hTC4]
                      have g1 : w4.frozen? ⟨T, 1, none⟩ = false := frozen_of_row _ _ _ _ _ hTC4
                      have d2 : w4.cell? ⟨w8.heap.size, 0, none⟩ = some (.string ab) := by simp [World.cell?, hPN]
                      have d3 : w4.cell? ⟨w8.heap.size, 1, none⟩ = some (.string db) := by simp [World.cell?, hPN]
                      have HTC4 := Lib.hid hTC4
                      have HO4 := Lib.hid (HO2.out.belowed HB4.out)
                      have HF4 := Lib.hid (show Fr T B7 w7 w4 from HF.out.trans (Fr.of (HB4.out.mono HWZ.out)))
                      have HZ4 := Lib.hid (show B7 ≤ w4.heap.size from Nat.le_trans HWZ.out HB4.out.size)
                      clear hTC4 hPN hb8
                      go_wp2_with (at_builtin; refine wpList_append_own _ rfl _ _ 24 rfl B7 47 j0 (.agg #[.string ByteArray.empty, .string ByteArray.empty]) 2 32 Tryz.underlying24 hj hjz0 hjz1 hjz2 rfl (by decide) _ _ _ rfl (HO4.out.alloc _) ⟨w4.heap.size, 0, none⟩ 1 1 [.string ab, .string db] rfl rfl ?e1 ?e2 ?e3 ?e4 ?e5 ?_)
                      case e1 =>
                        intro j u hj
                        match j, hj with
                        | 0, hj => simp at hj; subst hj; simp [Addr.add]
                        | 1, hj => simp at hj; subst hj; simp [Addr.add]
                      case e2 => intro u hu; simp at hu; rcases hu with rfl | rfl <;> rfl
                      case e3 => have := HA.out.2.1; unfold maxLen; omega
                      case e4 => have := HA.out.2.1; omega
                      case e5 => have h1 := HZ4.out; simp; omega
                      intro v' w5 hown' hgrow _
                      have HF5 := Lib.hid (show Fr T B7 w7 w5 from HF4.out.trans (Fr.of (Below.grown ((Below.refl _ _).alloc HZ4.out _) hgrow (by have h1 := HZ4.out; simp; omega) (own_ge2 HO4.out))))
                      have HO5 := Lib.hid (show w5.ownsRow B7 47 2 v' (acq ++ [(qa, qd)]).length (prs (acq ++ [(qa, qd)])) by
                        rw [prs_snoc, List.length_append, HTA.out]
                        exact hown')
                      obtain ⟨pw, cw, rfl⟩ := own_slice hown'
                      have hTC5 : w5.heap[T]? = some (.cells #[.slice pv np cv, .slice p2 acq.length c2] 26 (0, 0)) := by
                        have h9 : T < w4.heap.size := (Array.getElem?_eq_some_iff.1 HTC4.out).1
                        have h8 : T < B7 := HTL7.out
                        rw [hgrow.block T (by rw [World.size_alloc]; exact Nat.lt_succ_of_lt h9) (fun e => by
                          have h1 : B7 ≤ T := own_ge2 HO4.out T e.symm
                          exact Nat.lt_irrefl _ (Nat.lt_of_lt_of_le h8 h1)), Below.heap_alloc _ _ _ h9]
                        exact HTC4.out
                      have HTC5 := Lib.hid hTC5
                      have d5 : w5.cell? ⟨T, 1, none⟩ = some (.slice p2 acq.length c2) := by simp [World.cell?, hTC5]
                      have zz5 : w5.frozen? ⟨T, 1, none⟩ = false := frozen_of_row _ _ _ _ _ hTC5
                      clear hgrow hown' hTC5 d1 g1 d2 d3
                      go_wp2
                      go_roundw
                      case rel =>
                        refine ⟨k + 1, acq ++ [(qa, qd)], .slice pw (acq.length + 1) cw, hlt, by go_num, HN1.out, heap_setCell_same _ _ 1 _ _ _ HTC5.out, ?_, HF5.out.trans (Fr.set _ _ _ _ _)⟩
                        exact own_set HO5.out T 1 _ HTL7.out
                      case measure => simp [intOf]; omega
                · have HEQ := Lib.hid (show Gt.parse s.data.toList = some (acc, acq) by rw [Gt.parse_is HOK.out HEP.out, HQG.out, Gt.qAt_end HA.out (by rw [HN2.out]; omega)]; rfl)
                  have HPQ := Lib.hid (show PrRow wr (.slice p2 acq.length c2) acq from ⟨B7, HO2.out⟩)
                  have d0 : wr.cell? ⟨T, 0, none⟩ = some (.slice pv np cv) := by simp [World.cell?, HTC.out]
                  have d1 : wr.cell? ⟨T, 1, none⟩ = some (.slice p2 acq.length c2) := by simp [World.cell?, HTC.out]
                  have c0 : wr.cell? ⟨w.heap.size, 0, none⟩ = some (.slice none 0 0) := by simp [World.cell?, HTwr.out]
                  have c1 : wr.cell? ⟨w.heap.size, 1, none⟩ = some (.slice none 0 0) := by simp [World.cell?, HTwr.out]
                  have z0 : wr.frozen? ⟨w.heap.size, 0, none⟩ = false := frozen_of_row _ _ _ _ _ HTwr.out
                  have z1 : wr.frozen? ⟨w.heap.size, 1, none⟩ = false := frozen_of_row _ _ _ _ _ HTwr.out
                  go_wp2_with fail
                  obtain ⟨wz, hwz⟩ : ∃ Z, (wr.setCell ⟨w.heap.size, 0, none⟩ (.slice pv np cv)).setCell ⟨w.heap.size, 1, none⟩ (.slice p2 acq.length c2) = Z := ⟨_, rfl⟩
                  rw [hwz]
                  have HBz := Lib.hid (show Below w.heap.size w wz by rw [← hwz]; exact (HBW.out.setCell (p := ⟨w.heap.size, 0, none⟩) (Nat.le_refl _) _).setCell (p := ⟨w.heap.size, 1, none⟩) (Nat.le_refl _) _)
                  have t1 : (wr.setCell ⟨w.heap.size, 0, none⟩ (.slice pv np cv)).heap[w.heap.size]? = some (.cells #[.slice pv np cv, .slice none 0 0] 26 (0, 0)) := heap_setCell_same _ _ 0 _ _ (.slice pv np cv) HTwr.out
                  have hTz : wz.heap[w.heap.size]? = some (.cells #[.slice pv np cv, .slice p2 acq.length c2] 26 (0, 0)) := by
                    rw [← hwz]; exact heap_setCell_same _ _ 1 _ _ _ t1
                  have HRz := Lib.hid (show StrRow wz (.slice pv np cv) acc by rw [← hwz]; exact (HPR.out.setT HTwr.out 0 _).setT t1 1 _)
                  have HQz := Lib.hid (show PrRow wz (.slice p2 acq.length c2) acq by rw [← hwz]; exact (HPQ.out.setT HTwr.out (by decide) 0 _).setT t1 (by decide) 1 _)
                  have f0 : wz.cell? ⟨w.heap.size, 0, none⟩ = some (.slice pv np cv) := by simp [World.cell?, hTz]
                  have f1 : wz.cell? ⟨w.heap.size, 1, none⟩ = some (.slice p2 acq.length c2) := by simp [World.cell?, hTz]
                  clear hwz t1 hTz
                  refine bodyPost_ret (v := .tuple #[.agg #[.slice pv np cv, .slice p2 acq.length c2], .int .i64 0]) (by simp [results, Tryz.results8, go_sem, f0, f1]) rfl ⟨?_, HBz.out⟩
                  rw [← HO.out, HEQ.out]
                  exact ⟨_, _, rfl, HRz.out, HQz.out⟩
    · have HNO := Lib.hid (Gt.parse_bad (ok_head (s := s.data.toList) (by rw [HHD.out]; exact beq_eq_false_iff_ne.2 hx)))
      have hx' : (x0 == 47) = false := beq_eq_false_iff_ne.2 hx
      have hx2 : (x0 != 47) = true := by unfold bne; rw [hx']; rfl
      clear hx
      go_enter Tryz.func8, Tryz.ntmps8
      go_wp2_with fail
      rw [HW.out]
      go_wp2_with fail

      exact bodyPost_ret (v := .tuple #[.agg #[.slice none 0 0, .slice none 0 0], .int .i64 210]) (by simp [results, Tryz.results8, go_sem, c0, c1]) rfl ⟨by rw [← HO.out, HNO.out]; rfl, HB.out⟩
  · have HNO := Lib.hid (Gt.parse_bad (ok_head (s := s.data.toList) (by
      have h3 : s.data.toList = [] := List.length_eq_zero_iff.1 (by rw [HL.out]; omega)
      rw [h3]; rfl)))
    have hsz : ((s.size : Int) == 0) = true := beq_iff_eq.2 (by omega)
    go_enter Tryz.func8, Tryz.ntmps8
    go_wp2_with fail
    rw [HW.out]
    go_wp2_with fail

    exact bodyPost_ret (v := .tuple #[.agg #[.slice none 0 0, .slice none 0 0], .int .i64 210]) (by simp [results, Tryz.results8, go_sem, c0, c1]) rfl ⟨by rw [← HO.out, HNO.out]; rfl, HB.out⟩
end Go.Proofs.YtcfhenekoaegaaaGreatDoor

/- Slices of texts and of pairs that are read; the reference's Same. -/
namespace Go.Proofs.YtcfhenekoaegaaaGreatDoor
set_option linter.unusedVariables false
set_option linter.unusedSimpArgs false
open Go.RowKit Go.Shelf
set_option maxHeartbeats 8000000
set_option maxRecDepth 100000
/-- a slice of texts -/
def TS (w : World) (v : Value) (L : List (List UInt8)) : Prop :=
  (∃ p c, v = .slice p 0 c ∧ L = []) ∨ ∃ b off cap, v = .slice (some ⟨b, off, none⟩) L.length cap ∧ ∀ j, j < L.length → w.cell? ⟨b, off + j, none⟩ = some (tx (L.getD j []))
/-- a slice of pairs -/
def PS (w : World) (v : Value) (L : List (List UInt8 × List UInt8)) : Prop :=
  (v = .slice none 0 0 ∧ L = []) ∨ ∃ b off cap, v = .slice (some ⟨b, off, none⟩) L.length cap ∧ ∀ j, j < L.length → w.cell? ⟨b, off + j * 2, none⟩ = some (tx (L.getD j ([], [])).1) ∧ w.cell? ⟨b, off + j * 2 + 1, none⟩ = some (tx (L.getD j ([], [])).2)
theorem TS.below {w w' : World} {v : Value} {L : List (List UInt8)} (h : TS w v L) (k : Below w.heap.size w w') : TS w' v L := by
  rcases h with h | ⟨b, off, cap, h1, h3⟩
  · exact .inl h
  · exact .inr ⟨b, off, cap, h1, fun j hj => cell_below k (h3 j hj)⟩
theorem PS.below {w w' : World} {v : Value} {L : List (List UInt8 × List UInt8)} (h : PS w v L) (k : Below w.heap.size w w') : PS w' v L := by
  rcases h with h | ⟨b, off, cap, h1, h3⟩
  · exact .inl h
  · exact .inr ⟨b, off, cap, h1, fun j hj => ⟨cell_below k (h3 j hj).1, cell_below k (h3 j hj).2⟩⟩
theorem TS.of {w : World} {v : Value} {L : List (List UInt8)} (h : StrRow w v L) : TS w v L := by
  obtain ⟨p, cap, rfl, h⟩ := h
  rcases h with h | ⟨g, rfl, hc⟩
  · exact .inl ⟨p, cap, by rw [h], List.length_eq_zero_iff.1 h⟩
  · refine .inr ⟨g, 0, cap, rfl, fun j hj => ?_⟩
    rw [Nat.zero_add]; exact hc j hj
theorem prs_get : ∀ (L : List (List UInt8 × List UInt8)) (j : Nat), j < L.length → (prs L)[j * 2]? = some (tx (L.getD j ([], [])).1) ∧ (prs L)[j * 2 + 1]? = some (tx (L.getD j ([], [])).2)
  | p :: L, 0, _ => ⟨rfl, rfl⟩
  | p :: L, j + 1, h => by
    have := prs_get L j (by simpa using h)
    have e : prs (p :: L) = tx p.1 :: tx p.2 :: prs L := rfl
    rw [e, show (j + 1) * 2 = j * 2 + 1 + 1 by omega]
    simpa using this
theorem PS.of {w : World} {v : Value} {L : List (List UInt8 × List UInt8)} (h : PrRow w v L) : PS w v L := by
  obtain ⟨B, hl, h⟩ := h
  rcases h with ⟨rfl, h0⟩ | ⟨g, cap, cur, rfl, _, hg, hc, _, hs, ht⟩
  · exact .inl ⟨rfl, List.length_eq_zero_iff.1 h0⟩
  · refine .inr ⟨g, 0, cap, rfl, fun j hj => ?_⟩
    have hp := prs_get L j hj
    rw [Nat.zero_add, ← ht, List.getElem?_take_of_lt (by omega), List.getElem?_take_of_lt (by omega)] at *
    refine ⟨?_, ?_⟩
    · rw [← hp.1]; simp [World.cell?, hg]
    · rw [← hp.2]; simp [World.cell?, hg]
theorem TS.slice {w : World} {v : Value} {L : List (List UInt8)} (h : TS w v L) : ∃ p c, v = .slice p L.length c := by
  rcases h with ⟨p, c, rfl, rfl⟩ | ⟨b, off, cap, rfl, _⟩
  · exact ⟨_, _, rfl⟩
  · exact ⟨_, _, rfl⟩
theorem PS.slice {w : World} {v : Value} {L : List (List UInt8 × List UInt8)} (h : PS w v L) : ∃ p c, v = .slice p L.length c := by
  rcases h with ⟨rfl, rfl⟩ | ⟨b, off, cap, rfl, _⟩
  · exact ⟨_, _, rfl⟩
  · exact ⟨_, _, rfl⟩
theorem TS.cells {w : World} {p : Option Addr} {n c : Nat} {L : List (List UInt8)} (h : TS w (.slice p n c) L) {k : Nat} (hk : k < L.length) : ∃ b off, p = some ⟨b, off, none⟩ ∧ ∀ j, j < L.length → w.cell? ⟨b, off + j, none⟩ = some (tx (L.getD j [])) := by
  rcases h with ⟨p, c, _, rfl⟩ | ⟨b, off, cap, h1, h3⟩
  · simp at hk
  · refine ⟨b, off, by injection h1, h3⟩
theorem PS.cells {w : World} {p : Option Addr} {n c : Nat} {L : List (List UInt8 × List UInt8)} (h : PS w (.slice p n c) L) {k : Nat} (hk : k < L.length) : ∃ b off, p = some ⟨b, off, none⟩ ∧ ∀ j, j < L.length → w.cell? ⟨b, off + j * 2, none⟩ = some (tx (L.getD j ([], [])).1) ∧ w.cell? ⟨b, off + j * 2 + 1, none⟩ = some (tx (L.getD j ([], [])).2) := by
  rcases h with ⟨_, rfl⟩ | ⟨b, off, cap, h1, h3⟩
  · simp at hk
  · refine ⟨b, off, by injection h1, h3⟩
theorem take_getD {α : Type} (L : List α) (d : α) (k : Nat) (h : k < L.length) : L.take (k + 1) = L.take k ++ [L.getD k d] := by
  rw [List.take_succ_eq_append_getElem h, List.getD_eq_getElem?_getD, List.getElem?_eq_getElem h]; rfl
theorem take_differ {α : Type} {L M : List α} {d : α} {k : Nat} (h1 : k < L.length) (h2 : k < M.length) (h : L.getD k d ≠ M.getD k d) : L ≠ M := fun e => h (by rw [e])
theorem ref_Same (v1 v2 u1 u2 : Value) (P P' : List (List UInt8)) (Q Q' : List (List UInt8 × List UInt8)) (w : World) (h1 : TS w v1 P) (h2 : PS w v2 Q) (h3 : TS w u1 P') (h4 : PS w u2 Q')
    (hl1 : P.length ≤ 100000) (hl2 : Q.length ≤ 100000) (hl3 : P'.length ≤ 100000) (hl4 : Q'.length ≤ 100000) :
    Calls Tryz.prog 9 #[.agg #[v1, v2], .agg #[u1, u2]] w fun e w' => e = .returned (.bool (decide (P = P' ∧ Q = Q'))) ∧ Below w.heap.size w w' := by
  obtain ⟨p1, c1, rfl⟩ := h1.slice
  obtain ⟨p2, c2, rfl⟩ := h2.slice
  obtain ⟨q1, d1, rfl⟩ := h3.slice
  obtain ⟨q2, d2, rfl⟩ := h4.slice
  obtain ⟨n1, hn1⟩ : ∃ n, P.length = n := ⟨_, rfl⟩
  obtain ⟨n2, hn2⟩ : ∃ n, Q.length = n := ⟨_, rfl⟩
  obtain ⟨m1, hm1⟩ : ∃ n, P'.length = n := ⟨_, rfl⟩
  obtain ⟨m2, hm2⟩ : ∃ n, Q'.length = n := ⟨_, rfl⟩
  rw [hn1] at h1 hl1 ⊢
  rw [hn2] at h2 hl2 ⊢
  rw [hm1] at h3 hl3 ⊢
  rw [hm2] at h4 hl4 ⊢
  obtain ⟨W1, hW1⟩ : ∃ Z, (w.alloc (.cells #[.slice p1 n1 c1, .slice p2 n2 c2] 26)).alloc (.cells #[.slice q1 m1 d1, .slice q2 m2 d2] 26) = Z := ⟨_, rfl⟩
  have hb1 : Below w.heap.size w W1 := by rw [← hW1]; exact ((Below.refl _ _).alloc (Nat.le_refl _) _).alloc (by simp) _
  have hA : W1.heap[w.heap.size]? = some (.cells #[.slice p1 n1 c1, .slice p2 n2 c2] 26 (0, 0)) := by
    rw [← hW1, Below.heap_alloc _ _ _ (by simp)]; exact World.alloc_heap_new _ _
  have hB : W1.heap[w.heap.size + 1]? = some (.cells #[.slice q1 m1 d1, .slice q2 m2 d2] 26 (0, 0)) := by
    rw [← hW1]
    have := World.alloc_heap_new (w.alloc (.cells #[.slice p1 n1 c1, .slice p2 n2 c2] 26)) (.cells #[.slice q1 m1 d1, .slice q2 m2 d2] 26)
    simpa using this
  have a0 : W1.cell? ⟨w.heap.size, 0, none⟩ = some (.slice p1 n1 c1) := by simp [World.cell?, hA]
  have a1 : W1.cell? ⟨w.heap.size, 1, none⟩ = some (.slice p2 n2 c2) := by simp [World.cell?, hA]
  have b0 : W1.cell? ⟨w.heap.size + 1, 0, none⟩ = some (.slice q1 m1 d1) := by simp [World.cell?, hB]
  have b1 : W1.cell? ⟨w.heap.size + 1, 1, none⟩ = some (.slice q2 m2 d2) := by simp [World.cell?, hB]
  have HB := Lib.hid hb1
  have H1 := Lib.hid (h1.below hb1)
  have H2 := Lib.hid (h2.below hb1)
  have H3 := Lib.hid (h3.below hb1)
  have H4 := Lib.hid (h4.below hb1)
  have HN1 := Lib.hid hn1
  have HN2 := Lib.hid hn2
  have HM1 := Lib.hid hm1
  have HM2 := Lib.hid hm2
  have HW := Lib.hid hW1
  clear h1 h2 h3 h4 hb1 hA hB hn1 hn2 hm1 hm2 hW1
  by_cases hne1 : n1 = m1
  · by_cases hne2 : n2 = m2
    · subst hne1
      subst hne2
      go_enter Tryz.func9, Tryz.ntmps9
      go_wp2_with fail
      rw [HW.out]
      go_loopw [5] (fun i wr => ∃ k n : Nat, k ≤ n1 ∧ i = .int .i64 k ∧ P.take k = P'.take k ∧ wr = W1.drewN n) (fun i _ => n1 - (intOf i).toNat)
      case atStart => exact ⟨0, 0, Nat.zero_le _, rfl, rfl, rfl⟩
      case round =>
        obtain ⟨k, n, hk, rfl, htk, rfl⟩ := hrel
        have HT := Lib.hid htk
        clear htk
        by_cases hlt : k < n1
        · obtain ⟨g1, o1, rfl, hc1⟩ := H1.out.cells (k := k) (by rw [HN1.out]; exact hlt)
          obtain ⟨g2, o2, rfl, hc2⟩ := H3.out.cells (k := k) (by rw [HM1.out]; exact hlt)
          have hx := hc1 k (by rw [HN1.out]; exact hlt)
          have hy := hc2 k (by rw [HM1.out]; exact hlt)
          have HK1 := Lib.hid (take_getD P [] k (by rw [HN1.out]; exact hlt))
          have HK2 := Lib.hid (take_getD P' [] k (by rw [HM1.out]; exact hlt))
          obtain ⟨x, hxx⟩ : ∃ x, P.getD k [] = x := ⟨_, rfl⟩
          obtain ⟨y, hyy⟩ : ∃ x, P'.getD k [] = x := ⟨_, rfl⟩
          rw [hxx] at hx HK1
          rw [hyy] at hy HK2
          have HX := Lib.hid hxx
          have HY := Lib.hid hyy
          unfold tx at hx hy
          obtain ⟨xb, hxb⟩ : ∃ z : ByteArray, (⟨x.toArray⟩ : ByteArray) = z := ⟨_, rfl⟩
          obtain ⟨yb, hyb⟩ : ∃ z : ByteArray, (⟨y.toArray⟩ : ByteArray) = z := ⟨_, rfl⟩
          rw [hxb] at hx
          rw [hyb] at hy
          have hq : (xb.toList == yb.toList) = (x == y) := by rw [← hxb, ← hyb, ByteArray.toList_eq, ByteArray.toList_eq]
          clear hxb hyb hc1 hc2 hxx hyy
          obtain ⟨d, hd⟩ : ∃ d, (x == y) = d := ⟨_, rfl⟩
          rw [hd] at hq
          have HD := Lib.hid hd
          clear hd
          cases d with
          | false =>
            have HF := Lib.hid (show decide (P = P' ∧ Q = Q') = false from decide_eq_false (fun h => beq_eq_false_iff_ne.1 HD.out (by rw [← HX.out, ← HY.out, h.1])))
            go_wp2_with fail
            go_quiet (fail)
            go_wp2_with fail
            go_ret
            exact ⟨by rw [HF.out]; rfl, HB.out.trans ⟨rfl, rfl, rfl, Nat.le_refl _, fun _ _ => rfl⟩⟩
          | true =>
            have HXY := Lib.hid (beq_iff_eq.1 HD.out)
            go_wp2_with fail
            go_quiet (fail)
            go_wp2_with fail
            go_roundw
            case rel => exact ⟨k + 1, _, hlt, by go_num, by rw [HK1.out, HK2.out, HT.out, HXY.out], rfl⟩
            case measure => simp [intOf]; omega
        · have HPP := Lib.hid (show P = P' by
            have := HT.out
            rwa [List.take_of_length_le (by rw [HN1.out]; omega), List.take_of_length_le (by rw [HM1.out]; omega)] at this)
          go_wp2_with fail
          go_loopw [6] (fun i wr => ∃ k n : Nat, k ≤ n2 ∧ i = .int .i64 k ∧ Q.take k = Q'.take k ∧ wr = W1.drewN n) (fun i _ => n2 - (intOf i).toNat)
          case atStart => exact ⟨0, _, Nat.zero_le _, rfl, rfl, rfl⟩
          case round =>
            obtain ⟨k, n, hk, rfl, htk, rfl⟩ := hrel
            have HT := Lib.hid htk
            clear htk
            by_cases hlt : k < n2
            · obtain ⟨g1, o1, rfl, hc1⟩ := H2.out.cells (k := k) (by rw [HN2.out]; exact hlt)
              obtain ⟨g2, o2, rfl, hc2⟩ := H4.out.cells (k := k) (by rw [HM2.out]; exact hlt)
              obtain ⟨hx, hx2⟩ := hc1 k (by rw [HN2.out]; exact hlt)
              obtain ⟨hy, hy2⟩ := hc2 k (by rw [HM2.out]; exact hlt)
              have HK1 := Lib.hid (take_getD Q ([], []) k (by rw [HN2.out]; exact hlt))
              have HK2 := Lib.hid (take_getD Q' ([], []) k (by rw [HM2.out]; exact hlt))
              obtain ⟨⟨x, x2⟩, hxx⟩ : ∃ x, Q.getD k ([], []) = x := ⟨_, rfl⟩
              obtain ⟨⟨y, y2⟩, hyy⟩ : ∃ x, Q'.getD k ([], []) = x := ⟨_, rfl⟩
              rw [hxx] at hx hx2 HK1
              rw [hyy] at hy hy2 HK2
              have HX := Lib.hid hxx
              have HY := Lib.hid hyy
              unfold tx at hx hy hx2 hy2
              simp only at hx hy hx2 hy2
              obtain ⟨xb, hxb⟩ : ∃ z : ByteArray, (⟨x.toArray⟩ : ByteArray) = z := ⟨_, rfl⟩
              obtain ⟨yb, hyb⟩ : ∃ z : ByteArray, (⟨y.toArray⟩ : ByteArray) = z := ⟨_, rfl⟩
              obtain ⟨xc, hxc⟩ : ∃ z : ByteArray, (⟨x2.toArray⟩ : ByteArray) = z := ⟨_, rfl⟩
              obtain ⟨yc, hyc⟩ : ∃ z : ByteArray, (⟨y2.toArray⟩ : ByteArray) = z := ⟨_, rfl⟩
              rw [hxb] at hx
              rw [hyb] at hy
              rw [hxc] at hx2
              rw [hyc] at hy2
              have hq : (xb.toList == yb.toList) = (x == y) := by rw [← hxb, ← hyb, ByteArray.toList_eq, ByteArray.toList_eq]
              have hq2 : (xc.toList == yc.toList) = (x2 == y2) := by rw [← hxc, ← hyc, ByteArray.toList_eq, ByteArray.toList_eq]
              clear hxb hyb hc1 hc2 hxx hyy hxc hyc
              obtain ⟨d, hd⟩ : ∃ d, (x == y) = d := ⟨_, rfl⟩
              obtain ⟨e, he⟩ : ∃ d, (x2 == y2) = d := ⟨_, rfl⟩
              rw [hd] at hq
              rw [he] at hq2
              have HD := Lib.hid hd
              have HE := Lib.hid he
              clear hd he
              cases d with
              | false =>
                have HF := Lib.hid (show decide (P = P' ∧ Q = Q') = false from decide_eq_false (fun h => beq_eq_false_iff_ne.1 HD.out (by have h1 := HX.out; rw [h.2, HY.out] at h1; injection h1 with h2 h3; exact h2.symm)))
                go_wp2_with fail
                go_quiet (fail)
                go_wp2_with fail
                go_ret
                exact ⟨by rw [HF.out]; rfl, HB.out.trans ⟨rfl, rfl, rfl, Nat.le_refl _, fun _ _ => rfl⟩⟩
              | true =>
                cases e with
                | false =>
                  have HF := Lib.hid (show decide (P = P' ∧ Q = Q') = false from decide_eq_false (fun h => beq_eq_false_iff_ne.1 HE.out (by have h1 := HX.out; rw [h.2, HY.out] at h1; injection h1 with h2 h3; exact h3.symm)))
                  go_wp2_with fail
                  go_quiet (fail)
                  go_wp2_with fail
                  go_ret
                  exact ⟨by rw [HF.out]; rfl, HB.out.trans ⟨rfl, rfl, rfl, Nat.le_refl _, fun _ _ => rfl⟩⟩
                | true =>
                  have HXY := Lib.hid (show x = y ∧ x2 = y2 from ⟨beq_iff_eq.1 HD.out, beq_iff_eq.1 HE.out⟩)
                  go_wp2_with fail
                  go_quiet (fail)
                  go_wp2_with fail
                  go_roundw
                  case rel => exact ⟨k + 1, _, hlt, by go_num, by rw [HK1.out, HK2.out, HT.out, HXY.out.1, HXY.out.2], rfl⟩
                  case measure => simp [intOf]; omega
            · have HQQ := Lib.hid (show Q = Q' by
                have := HT.out
                rwa [List.take_of_length_le (by rw [HN2.out]; omega), List.take_of_length_le (by rw [HM2.out]; omega)] at this)
              go_wp2_with fail
              go_ret
              exact ⟨by rw [decide_eq_true (show P = P' ∧ Q = Q' from ⟨HPP.out, HQQ.out⟩)]; rfl, HB.out.trans ⟨rfl, rfl, rfl, Nat.le_refl _, fun _ _ => rfl⟩⟩
    · subst hne1
      have HF := Lib.hid (show decide (P = P' ∧ Q = Q') = false from decide_eq_false (fun h => hne2 (by rw [← HN2.out, ← HM2.out, h.2])))
      go_enter Tryz.func9, Tryz.ntmps9
      go_wp2_with fail
      rw [HW.out]
      go_ret
      exact ⟨by rw [HF.out]; rfl, HB.out⟩
  · have HF := Lib.hid (show decide (P = P' ∧ Q = Q') = false from decide_eq_false (fun h => hne1 (by rw [← HN1.out, ← HM1.out, h.1])))
    go_enter Tryz.func9, Tryz.ntmps9
    go_wp2_with fail
    rw [HW.out]
    go_ret
    exact ⟨by rw [HF.out]; rfl, HB.out⟩
end Go.Proofs.YtcfhenekoaegaaaGreatDoor

/- slices.Equal at texts and at pairs; target.Same. -/
namespace Go.Proofs.YtcfhenekoaegaaaGreatDoor
set_option linter.unusedVariables false
set_option linter.unusedSimpArgs false
open Go.RowKit Go.Shelf
set_option maxHeartbeats 8000000
set_option maxRecDepth 100000
theorem sl_eqT (v1 u1 : Value) (P P' : List (List UInt8)) (w : World) (h1 : TS w v1 P) (h3 : TS w u1 P') (hl1 : P.length ≤ 100000) (hl3 : P'.length ≤ 100000) :
    Calls Tryz.prog 52 #[v1, u1] w fun e w' => e = .returned (.bool (decide (P = P'))) ∧ ∃ n, w' = w.drewN n := by
  obtain ⟨p1, c1, rfl⟩ := h1.slice
  obtain ⟨q1, d1, rfl⟩ := h3.slice
  obtain ⟨n1, hn1⟩ : ∃ n, P.length = n := ⟨_, rfl⟩
  obtain ⟨m1, hm1⟩ : ∃ n, P'.length = n := ⟨_, rfl⟩
  rw [hn1] at h1 hl1 ⊢
  rw [hm1] at h3 hl3 ⊢
  have H1 := Lib.hid h1
  have H3 := Lib.hid h3
  have HN1 := Lib.hid hn1
  have HM1 := Lib.hid hm1
  clear h1 h3 hn1 hm1
  by_cases hne1 : n1 = m1
  · subst hne1
    go_enter Tryz.func52, Tryz.ntmps52
    go_wp2_with fail
    go_loopw [13] (fun i wr => ∃ k n : Nat, k ≤ n1 ∧ i = .int .i64 k ∧ P.take k = P'.take k ∧ wr = w.drewN n) (fun i _ => n1 - (intOf i).toNat)
    case atStart => exact ⟨0, 0, Nat.zero_le _, rfl, rfl, rfl⟩
    case round =>
      obtain ⟨k, n, hk, rfl, htk, rfl⟩ := hrel
      have HT := Lib.hid htk
      clear htk
      by_cases hlt : k < n1
      · obtain ⟨g1, o1, rfl, hc1⟩ := H1.out.cells (k := k) (by rw [HN1.out]; exact hlt)
        obtain ⟨g2, o2, rfl, hc2⟩ := H3.out.cells (k := k) (by rw [HM1.out]; exact hlt)
        have hx := hc1 k (by rw [HN1.out]; exact hlt)
        have hy := hc2 k (by rw [HM1.out]; exact hlt)
        have HK1 := Lib.hid (take_getD P [] k (by rw [HN1.out]; exact hlt))
        have HK2 := Lib.hid (take_getD P' [] k (by rw [HM1.out]; exact hlt))
        obtain ⟨x, hxx⟩ : ∃ x, P.getD k [] = x := ⟨_, rfl⟩
        obtain ⟨y, hyy⟩ : ∃ x, P'.getD k [] = x := ⟨_, rfl⟩
        rw [hxx] at hx HK1
        rw [hyy] at hy HK2
        have HX := Lib.hid hxx
        have HY := Lib.hid hyy
        unfold tx at hx hy
        obtain ⟨xb, hxb⟩ : ∃ z : ByteArray, (⟨x.toArray⟩ : ByteArray) = z := ⟨_, rfl⟩
        obtain ⟨yb, hyb⟩ : ∃ z : ByteArray, (⟨y.toArray⟩ : ByteArray) = z := ⟨_, rfl⟩
        rw [hxb] at hx
        rw [hyb] at hy
        have hq : (xb.toList == yb.toList) = (x == y) := by rw [← hxb, ← hyb, ByteArray.toList_eq, ByteArray.toList_eq]
        clear hxb hyb hc1 hc2 hxx hyy
        obtain ⟨d, hd⟩ : ∃ d, (x == y) = d := ⟨_, rfl⟩
        rw [hd] at hq
        have HD := Lib.hid hd
        clear hd
        cases d with
        | false =>
          have HF := Lib.hid (show decide (P = P') = false from decide_eq_false (fun h => beq_eq_false_iff_ne.1 HD.out (by rw [← HX.out, ← HY.out, h])))
          go_wp2_with fail
          go_quiet (fail)
          go_wp2_with fail
          go_ret
          exact ⟨by rw [HF.out]; rfl, n + nq, by rw [World.drewN_drewN]⟩
        | true =>
          have HXY := Lib.hid (beq_iff_eq.1 HD.out)
          go_wp2_with fail
          go_quiet (fail)
          go_wp2_with fail
          go_roundw
          case rel => exact ⟨k + 1, _, hlt, by go_num, by rw [HK1.out, HK2.out, HT.out, HXY.out], rfl⟩
          case measure => simp [intOf]; omega
      · have HPP := Lib.hid (show P = P' by
          have := HT.out
          rwa [List.take_of_length_le (by rw [HN1.out]; omega), List.take_of_length_le (by rw [HM1.out]; omega)] at this)
        go_wp2_with fail
        go_ret
        exact ⟨by rw [decide_eq_true HPP.out]; rfl, _, rfl⟩
  · have HF := Lib.hid (show decide (P = P') = false from decide_eq_false (fun h => hne1 (by rw [← HN1.out, ← HM1.out, h])))
    go_enter Tryz.func52, Tryz.ntmps52
    go_wp2_with fail
    go_ret
    exact ⟨by rw [HF.out]; rfl, 0, rfl⟩
theorem sl_eqP (v1 u1 : Value) (P P' : List (List UInt8 × List UInt8)) (w : World) (h1 : PS w v1 P) (h3 : PS w u1 P') (hl1 : P.length ≤ 100000) (hl3 : P'.length ≤ 100000) :
    Calls Tryz.prog 53 #[v1, u1] w fun e w' => e = .returned (.bool (decide (P = P'))) ∧ ∃ n, w' = w.drewN n := by
  obtain ⟨p1, c1, rfl⟩ := h1.slice
  obtain ⟨q1, d1, rfl⟩ := h3.slice
  obtain ⟨n1, hn1⟩ : ∃ n, P.length = n := ⟨_, rfl⟩
  obtain ⟨m1, hm1⟩ : ∃ n, P'.length = n := ⟨_, rfl⟩
  rw [hn1] at h1 hl1 ⊢
  rw [hm1] at h3 hl3 ⊢
  have H1 := Lib.hid h1
  have H3 := Lib.hid h3
  have HN1 := Lib.hid hn1
  have HM1 := Lib.hid hm1
  clear h1 h3 hn1 hm1
  by_cases hne1 : n1 = m1
  · subst hne1
    go_enter Tryz.func53, Tryz.ntmps53
    go_wp2_with fail
    go_loopw [13] (fun i wr => ∃ k n : Nat, k ≤ n1 ∧ i = .int .i64 k ∧ P.take k = P'.take k ∧ wr = w.drewN n) (fun i _ => n1 - (intOf i).toNat)
    case atStart => exact ⟨0, 0, Nat.zero_le _, rfl, rfl, rfl⟩
    case round =>
      obtain ⟨k, n, hk, rfl, htk, rfl⟩ := hrel
      have HT := Lib.hid htk
      clear htk
      by_cases hlt : k < n1
      · obtain ⟨g1, o1, rfl, hc1⟩ := H1.out.cells (k := k) (by rw [HN1.out]; exact hlt)
        obtain ⟨g2, o2, rfl, hc2⟩ := H3.out.cells (k := k) (by rw [HM1.out]; exact hlt)
        obtain ⟨hx, hx2⟩ := hc1 k (by rw [HN1.out]; exact hlt)
        obtain ⟨hy, hy2⟩ := hc2 k (by rw [HM1.out]; exact hlt)
        have HK1 := Lib.hid (take_getD P ([], []) k (by rw [HN1.out]; exact hlt))
        have HK2 := Lib.hid (take_getD P' ([], []) k (by rw [HM1.out]; exact hlt))
        obtain ⟨⟨x, x2⟩, hxx⟩ : ∃ x, P.getD k ([], []) = x := ⟨_, rfl⟩
        obtain ⟨⟨y, y2⟩, hyy⟩ : ∃ x, P'.getD k ([], []) = x := ⟨_, rfl⟩
        rw [hxx] at hx hx2 HK1
        rw [hyy] at hy hy2 HK2
        have HX := Lib.hid hxx
        have HY := Lib.hid hyy
        unfold tx at hx hy hx2 hy2
        simp only at hx hy hx2 hy2
        obtain ⟨xb, hxb⟩ : ∃ z : ByteArray, (⟨x.toArray⟩ : ByteArray) = z := ⟨_, rfl⟩
        obtain ⟨yb, hyb⟩ : ∃ z : ByteArray, (⟨y.toArray⟩ : ByteArray) = z := ⟨_, rfl⟩
        obtain ⟨xc, hxc⟩ : ∃ z : ByteArray, (⟨x2.toArray⟩ : ByteArray) = z := ⟨_, rfl⟩
        obtain ⟨yc, hyc⟩ : ∃ z : ByteArray, (⟨y2.toArray⟩ : ByteArray) = z := ⟨_, rfl⟩
        rw [hxb] at hx
        rw [hyb] at hy
        rw [hxc] at hx2
        rw [hyc] at hy2
        have hq : (xb.toList == yb.toList) = (x == y) := by rw [← hxb, ← hyb, ByteArray.toList_eq, ByteArray.toList_eq]
        have hq2 : (xc.toList == yc.toList) = (x2 == y2) := by rw [← hxc, ← hyc, ByteArray.toList_eq, ByteArray.toList_eq]
        clear hxb hyb hc1 hc2 hxx hyy hxc hyc
        obtain ⟨d, hd⟩ : ∃ d, (x == y) = d := ⟨_, rfl⟩
        obtain ⟨e, he⟩ : ∃ d, (x2 == y2) = d := ⟨_, rfl⟩
        rw [hd] at hq
        rw [he] at hq2
        have HD := Lib.hid hd
        have HE := Lib.hid he
        clear hd he
        cases d with
        | false =>
          have HF := Lib.hid (show decide (P = P') = false from decide_eq_false (fun h => beq_eq_false_iff_ne.1 HD.out (by have h1 := HX.out; rw [h, HY.out] at h1; injection h1 with h2 h3; exact h2.symm)))
          go_wp2_with fail
          go_quiet (fail)
          go_wp2_with fail
          go_ret
          exact ⟨by rw [HF.out]; rfl, n + nq, by rw [World.drewN_drewN]⟩
        | true =>
          cases e with
          | false =>
            have HF := Lib.hid (show decide (P = P') = false from decide_eq_false (fun h => beq_eq_false_iff_ne.1 HE.out (by have h1 := HX.out; rw [h, HY.out] at h1; injection h1 with h2 h3; exact h3.symm)))
            go_wp2_with fail
            go_quiet (fail)
            go_wp2_with fail
            go_ret
            exact ⟨by rw [HF.out]; rfl, n + nq, by rw [World.drewN_drewN]⟩
          | true =>
            have HXY := Lib.hid (show x = y ∧ x2 = y2 from ⟨beq_iff_eq.1 HD.out, beq_iff_eq.1 HE.out⟩)
            go_wp2_with fail
            go_quiet (fail)
            go_wp2_with fail
            go_roundw
            case rel => exact ⟨k + 1, _, hlt, by go_num, by rw [HK1.out, HK2.out, HT.out, HXY.out.1, HXY.out.2], rfl⟩
            case measure => simp [intOf]; omega
      · have HPP := Lib.hid (show P = P' by
          have := HT.out
          rwa [List.take_of_length_le (by rw [HN1.out]; omega), List.take_of_length_le (by rw [HM1.out]; omega)] at this)
        go_wp2_with fail
        go_ret
        exact ⟨by rw [decide_eq_true HPP.out]; rfl, _, rfl⟩
  · have HF := Lib.hid (show decide (P = P') = false from decide_eq_false (fun h => hne1 (by rw [← HN1.out, ← HM1.out, h])))
    go_enter Tryz.func53, Tryz.ntmps53
    go_wp2_with fail
    go_ret
    exact ⟨by rw [HF.out]; rfl, 0, rfl⟩
theorem tg_Same (v1 v2 u1 u2 : Value) (P P' : List (List UInt8)) (Q Q' : List (List UInt8 × List UInt8)) (w : World) (h1 : TS w v1 P) (h2 : PS w v2 Q) (h3 : TS w u1 P') (h4 : PS w u2 Q')
    (hl1 : P.length ≤ 100000) (hl2 : Q.length ≤ 100000) (hl3 : P'.length ≤ 100000) (hl4 : Q'.length ≤ 100000) :
    Calls Tryz.prog 18 #[.agg #[v1, v2], .agg #[u1, u2]] w fun e w' => e = .returned (.bool (decide (P = P' ∧ Q = Q'))) ∧ Below w.heap.size w w' := by
  obtain ⟨p1, c1, rfl⟩ := h1.slice
  obtain ⟨p2, c2, rfl⟩ := h2.slice
  obtain ⟨q1, d1, rfl⟩ := h3.slice
  obtain ⟨q2, d2, rfl⟩ := h4.slice
  obtain ⟨n1, hn1⟩ : ∃ n, P.length = n := ⟨_, rfl⟩
  obtain ⟨n2, hn2⟩ : ∃ n, Q.length = n := ⟨_, rfl⟩
  obtain ⟨m1, hm1⟩ : ∃ n, P'.length = n := ⟨_, rfl⟩
  obtain ⟨m2, hm2⟩ : ∃ n, Q'.length = n := ⟨_, rfl⟩
  obtain ⟨W1, hW1⟩ : ∃ Z, (w.alloc (.cells #[.slice p1 n1 c1, .slice p2 n2 c2] 26)).alloc (.cells #[.slice q1 m1 d1, .slice q2 m2 d2] 26) = Z := ⟨_, rfl⟩
  have hb1 : Below w.heap.size w W1 := by rw [← hW1]; exact ((Below.refl _ _).alloc (Nat.le_refl _) _).alloc (by simp) _
  have hA : W1.heap[w.heap.size]? = some (.cells #[.slice p1 n1 c1, .slice p2 n2 c2] 26 (0, 0)) := by
    rw [← hW1, Below.heap_alloc _ _ _ (by simp)]; exact World.alloc_heap_new _ _
  have hB : W1.heap[w.heap.size + 1]? = some (.cells #[.slice q1 m1 d1, .slice q2 m2 d2] 26 (0, 0)) := by
    rw [← hW1]
    have := World.alloc_heap_new (w.alloc (.cells #[.slice p1 n1 c1, .slice p2 n2 c2] 26)) (.cells #[.slice q1 m1 d1, .slice q2 m2 d2] 26)
    simpa using this
  have a0 : W1.cell? ⟨w.heap.size, 0, none⟩ = some (.slice p1 n1 c1) := by simp [World.cell?, hA]
  have a1 : W1.cell? ⟨w.heap.size, 1, none⟩ = some (.slice p2 n2 c2) := by simp [World.cell?, hA]
  have b0 : W1.cell? ⟨w.heap.size + 1, 0, none⟩ = some (.slice q1 m1 d1) := by simp [World.cell?, hB]
  have b1 : W1.cell? ⟨w.heap.size + 1, 1, none⟩ = some (.slice q2 m2 d2) := by simp [World.cell?, hB]
  have KT := Lib.hid (sl_eqT _ _ P P' W1 (h1.below hb1) (h3.below hb1) hl1 hl3)
  have KP := Lib.hid (fun n => sl_eqP _ _ Q Q' (W1.drewN n) ((h2.below hb1).below (below_drewN (Below.refl _ _) n)) ((h4.below hb1).below (below_drewN (Below.refl _ _) n)) hl2 hl4)
  rw [hn1, hm1] at KT
  rw [hn2, hm2] at KP
  rw [hn1, hn2, hm1, hm2]
  have HB := Lib.hid hb1
  have HW := Lib.hid hW1
  obtain ⟨d, hd⟩ : ∃ d, decide (P = P') = d := ⟨_, rfl⟩
  obtain ⟨f, hf⟩ : ∃ d, decide (Q = Q') = d := ⟨_, rfl⟩
  have HDF := Lib.hid (show decide (P = P' ∧ Q = Q') = (d && f) by rw [← hd, ← hf]; simp)
  rw [hd] at KT
  rw [hf] at KP
  clear h1 h2 h3 h4 hb1 hA hB hn1 hn2 hm1 hm2 hW1 hd hf
  cases d with
  | false =>
    go_enter Tryz.func18, Tryz.ntmps18
    go_wp2_with fail
    rw [HW.out]
    refine KT.out.mono ?_
    rintro e w2 ⟨rfl, n, rfl⟩
    go_wp2_with fail
    go_ret
    exact ⟨by rw [HDF.out]; rfl, below_drewN HB.out n⟩
  | true =>
    go_enter Tryz.func18, Tryz.ntmps18
    go_wp2_with fail
    rw [HW.out]
    refine KT.out.mono ?_
    rintro e w2 ⟨rfl, n, rfl⟩
    go_wp2_with fail
    refine (KP.out n).mono ?_
    rintro e w3 ⟨rfl, m, rfl⟩
    go_wp2_with fail
    go_ret
    exact ⟨by rw [HDF.out]; rfl, below_drewN HB.out _⟩
end Go.Proofs.YtcfhenekoaegaaaGreatDoor

/- A range over a function, by one law: the iterator may turn one block of its own between two rounds. No condition but those that each lemma states. -/
namespace Go.Proofs.YtcfhenekoaegaaaGreatDoor
set_option linter.unusedVariables false
set_option linter.unusedSimpArgs false
open Go.RowKit
/-- what turns beside the body: the blocks that the iterator owns; from B on, blocks that are no cells -/
structure Turn (B : Nat) (own : Nat → Prop) (W W' : World) : Prop where
  os : W'.os = W.os
  tape : W'.tape = W.tape
  output : W'.output = W.output
  size : W.heap.size ≤ W'.heap.size
  block : ∀ k, k < W.heap.size → ¬ own k → (B ≤ k → ∀ o, W.heap[k]? = some o → o.isCells = true) → W'.heap[k]? = W.heap[k]?
theorem Turn.refl (B : Nat) (own : Nat → Prop) (W : World) : Turn B own W W := ⟨rfl, rfl, rfl, Nat.le_refl _, fun _ _ _ _ => rfl⟩
theorem Turn.trans {B : Nat} {own : Nat → Prop} {X Y Z : World} (h : Turn B own X Y) (k : Turn B own Y Z) : Turn B own X Z :=
  ⟨k.os.trans h.os, k.tape.trans h.tape, k.output.trans h.output, Nat.le_trans h.size k.size, fun i hi hr hc => by
    have e := h.block i hi hr hc
    exact (k.block i (Nat.lt_of_lt_of_le hi h.size) hr (fun hb o ho => hc hb o (by rw [← e]; exact ho))).trans e⟩
theorem Turn.grown {B : Nat} {own : Nat → Prop} {row : Option Nat} {W W' : World} (h : W.grownBy W' row) (hr : ∀ b, row = some b → own b) : Turn B own W W' :=
  ⟨h.os, h.tape, h.output, h.size, fun k hk ho _ => h.block k hk (fun e => ho (hr k e.symm))⟩
theorem Turn.alloc {B : Nat} {own : Nat → Prop} (W : World) (o : Obj) : Turn B own W (W.alloc o) := .grown (World.grownBy_alloc W o none) (fun _ h => by cases h)
theorem Turn.drew {B : Nat} {own : Nat → Prop} (W : World) : Turn B own W W.drew := ⟨rfl, rfl, rfl, Nat.le_refl _, fun _ _ _ _ => rfl⟩
theorem Turn.setCell {B : Nat} {own : Nat → Prop} (W : World) (b i : Nat) (v : Value) (h : own b) : Turn B own W (W.setCell ⟨b, i, none⟩ v) :=
  ⟨rfl, rfl, rfl, (KeepsWalks.setCell W _ v).size, fun k _ ho _ => Below.heap_setCell _ _ _ k (fun e => ho (by rw [e]; exact h))⟩
theorem Turn.putObj {B l : Nat} {own : Nat → Prop} {W : World} {o : Obj} (o' : Obj) (hl : B ≤ l) (h : W.heap[l]? = some o) (hc : o.isCells = false) : Turn B own W (W.putObj l o') :=
  ⟨rfl, rfl, rfl, by simp, fun k hk hr hb => World.putObj_heap_other (fun e => by subst e; rw [hb hl o h] at hc; cases hc)⟩
theorem Turn.cells {B k : Nat} {own : Nat → Prop} {W W' : World} {o : Obj} (h : Turn B own W W') (hk : W.heap[k]? = some o) (hc : o.isCells = true) (hr : ¬ own k) : W'.heap[k]? = some o :=
  (h.block k (Array.getElem?_eq_some_iff.1 hk).1 hr (fun _ o' ho => by rw [hk] at ho; cases ho; exact hc)).trans hk
theorem Turn.boxed {B k : Nat} {own : Nat → Prop} {W W' : World} {t : TypeId} {v : Value} (h : Turn B own W W') (hk : Boxed W k t v) (hr : ¬ own k) : Boxed W' k t v := h.cells hk rfl hr
theorem Turn.low {B k : Nat} {own : Nat → Prop} {W W' : World} {o : Obj} (h : Turn B own W W') (hk : W.heap[k]? = some o) (hb : k < B) (hr : ¬ own k) : W'.heap[k]? = some o :=
  (h.block k (Array.getElem?_eq_some_iff.1 hk).1 hr (fun _ => by omega)).trans hk
theorem Turn.below {B N : Nat} {own : Nat → Prop} {W W' : World} (h : Turn B own W W') (hN : N ≤ B) (hs : N ≤ W.heap.size) (hr : ∀ b, own b → N ≤ b) : Below N W W' :=
  ⟨h.os, h.tape, h.output, h.size, fun k hk => h.block k (by omega) (fun e => by have := hr k e; omega) (fun hb => by omega)⟩
theorem Turn.mono {B B' : Nat} {own own' : Nat → Prop} {W W' : World} (h : Turn B own W W') (hb : B' ≤ B) (ho : ∀ k, own k → own' k) : Turn B' own' W W' :=
  ⟨h.os, h.tape, h.output, h.size, fun k hk hr hc => h.block k hk (fun e => hr (ho k e)) (fun hB => hc (by omega))⟩
/-- what an iterator at W does: N calls of yield at most, one behind the other -/
def IterAt (F : Fence) (n : Nat) (P : Program) (gf : Nat) (lb : Array Value) (encs : Nat → Array Value) (N : Nat) (own : Nat → Prop) (Kp : World → World → Prop) (W : World) : Prop :=
  ∀ (l : Nat) (J : Nat → World → Prop) (Jx : World → Prop),
    (∀ k X Y, J k X → Turn W.heap.size own X Y → J k Y) → (∀ X Y, Jx X → Turn W.heap.size own X Y → Jx Y) →
    (∀ k X, k < N → J k X → YieldAt F (n - 1) P l (encs k) X fun e Y => (e = .returned (.bool true) ∧ J (k + 1) Y ∧ Kp X Y ∧ KeepsFrom W.heap.size X Y) ∨ (e = .returned (.bool false) ∧ Jx Y ∧ KeepsFrom W.heap.size X Y)) →
    J 0 W → CallsIn F n P gf (#[.func (.yield l) #[] #[]] ++ lb) W fun e Y => (∃ v, e = .returned v) ∧ (J N Y ∨ Jx Y)
theorem IterAt.inRound {F : Fence} {n : Nat} {P : Program} {gf : Nat} {lb : Array Value} {encs : Nat → Array Value} {N : Nat} {own : Nat → Prop} {Kp : World → World → Prop} {W : World} (l : Nat) (h : IterAt F n P gf lb encs N own Kp W) : IterAt (F.inRound l) n P gf lb encs N own Kp W := h
/-- the blocks of the iterator's own lie as they lay -/
def Keep (own : Nat → Prop) (X Y : World) : Prop := ∀ b, own b → Y.heap[b]? = X.heap[b]?
theorem Keep.trans {own : Nat → Prop} {X Y Z : World} (h : Keep own X Y) (k : Keep own Y Z) : Keep own X Z := fun b hb => (k b hb).trans (h b hb)
theorem Keep.putObj {own : Nat → Prop} (W : World) (l : Nat) (o : Obj) (h : ¬ own l) : Keep own W (W.putObj l o) := fun b hb => World.putObj_heap_other (fun e => h (e ▸ hb))
theorem Keep.below {own : Nat → Prop} {N : Nat} {X Y : World} (h : Below N X Y) (ho : ∀ b, own b → b < N) : Keep own X Y := fun b hb => h.block b (ho b hb)
/-- how a round's body may be left -/
def rfPost (B : Nat) (Kp : World → World → Prop) (I : World → Prop) (Ix : Code → World → Prop) (W : World) : Exit → Act → World → Prop
  | .normal, _, W' => KeepsFrom B W W' ∧ Kp W W' ∧ I W'
  | .ret, _, W' => KeepsFrom B W W' ∧ Ix .ret W'
  | .exit id, _, W' => KeepsFrom B W W' ∧ Ix (.exit id) W'
  | .goto t, _, W' => KeepsFrom B W W' ∧ Ix (.goto t) W'
  | .panic _, _, _ => False
  | .outgrown, _, _ => False
variable {F : Fence} {n : Nat} {P : Program}
/-- the loop's one call, its record laid -/
theorem rf_core {fn : FuncId} {tmps : Array Value} {dfr : Nat} {ps : Array Tmp} {assign body : Code} {Q : Exit → Act → World → Prop} {a' : Act} {B l : Nat} {W1 : World} {rec : LoopState → Option Code → Loop}
    (hrec : rec = fun st pe => { state := st, pending := pe, fn, tmps, params := ps, assign, body, defers := dfr }) (hfn : F.fn fn)
    {gf : Nat} {lb : Array Value} {encs : Nat → Array Value} {N : Nat} {own : Nat → Prop} {Kp : World → World → Prop} (hps : ∀ k, (encs k).size = ps.size)
    (hBl : B ≤ l) (hrow : ¬ own l) (hL1 : W1.heap[l]? = some (.loop (rec .ready none)))
    (hit : IterAt F (n - 1) P gf lb encs N own Kp W1)
    (hKt : ∀ {A B C : World}, Kp A B → Kp B C → Kp A C) (hKb : ∀ (W : World) (o o' : Obj), W.heap[l]? = some o → o.isCells = false → Kp W (W.putObj l o'))
    (I : Nat → World → Prop) (Ix : Code → World → Prop) (hIg : ∀ k X Y, I k X → Turn W1.heap.size own X Y → I k Y) (hIp : ∀ k X r o, I k X → X.heap[l]? = some (.loop r) → I k (X.putObj l o))
    (hXg : ∀ c X Y, Ix c X → Turn W1.heap.size own X Y → Ix c Y) (hXp : ∀ c X r o, Ix c X → X.heap[l]? = some (.loop r) → Ix c (X.putObj l o)) (h0 : I 0 W1)
    (Ax : Nat → Act → World → Prop) (hAp : ∀ k b X r o, Ax k b X → X.heap[l]? = some (.loop r) → Ax k b (X.putObj l o))
    (hassign : ∀ (k : Nat) (W : World) (K : Act → World → Prop), k < N → I k W → (∀ b W', KeepsFrom B W W' → Kp W W' → I k W' → Ax k b W' → K b W') →
      assign.wpIn (F.inRound l) (n - 1 - 1) P (Exit.then K (fun _ _ _ => False)) { tmps := (ps.zip (encs k)).foldl (fun t (p, v) => t.setIfInBounds p v) tmps, defers := [] } W)
    (hbody : ∀ (k : Nat) (b : Act) (W : World), (∃ r, W.heap[l]? = some (.loop r)) → k < N → I k W → Ax k b W → body.wpIn (F.inRound l) (n - 1 - 1) P (rfPost B Kp (I (k + 1)) Ix W) b W)
    (hdone : ∀ (W : World), I N W → Q .normal a' W) (hstop : ∀ (c : Code) (W : World), Ix c W → c.wpIn F n P Q a' W) :
    CallsIn F (n - 1) P gf (#[.func (.yield l) #[] #[]] ++ lb) W1 (rangePost F n P l Q a') := by
  refine (hit l (fun k W => I k W ∧ W.heap[l]? = some (.loop (rec .ready none))) (fun W => ∃ c, Ix c W ∧ W.heap[l]? = some (.loop (rec .done (some c))))
    (fun k X Y hs hg => ⟨hIg k X Y hs.1 hg, hg.low hs.2 (Array.getElem?_eq_some_iff.1 hL1).1 hrow⟩)
    (fun X Y hs hg => by obtain ⟨c, hc, hl⟩ := hs; exact ⟨c, hXg c X Y hc hg, hg.low hl (Array.getElem?_eq_some_iff.1 hL1).1 hrow⟩) ?_ ⟨h0, hL1⟩).mono ?_
  · rintro k W hkN ⟨hi, hl⟩
    have hy := run_yield (P := P) (args := encs k) hl (by rw [hrec]; exact hps k)
    rw [hrec] at hy
    refine ⟨fn, _, assign, body, hy, roundIn_of_wpIn hfn (hassign k W _ hkN hi ?_)⟩
    clear hy
    intro b Wa hkfa hkpa hia hax
    have hla := hkfa.same _ _ hBl hl rfl
    have hlt : l < Wa.heap.size := (Array.getElem?_eq_some_iff.1 hla).1
    refine ⟨_, run_beginRound hla (by rw [hrec]), ?_⟩
    have hl2 : (Wa.putObj l (.loop { rec .ready none with state := .busy })).heap[l]? = some (.loop { rec .ready none with state := .busy }) := World.putObj_heap_same hlt
    have hw2 : Kp Wa (Wa.putObj l (.loop { rec .ready none with state := .busy })) := hKb _ _ _ hla rfl
    refine wpIn_mono (hbody k b _ ⟨_, hl2⟩ hkN (hIp k _ _ _ hia hla) (hAp k b _ _ _ hax hla)) ?_
    have fin : ∀ (jump : Option Code) (W3 : World), KeepsFrom B (Wa.putObj l (.loop { rec .ready none with state := .busy })) W3 →
        (Instr.endRound l jump).run P W3 = .ok (.bool jump.isNone) (W3.putObj l (.loop (rec (if jump.isNone then .ready else .done) jump))) ∧
        W3.heap[l]? = some (.loop { rec .ready none with state := .busy }) ∧
        (W3.putObj l (.loop (rec (if jump.isNone then .ready else .done) jump))).heap[l]? = some (.loop (rec (if jump.isNone then .ready else .done) jump)) := fun jump W3 hk3 => by
      have hl3 := hk3.same _ _ hBl hl2 rfl
      have := run_endRound (P := P) jump hl3
      rw [hrec] at this ⊢
      exact ⟨this, by rw [hrec] at hl3; exact hl3, World.putObj_heap_same (Array.getElem?_eq_some_iff.1 hl3).1⟩
    have hsl : l < W1.heap.size := (Array.getElem?_eq_some_iff.1 hL1).1
    have kp : ∀ (X : World) (o : Obj), KeepsFrom W1.heap.size X (X.putObj l o) := fun X o => ⟨by simp, fun k o' hk h1 _ => (World.putObj_heap_other (by omega)).trans h1⟩
    have hBW : B ≤ W1.heap.size := by omega
    have up : ∀ {X Y : World}, KeepsFrom B X Y → KeepsFrom W1.heap.size X Y := fun h => ⟨h.size, fun k o hk h1 h2 => h.same k o (by omega) h1 h2⟩
    have kall : ∀ {W3 : World} (o : Obj), KeepsFrom B (Wa.putObj l (.loop { rec .ready none with state := .busy })) W3 → KeepsFrom W1.heap.size W (W3.putObj l o) := fun o h => (up hkfa).trans ((kp _ _).trans ((up h).trans (kp _ _)))
    rintro e a3 W3 hp
    cases e with
    | normal =>
      obtain ⟨hk3, hkp3, hi3⟩ := hp
      obtain ⟨hr, hl3, hl4⟩ := fin none W3 hk3
      exact ⟨_, _, hr, .inl ⟨rfl, ⟨hIp _ _ _ _ hi3 hl3, hl4⟩, hKt hkpa (hKt (hKt hw2 hkp3) (hKb _ _ _ hl3 rfl)), kall _ hk3⟩⟩
    | ret =>
      obtain ⟨hk3, hi3⟩ := hp
      obtain ⟨hr, hl3, hl4⟩ := fin (some .ret) W3 hk3
      exact ⟨_, _, hr, .inr ⟨rfl, ⟨.ret, hXp _ _ _ _ hi3 hl3, hl4⟩, kall _ hk3⟩⟩
    | exit id =>
      obtain ⟨hk3, hi3⟩ := hp
      obtain ⟨hr, hl3, hl4⟩ := fin (some (.exit id)) W3 hk3
      exact ⟨_, _, hr, .inr ⟨rfl, ⟨.exit id, hXp _ _ _ _ hi3 hl3, hl4⟩, kall _ hk3⟩⟩
    | goto t =>
      obtain ⟨hk3, hi3⟩ := hp
      obtain ⟨hr, hl3, hl4⟩ := fin (some (.goto t)) W3 hk3
      exact ⟨_, _, hr, .inr ⟨rfl, ⟨.goto t, hXp _ _ _ _ hi3 hl3, hl4⟩, kall _ hk3⟩⟩
    | panic ch => exact hp.elim
    | outgrown => exact hp.elim
  · rintro e W2 ⟨⟨v, rfl⟩, (⟨hi, hl⟩ | ⟨c, hi, hl⟩)⟩
    · exact ⟨none, _, by have := run_endLoop (P := P) hl (by rw [hrec]; simp); rw [hrec] at this; exact this, hdone _ (hIp _ _ _ _ hi hl)⟩
    · exact ⟨some c, _, by have := run_endLoop (P := P) hl (by rw [hrec]; simp); rw [hrec] at this; exact this, hstop c _ (hXp _ _ _ _ hi hl)⟩
/-- the statement, where no loop over an iterator is round it -/
theorem rf_outer {g : Operand} {ps : Array Tmp} {assign body : Code} {Q : Exit → Act → World → Prop} {a : Act} {w : World}
    (hro : F.round = none) (h1 : 1 ≤ n) {gf : Nat} {lb : Array Value} (hg : a.eval g = .func (.func gf) #[] lb) (hFg : F.fn gf) (eg : ∀ args w, (callFunc gf args).run P w = .ok (.enter gf args) w)
    {encs : Nat → Array Value} {N : Nat} {own : Nat → Prop} {Kp : World → World → Prop} (hps : ∀ k, (encs k).size = ps.size) (hrow : ∀ b, own b → b ≠ w.heap.size ∧ b ≠ w.heap.size + 1)
    (hit : ∀ W, Below w.heap.size w W → W.heap.size = w.heap.size + 2 → IterAt F (n - 1) P gf lb encs N own Kp W)
    (hKt : ∀ {A B C : World}, Kp A B → Kp B C → Kp A C) (hKb : ∀ (W : World) (o o' : Obj), W.heap[w.heap.size + 1]? = some o → o.isCells = false → Kp W (W.putObj (w.heap.size + 1) o'))
    (I : Nat → World → Prop) (Ix : Code → World → Prop) (hI : ∀ k X Y, I k X → Turn w.heap.size own X Y → I k Y) (hIx : ∀ c X Y, Ix c X → Turn w.heap.size own X Y → Ix c Y) (h0 : I 0 w)
    (Ax : Nat → Act → World → Prop) (hAx : ∀ k b X Y, Ax k b X → Turn w.heap.size own X Y → Ax k b Y)
    (hassign : ∀ (l k : Nat) (W : World) (K : Act → World → Prop), k < N → I k W → (∀ b W', KeepsFrom w.heap.size W W' → Kp W W' → I k W' → Ax k b W' → K b W') →
      assign.wpIn (F.inRound l) (n - 1 - 1) P (Exit.then K (fun _ _ _ => False)) { tmps := (ps.zip (encs k)).foldl (fun t (p, v) => t.setIfInBounds p v) a.tmps, defers := [] } W)
    (hbody : ∀ (l k : Nat) (b : Act) (W : World), w.heap.size ≤ l → (∃ r, W.heap[l]? = some (.loop r)) → k < N → I k W → Ax k b W → body.wpIn (F.inRound l) (n - 1 - 1) P (rfPost w.heap.size Kp (I (k + 1)) Ix W) b W)
    (hdone : ∀ (D : Nat) (W : World), w.heap.size ≤ D → I N W → W.heap[D]? = some (.deferred (some [])) → Q .normal { a with defers := { target := .collected D, args := #[] } :: a.defers } W)
    (hstop : ∀ (D : Nat) (c : Code) (W : World), w.heap.size ≤ D → Ix c W → W.heap[D]? = some (.deferred (some [])) → c.wpIn F n P Q { a with defers := { target := .collected D, args := #[] } :: a.defers } W) :
    (Code.rangeFunc g ps assign body).wpIn F n P Q a w := by
  refine wpIn_rangeFunc ?_
  intro fn hfn
  rw [hro]
  obtain ⟨rec, hrec⟩ : ∃ rec : LoopState → Option Code → Loop, rec = fun st pe => { state := st, pending := pe, fn, tmps := a.tmps, params := ps, assign, body, defers := w.heap.size } := ⟨_, rfl⟩
  obtain ⟨W1, hW1⟩ : ∃ W1, (w.alloc (.deferred (some []))).alloc (.loop (rec .ready none)) = W1 := ⟨_, rfl⟩
  have hL1 : W1.heap[w.heap.size + 1]? = some (.loop (rec .ready none)) := by
    rw [← hW1]; have := World.alloc_heap_new (w.alloc (.deferred (some []))) (.loop (rec .ready none)); rwa [World.size_alloc] at this
  have hK1 : W1.heap[w.heap.size]? = some (.deferred (some [])) := by
    rw [← hW1]; exact (Below.heap_alloc _ _ _ (by simp)).trans (World.alloc_heap_new w _)
  have hI1 : I 0 W1 := by rw [← hW1]; exact hI _ _ _ (hI _ _ _ h0 (.alloc _ _)) (.alloc _ _)
  have hb1 : Below w.heap.size w W1 := by
    rw [← hW1]; exact ((Below.refl _ w).alloc (Nat.le_refl _) _).alloc (by simp) _
  have hs1 : W1.heap.size = w.heap.size + 2 := by rw [← hW1]; simp
  have hr0 : ¬ own w.heap.size := fun e => (hrow _ e).1 rfl
  have hr1 : ¬ own (w.heap.size + 1) := fun e => (hrow _ e).2 rfl
  refine ⟨w.heap.size + 1, [{ target := .collected w.heap.size, args := #[] }], W1, { target := .fn (.func gf) lb, args := #[.func (.yield (w.heap.size + 1)) #[] #[]] }, W1, gf,
    #[.func (.yield (w.heap.size + 1)) #[] #[]] ++ lb, W1, ?_, ?_, ?_, ?_, fun _ => h1, ?_⟩
  · rw [← hW1, hrec]; exact run_enterLoop_outer _ _ _ _ _
  · simp only [resolve, hg]
    simp [go_sem]
  · intro f' hf'; simp [Target.leads] at hf'; subst hf'; exact hFg
  · simp [invoke, go_sem, eg]
  · have hne : w.heap.size ≠ w.heap.size + 1 := by omega
    refine rf_core hrec hfn (B := w.heap.size) hps (by omega) hr1 hL1 (hit W1 hb1 hs1) hKt hKb
      (fun k W => I k W ∧ W.heap[w.heap.size]? = some (.deferred (some []))) (fun c W => Ix c W ∧ W.heap[w.heap.size]? = some (.deferred (some [])))
      (fun k X Y hs hg => ⟨hI _ _ _ hs.1 (hg.mono (by omega) fun _ h => h), hg.low hs.2 (by omega) hr0⟩)
      (fun k X r o hs hl => ⟨hI _ _ _ hs.1 (.putObj _ (by omega) hl rfl), (World.putObj_heap_other hne).trans hs.2⟩)
      (fun c X Y hs hg => ⟨hIx _ _ _ hs.1 (hg.mono (by omega) fun _ h => h), hg.low hs.2 (by omega) hr0⟩)
      (fun c X r o hs hl => ⟨hIx _ _ _ hs.1 (.putObj _ (by omega) hl rfl), (World.putObj_heap_other hne).trans hs.2⟩)
      ⟨hI1, hK1⟩ Ax (fun k b X r o hs hl => hAx _ _ _ _ hs (.putObj _ (by omega) hl rfl)) ?_ ?_ ?_ ?_
    · intro k W K hk hi hK
      exact hassign _ k W K hk hi.1 (fun b W' h1 h2 h3 h4 => hK b W' h1 h2 ⟨h3, h1.same _ _ (Nat.le_refl _) hi.2 rfl⟩ h4)
    · intro k b W hr hk hi ha
      refine wpIn_mono (hbody _ k b W (by omega) hr hk hi.1 ha) ?_
      intro e a3 W3 hp
      cases e with
      | normal => exact ⟨hp.1, hp.2.1, hp.2.2, hp.1.same _ _ (Nat.le_refl _) hi.2 rfl⟩
      | ret => exact ⟨hp.1, hp.2, hp.1.same _ _ (Nat.le_refl _) hi.2 rfl⟩
      | exit id => exact ⟨hp.1, hp.2, hp.1.same _ _ (Nat.le_refl _) hi.2 rfl⟩
      | goto t => exact ⟨hp.1, hp.2, hp.1.same _ _ (Nat.le_refl _) hi.2 rfl⟩
      | panic ch => exact hp
      | outgrown => exact hp
    · exact fun W hi => hdone _ W (Nat.le_refl _) hi.1 hi.2
    · exact fun c W hi => hstop _ c W (Nat.le_refl _) hi.1 hi.2
/-- the statement within a round of another such loop -/
theorem rf_inner {g : Operand} {ps : Array Tmp} {assign body : Code} {Q : Exit → Act → World → Prop} {a : Act} {w : World} {l₀ : Nat} {r₀ : Loop}
    (hro : F.round = some l₀) (hr₀ : w.heap[l₀]? = some (.loop r₀)) (h1 : 1 ≤ n) {gf : Nat} {lb : Array Value} (hg : a.eval g = .func (.func gf) #[] lb) (hFg : F.fn gf) (eg : ∀ args w, (callFunc gf args).run P w = .ok (.enter gf args) w)
    {encs : Nat → Array Value} {N : Nat} {own : Nat → Prop} {Kp : World → World → Prop} (hps : ∀ k, (encs k).size = ps.size) (hrow : ∀ b, own b → b ≠ w.heap.size)
    (hit : ∀ W, Below w.heap.size w W → W.heap.size = w.heap.size + 1 → IterAt F (n - 1) P gf lb encs N own Kp W)
    (hKt : ∀ {A B C : World}, Kp A B → Kp B C → Kp A C) (hKb : ∀ (W : World) (o o' : Obj), W.heap[w.heap.size]? = some o → o.isCells = false → Kp W (W.putObj w.heap.size o'))
    (I : Nat → World → Prop) (Ix : Code → World → Prop) (hI : ∀ k X Y, I k X → Turn w.heap.size own X Y → I k Y) (hIx : ∀ c X Y, Ix c X → Turn w.heap.size own X Y → Ix c Y) (h0 : I 0 w)
    (Ax : Nat → Act → World → Prop) (hAx : ∀ k b X Y, Ax k b X → Turn w.heap.size own X Y → Ax k b Y)
    (hassign : ∀ (l k : Nat) (W : World) (K : Act → World → Prop), k < N → I k W → (∀ b W', KeepsFrom w.heap.size W W' → Kp W W' → I k W' → Ax k b W' → K b W') →
      assign.wpIn (F.inRound l) (n - 1 - 1) P (Exit.then K (fun _ _ _ => False)) { tmps := (ps.zip (encs k)).foldl (fun t (p, v) => t.setIfInBounds p v) a.tmps, defers := [] } W)
    (hbody : ∀ (l k : Nat) (b : Act) (W : World), w.heap.size ≤ l → (∃ r, W.heap[l]? = some (.loop r)) → k < N → I k W → Ax k b W → body.wpIn (F.inRound l) (n - 1 - 1) P (rfPost w.heap.size Kp (I (k + 1)) Ix W) b W)
    (hdone : ∀ (W : World), I N W → Q .normal a W)
    (hstop : ∀ (c : Code) (W : World), Ix c W → c.wpIn F n P Q a W) :
    (Code.rangeFunc g ps assign body).wpIn F n P Q a w := by
  refine wpIn_rangeFunc ?_
  intro fn hfn
  rw [hro]
  obtain ⟨rec, hrec⟩ : ∃ rec : LoopState → Option Code → Loop, rec = fun st pe => { state := st, pending := pe, fn, tmps := a.tmps, params := ps, assign, body, defers := r₀.defers } := ⟨_, rfl⟩
  obtain ⟨W1, hW1⟩ : ∃ W1, w.alloc (.loop (rec .ready none)) = W1 := ⟨_, rfl⟩
  have hL1 : W1.heap[w.heap.size]? = some (.loop (rec .ready none)) := by
    rw [← hW1]; exact World.alloc_heap_new _ _
  have hI1 : I 0 W1 := by rw [← hW1]; exact hI _ _ _ h0 (.alloc _ _)
  have hb1 : Below w.heap.size w W1 := by
    rw [← hW1]; exact (Below.refl _ w).alloc (Nat.le_refl _) _
  have hs1 : W1.heap.size = w.heap.size + 1 := by rw [← hW1]; simp
  have hr1 : ¬ own w.heap.size := fun e => hrow _ e rfl
  refine ⟨w.heap.size, [], W1, { target := .fn (.func gf) lb, args := #[.func (.yield w.heap.size) #[] #[]] }, W1, gf,
    #[.func (.yield w.heap.size) #[] #[]] ++ lb, W1, ?_, ?_, ?_, ?_, fun _ => h1, ?_⟩
  · rw [← hW1, hrec]; exact run_enterLoop_inner hr₀ _ _ _ _ _
  · simp only [resolve, hg]
    simp [go_sem]
  · intro f' hf'; simp [Target.leads] at hf'; subst hf'; exact hFg
  · simp [invoke, go_sem, eg]
  · exact rf_core hrec hfn (B := w.heap.size) hps (Nat.le_refl _) hr1 hL1 (hit W1 hb1 hs1) hKt hKb I Ix
      (fun k X Y hs hg => hI _ _ _ hs (hg.mono (by omega) fun _ h => h)) (fun k X r o hs hl => hI _ _ _ hs (.putObj _ (Nat.le_refl _) hl rfl))
      (fun c X Y hs hg => hIx _ _ _ hs (hg.mono (by omega) fun _ h => h)) (fun c X r o hs hl => hIx _ _ _ hs (.putObj _ (Nat.le_refl _) hl rfl))
      hI1 Ax (fun k b X r o hs hl => hAx _ _ _ _ hs (.putObj _ (Nat.le_refl _) hl rfl)) (fun k W K hk hi hK => hassign _ k W K hk hi hK) (fun k b W hr hk hi ha => hbody _ k b W (Nat.le_refl _) hr hk hi ha) (fun W hi => hdone W hi) (fun c W hi => hstop c W hi)
/-- the statement, its body left by a break alone -/
theorem rf_break {g : Operand} {ps : Array Tmp} {assign body : Code} {Q : Exit → Act → World → Prop} {id : Nat} {a : Act} {w : World}
    (hro : F.round = none) (h1 : 1 ≤ n) {gf : Nat} {lb : Array Value} (hg : a.eval g = .func (.func gf) #[] lb) (hFg : F.fn gf) (eg : ∀ args w, (callFunc gf args).run P w = .ok (.enter gf args) w)
    {encs : Nat → Array Value} {N : Nat} {own : Nat → Prop} {Kp : World → World → Prop} (hps : ∀ k, (encs k).size = ps.size) (hrow : ∀ b, own b → b ≠ w.heap.size ∧ b ≠ w.heap.size + 1)
    (hit : ∀ W, Below w.heap.size w W → W.heap.size = w.heap.size + 2 → IterAt F (n - 1) P gf lb encs N own Kp W)
    (hKt : ∀ {A B C : World}, Kp A B → Kp B C → Kp A C) (hKb : ∀ (W : World) (o o' : Obj), W.heap[w.heap.size + 1]? = some o → o.isCells = false → Kp W (W.putObj (w.heap.size + 1) o'))
    (I : Nat → World → Prop) (IE : World → Prop) (hI : ∀ k X Y, I k X → Turn w.heap.size own X Y → I k Y) (hIE : ∀ X Y, IE X → Turn w.heap.size own X Y → IE Y) (h0 : I 0 w)
    (Ax : Nat → Act → World → Prop) (hAx : ∀ k b X Y, Ax k b X → Turn w.heap.size own X Y → Ax k b Y)
    (hassign : ∀ (l k : Nat) (W : World) (K : Act → World → Prop), k < N → I k W → (∀ b W', KeepsFrom w.heap.size W W' → Kp W W' → I k W' → Ax k b W' → K b W') →
      assign.wpIn (F.inRound l) (n - 1 - 1) P (Exit.then K (fun _ _ _ => False)) { tmps := (ps.zip (encs k)).foldl (fun t (p, v) => t.setIfInBounds p v) a.tmps, defers := [] } W)
    (hbody : ∀ (l k : Nat) (b : Act) (W : World), w.heap.size ≤ l → (∃ r, W.heap[l]? = some (.loop r)) → k < N → I k W → Ax k b W → body.wpIn (F.inRound l) (n - 1 - 1) P (rfPost w.heap.size Kp (I (k + 1)) (fun c X => c = .exit id ∧ IE X) W) b W)
    (hall : ∀ W, I N W → IE W) (hend : ∀ (D : Nat) (W : World), w.heap.size ≤ D → IE W → W.heap[D]? = some (.deferred (some [])) → Q .normal { a with defers := { target := .collected D, args := #[] } :: a.defers } W) :
    (Code.rangeFunc g ps assign body).wpIn F n P (Exit.inBlock id Q) a w :=
  rf_outer hro h1 hg hFg eg hps hrow hit hKt hKb I (fun c X => c = .exit id ∧ IE X) hI (fun c X Y hs ht => ⟨hs.1, hIE X Y hs.2 ht⟩) h0 Ax hAx hassign hbody
    (fun D W h1 hi h2 => hend D W h1 (hall W hi) h2) (fun D c W h1 hi h2 => by obtain ⟨rfl, hi⟩ := hi; exact wpIn_exit (by simp only [Exit.inBlock, ↓reduceIte]; exact hend D W h1 hi h2))
/-- likewise, within a round of another such loop -/
theorem rf_break_inner {g : Operand} {ps : Array Tmp} {assign body : Code} {Q : Exit → Act → World → Prop} {id : Nat} {a : Act} {w : World} {l₀ : Nat} {r₀ : Loop}
    (hro : F.round = some l₀) (hr₀ : w.heap[l₀]? = some (.loop r₀)) (h1 : 1 ≤ n) {gf : Nat} {lb : Array Value} (hg : a.eval g = .func (.func gf) #[] lb) (hFg : F.fn gf) (eg : ∀ args w, (callFunc gf args).run P w = .ok (.enter gf args) w)
    {encs : Nat → Array Value} {N : Nat} {own : Nat → Prop} {Kp : World → World → Prop} (hps : ∀ k, (encs k).size = ps.size) (hrow : ∀ b, own b → b ≠ w.heap.size)
    (hit : ∀ W, Below w.heap.size w W → W.heap.size = w.heap.size + 1 → IterAt F (n - 1) P gf lb encs N own Kp W)
    (hKt : ∀ {A B C : World}, Kp A B → Kp B C → Kp A C) (hKb : ∀ (W : World) (o o' : Obj), W.heap[w.heap.size]? = some o → o.isCells = false → Kp W (W.putObj w.heap.size o'))
    (I : Nat → World → Prop) (IE : World → Prop) (hI : ∀ k X Y, I k X → Turn w.heap.size own X Y → I k Y) (hIE : ∀ X Y, IE X → Turn w.heap.size own X Y → IE Y) (h0 : I 0 w)
    (Ax : Nat → Act → World → Prop) (hAx : ∀ k b X Y, Ax k b X → Turn w.heap.size own X Y → Ax k b Y)
    (hassign : ∀ (l k : Nat) (W : World) (K : Act → World → Prop), k < N → I k W → (∀ b W', KeepsFrom w.heap.size W W' → Kp W W' → I k W' → Ax k b W' → K b W') →
      assign.wpIn (F.inRound l) (n - 1 - 1) P (Exit.then K (fun _ _ _ => False)) { tmps := (ps.zip (encs k)).foldl (fun t (p, v) => t.setIfInBounds p v) a.tmps, defers := [] } W)
    (hbody : ∀ (l k : Nat) (b : Act) (W : World), w.heap.size ≤ l → (∃ r, W.heap[l]? = some (.loop r)) → k < N → I k W → Ax k b W → body.wpIn (F.inRound l) (n - 1 - 1) P (rfPost w.heap.size Kp (I (k + 1)) (fun c X => c = .exit id ∧ IE X) W) b W)
    (hall : ∀ W, I N W → IE W) (hend : ∀ (W : World), IE W → Q .normal a W) :
    (Code.rangeFunc g ps assign body).wpIn F n P (Exit.inBlock id Q) a w :=
  rf_inner hro hr₀ h1 hg hFg eg hps hrow hit hKt hKb I (fun c X => c = .exit id ∧ IE X) hI (fun c X Y hs ht => ⟨hs.1, hIE X Y hs.2 ht⟩) h0 Ax hAx hassign hbody
    (fun W hi => hend W (hall W hi)) (fun c W hi => by obtain ⟨rfl, hi⟩ := hi; exact wpIn_exit (by simp only [Exit.inBlock, ↓reduceIte]; exact hend W hi))
/-! where no depth is asked, the figures are all one -/
theorem roundIn_any {m : Nat} (m' : Nat) {l : Nat} {f : FuncId} {tmps : Array Value} {assign body : Code} {w : World} {R : Ending → World → Prop}
    (h : RoundIn Fence.wide m P l f tmps assign body w R) : RoundIn Fence.wide m' P l f tmps assign body w R := ⟨h.1, fun c cs _ => h.2 c cs (fun d h => by cases h)⟩
theorem yieldAt_any {m : Nat} (m' : Nat) {l : Nat} {args : Array Value} {W : World} {R : Ending → World → Prop} (h : YieldAt Fence.wide m P l args W R) : YieldAt Fence.wide m' P l args W R := by
  obtain ⟨fn, tmps, assign, body, hy, hR⟩ := h
  exact ⟨fn, tmps, assign, body, hy, roundIn_any m' hR⟩
theorem IterAt.any {m : Nat} (m' : Nat) {gf : Nat} {lb : Array Value} {encs : Nat → Array Value} {N : Nat} {own : Nat → Prop} {Kp : World → World → Prop} {W : World} (h : IterAt Fence.wide m P gf lb encs N own Kp W) : IterAt Fence.wide m' P gf lb encs N own Kp W :=
  fun l J Jx hJ hJx hY h0 => callsIn_wide.2 (callsIn_wide.1 (h l J Jx hJ hJx (fun k X hk hj => yieldAt_any _ (hY k X hk hj)) h0))
theorem wpW_scope {c : Code} {Q : Exit → Act → World → Prop} {a : Act} {w : World} {m : Nat} (h : c.wpIn Fence.wide m P (Exit.noGoto Q) a w) : (Code.scope c).wpIn Fence.wide m P Q a w := wpIn_wide.2 (wp_scope_straight (wpIn_wide.1 h))
end Go.Proofs.YtcfhenekoaegaaaGreatDoor
