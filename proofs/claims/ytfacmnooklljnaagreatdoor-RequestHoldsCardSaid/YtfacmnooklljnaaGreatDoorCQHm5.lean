/- Texts of this claim, one behind the other: GN, GO, GP, GQ, GR, GS, Rs, GT, Rt, GU, G9, Ia, GV, GW, GX, GY, GZ, LGH, Ib, Zg, Qe, Rz, Zs, Zj, Zh, Zr, Rp. -/
import Derived.Test.YtfacmnooklljnaaGreatDoorCQHm4
import Derived.Deep.QuietTactic
import Derived.BigQuiet
import Derived.Test.YtfacmnooklljnaaGreatDoorCQHm2
import Derived.OwnWalkIn
import Derived.TacticsInMore
import Derived.LoopNIn
import Derived.LoopIn
import Derived.RecoverIn
import Derived.RangeFuncLeaves
import Derived.Test.YtfacmnooklljnaaGreatDoorCQHm1
import Derived.SizedLaws
import Derived.SliceStrings
import Derived.Lib.SmallJoins
import Derived.WideShapes
import Derived.Lib.Join
import Derived.Test.YtfacmnooklljnaaGreatDoorCQHm3
/- The reference's Parse. -/
namespace Go.Proofs.YtfacmnooklljnaaGreatDoor
set_option linter.unusedVariables false
set_option linter.unusedSimpArgs false
open Go.RowKit Go.Shelf
set_option maxHeartbeats 8000000
set_option maxRecDepth 100000
namespace Gt
/-- the pairs as far as they are read -/
def QAt (M : List (List UInt8)) (acc : List (List UInt8 × List UInt8)) (k : Nat) : Prop :=
  k ≤ M.length ∧ acc.length ≤ k ∧ all? pairOf (M.filter fun l => !l.isEmpty) = (all? pairOf ((M.drop k).filter fun l => !l.isEmpty)).map (acc ++ ·)
theorem qAt_start (M : List (List UInt8)) : QAt M [] 0 := ⟨Nat.zero_le _, Nat.le_refl _, by cases h : all? pairOf (M.filter fun l => !l.isEmpty) <;> simp [h]⟩
theorem qAt_skip {M : List (List UInt8)} {acc : List (List UInt8 × List UInt8)} {k : Nat} (h : QAt M acc k) (hk : k < M.length) (he : M[k].isEmpty = true) : QAt M acc (k + 1) := by
  refine ⟨hk, Nat.le_succ_of_le h.2.1, ?_⟩
  rw [h.2.2, List.drop_eq_getElem_cons hk, List.filter_cons, he]; rfl
theorem qAt_next {M : List (List UInt8)} {acc : List (List UInt8 × List UInt8)} {k : Nat} {y : List UInt8 × List UInt8} (h : QAt M acc k) (hk : k < M.length) (he : M[k].isEmpty = false) (hy : pairOf M[k] = some y) : QAt M (acc ++ [y]) (k + 1) := by
  refine ⟨hk, by have := h.2.1; simp; omega, ?_⟩
  rw [h.2.2, List.drop_eq_getElem_cons hk, List.filter_cons, he]
  simp only [Bool.not_false, if_true]
  rw [all_some hy]
  cases all? pairOf ((M.drop (k + 1)).filter fun l => !l.isEmpty) <;> simp
theorem qAt_bad {M : List (List UInt8)} {acc : List (List UInt8 × List UInt8)} {k : Nat} (h : QAt M acc k) (hk : k < M.length) (he : M[k].isEmpty = false) (hy : pairOf M[k] = none) : all? pairOf (M.filter fun l => !l.isEmpty) = none := by
  rw [h.2.2, List.drop_eq_getElem_cons hk, List.filter_cons, he]
  simp only [Bool.not_false, if_true]
  rw [all_none hy]; rfl
theorem qAt_end {M : List (List UInt8)} {acc : List (List UInt8 × List UInt8)} {k : Nat} (h : QAt M acc k) (hk : M.length ≤ k) : all? pairOf (M.filter fun l => !l.isEmpty) = some acc := by
  rw [h.2.2, List.drop_eq_nil_of_le hk]
  simp [all_nil]
end Gt
theorem StrRow.fr {w w' : World} {v : Value} {L : List (List UInt8)} {T B : Nat} {p1 p2 : Option Addr} {n1 k1 n2 k2 : Nat} {t : TypeId} (h : StrRow w v L) (hT : w.heap[T]? = some (.cells #[.slice p1 n1 k1, .slice p2 n2 k2] t (0, 0))) (hf : Fr T B w w') (hB : w.heap.size ≤ B) : StrRow w' v L := by
  obtain ⟨p, cap, rfl, h⟩ := h
  refine ⟨p, cap, rfl, h.imp id ?_⟩
  rintro ⟨g, rfl, hc⟩
  refine ⟨g, rfl, fun j hj => ?_⟩
  have h1 := hc j hj
  have hg := lt_of_cell h1
  have hne : g ≠ T := by
    intro e
    subst e
    simp only [World.cell?, hT, Option.bind_eq_bind] at h1
    match j with
    | 0 => simp [tx] at h1
    | 1 => simp [tx] at h1
    | j + 2 => simp at h1
  exact (World.cell?_of_block (a := ⟨g, j, none⟩) (hf.block g (Nat.lt_of_lt_of_le hg hB) hne)).trans h1
theorem own_set {w : World} {base : Nat} {e : TypeId} {size : Nat} {v : Value} {n : Nat} {xs : List Value} (h : w.ownsRow base e size v n xs) (T i : Nat) (x : Value) (hT : T < base) : (w.setCell ⟨T, i, none⟩ x).ownsRow base e size v n xs := by
  refine ⟨h.1, h.2.imp id ?_⟩
  rintro ⟨g, cap, cur, h1, h2, h3, h4⟩
  exact ⟨g, cap, cur, h1, h2, (Below.heap_setCell _ _ _ _ (by simp; omega)).trans h3, h4⟩
theorem own_slice {w : World} {base : Nat} {e : TypeId} {size : Nat} {v : Value} {n : Nat} {xs : List Value} (h : w.ownsRow base e size v n xs) : ∃ p c, v = .slice p n c := by
  rcases h.2 with ⟨rfl, h0⟩ | ⟨g, cap, cur, h1, _⟩
  · exact ⟨none, 0, by rw [h0]⟩
  · exact ⟨_, _, h1⟩
theorem ok_head {s : List UInt8} (h : (s.head? == some 47) = false) : Gt.ok s = false := by unfold Gt.ok; rw [h]; rfl
theorem okB_bad {c : UInt8} {x : Int} (h : (c.toNat : Int) = x) (hb : x < 33 ∨ 126 < x ∨ x = 35) : Gt.okB c = false := by
  unfold Gt.okB
  rcases hb with h' | h' | h'
  · rw [show decide (33 ≤ c.toNat) = false from decide_eq_false (by omega)]; rfl
  · rw [show decide (c.toNat ≤ 126) = false from decide_eq_false (by omega)]; simp
  · have : c = 35 := UInt8.toNat_inj.1 (by show c.toNat = 35; omega)
    subst this; rfl
theorem okB_good {c : UInt8} {x : Int} (h : (c.toNat : Int) = x) (h1 : ¬ x < 33) (h2 : ¬ 126 < x) (h3 : ¬ x = 35) : Gt.okB c = true := by
  unfold Gt.okB
  rw [show decide (33 ≤ c.toNat) = true from decide_eq_true (by omega), show decide (c.toNat ≤ 126) = true from decide_eq_true (by omega)]
  have : c ≠ 35 := fun e => h3 (by rw [← h, e]; rfl)
  simpa using this
theorem bad_byte {l : List UInt8} {c : UInt8} (hm : c ∈ l) (h : Gt.okB c = false) : Gt.ok l = false := by
  unfold Gt.ok
  rw [show l.all Gt.okB = false from List.all_eq_false.2 ⟨c, hm, by rw [h]; simp⟩, Bool.and_false]
theorem ref_Parse (s : ByteArray) (w : World) (hs : s.size ≤ 90000) :
    Calls Tryz.prog 23 #[.string s] w fun e w' => ParseOut w' (Gt.parse s.data.toList) e ∧ Below w.heap.size w w' := by
  obtain ⟨W1, hW1⟩ : ∃ W, w.alloc (.cells #[.slice none 0 0, .slice none 0 0] 36) = W := ⟨_, rfl⟩
  have HB := Lib.hid (show Below w.heap.size w W1 by rw [← hW1]; exact (Below.refl _ _).alloc (Nat.le_refl _) _)
  have hT : W1.heap[w.heap.size]? = some (.cells #[.slice none 0 0, .slice none 0 0] 36 (0, 0)) := by rw [← hW1]; exact World.alloc_heap_new _ _
  have HT := Lib.hid hT
  have HZ := Lib.hid (show W1.heap.size = w.heap.size + 1 by rw [← hW1]; simp)
  have c0 : W1.cell? ⟨w.heap.size, 0, none⟩ = some (.slice none 0 0) := by simp [World.cell?, hT]
  have c1 : W1.cell? ⟨w.heap.size, 1, none⟩ = some (.slice none 0 0) := by simp [World.cell?, hT]
  have z0 : W1.frozen? ⟨w.heap.size, 0, none⟩ = false := frozen_of_row _ _ _ _ _ hT
  have z1 : W1.frozen? ⟨w.heap.size, 1, none⟩ = false := frozen_of_row _ _ _ _ _ hT
  have HW := Lib.hid hW1
  have HL := Lib.hid (show s.data.toList.length = s.size from rfl)
  obtain ⟨O, hO⟩ : ∃ O, Gt.parse s.data.toList = O := ⟨_, rfl⟩
  rw [hO]
  have HO := Lib.hid hO
  clear hW1 hT hO
  have hgs : ∀ (x y : Value) (W : World), (Instr.build 36 #[]).run Tryz.prog W = .ok (.agg #[.slice none 0 0, .slice none 0 0]) W := fun _ _ _ => by kernel_rfl
  clear hgs
  by_cases h1 : 0 < s.size
  · obtain ⟨x0, hx0⟩ : ∃ x : Int, ((s[0]'h1).toNat : Int) = x := ⟨_, rfl⟩
    have hsz : ((s.size : Int) == 0) = false := beq_eq_false_iff_ne.2 (by omega)
    have HHD := Lib.hid (show (s.data.toList.head? == some 47) = (x0 == 47) by
      have h3 : s.data.toList[0]? = some (s[0]'h1) := by rw [List.getElem?_eq_getElem (by rw [HL.out]; exact h1)]; rfl
      rw [List.head?_eq_getElem?, h3]
      rw [Bool.eq_iff_iff, beq_iff_eq, beq_iff_eq]
      constructor
      · intro h
        have h4 : s[0]'h1 = 47 := Option.some.inj h
        rw [← hx0, h4]; rfl
      · intro h
        rw [show s[0]'h1 = 47 from UInt8.toNat_inj.1 (by show (s[0]'h1).toNat = 47; omega)])
    by_cases hx : x0 = 47
    · subst hx
      have HHT := Lib.hid (show (s.data.toList.head? == some 47) = true from HHD.out)
      go_enter Tryz.func23, Tryz.ntmps23
      go_wp2_with fail
      rw [HW.out]

      go_wp2_with fail
      go_loop [4] (fun i => ∃ k : Nat, k ≤ s.size ∧ i = .int .i64 k ∧ (s.data.toList.take k).all Gt.okB = true) (fun i => s.size - (intOf i).toNat)
      case atStart => exact ⟨0, Nat.zero_le _, rfl, rfl⟩
      case round =>
        obtain ⟨k, hk, rfl, hall⟩ := hrel
        have HAL := Lib.hid hall
        clear hall
        by_cases hlt : k < s.size
        · have HKL := Lib.hid (show k < s.data.toList.length from hlt)
          obtain ⟨c, hcc⟩ : ∃ c, s.data.toList[k]'HKL.out = c := ⟨_, rfl⟩
          obtain ⟨x, hx⟩ : ∃ x : Int, (c.toNat : Int) = x := ⟨_, rfl⟩
          have hsx : ((s[k]'hlt).toNat : Int) = x := by rw [← hx, ← hcc]; rfl
          have HX := Lib.hid hx
          have HTK := Lib.hid (show s.data.toList.take (k + 1) = s.data.toList.take k ++ [c] by rw [List.take_succ_eq_append_getElem HKL.out, hcc])
          have HMEM := Lib.hid (show c ∈ s.data.toList by rw [← hcc]; exact List.getElem_mem _)
          clear hx hcc
          by_cases h33 : x < 33
          · have HNO := Lib.hid (Gt.parse_bad (bad_byte HMEM.out (okB_bad HX.out (.inl h33))))
            go_wp2_with fail
            obtain ⟨wz, hwz⟩ : ∃ Z, (W1.setCell ⟨w.heap.size, 0, none⟩ (.slice none 0 0)).setCell ⟨w.heap.size, 1, none⟩ (.slice none 0 0) = Z := ⟨_, rfl⟩
            rw [hwz]
            have HBz := Lib.hid (show Below w.heap.size w wz by rw [← hwz]; exact (HB.out.setCell (p := ⟨w.heap.size, 0, none⟩) (Nat.le_refl _) _).setCell (p := ⟨w.heap.size, 1, none⟩) (Nat.le_refl _) _)
            have hTz : wz.heap[w.heap.size]? = some (.cells #[.slice none 0 0, .slice none 0 0] 36 (0, 0)) := by
              rw [← hwz]; exact heap_setCell_same _ _ 1 _ _ _ (heap_setCell_same _ _ 0 _ _ _ HT.out)
            have f0 : wz.cell? ⟨w.heap.size, 0, none⟩ = some (.slice none 0 0) := by simp [World.cell?, hTz]
            have f1 : wz.cell? ⟨w.heap.size, 1, none⟩ = some (.slice none 0 0) := by simp [World.cell?, hTz]
            exact bodyPost_ret (v := .tuple #[.agg #[.slice none 0 0, .slice none 0 0], .int .i64 210]) (by simp [results, Tryz.results23, go_sem, f0, f1]) rfl ⟨by rw [← HO.out, HNO.out]; rfl, HBz.out⟩

          · by_cases h126 : 126 < x
            · have HNO := Lib.hid (Gt.parse_bad (bad_byte HMEM.out (okB_bad HX.out (.inr (.inl h126)))))
              go_wp2_with fail
              obtain ⟨wz, hwz⟩ : ∃ Z, (W1.setCell ⟨w.heap.size, 0, none⟩ (.slice none 0 0)).setCell ⟨w.heap.size, 1, none⟩ (.slice none 0 0) = Z := ⟨_, rfl⟩
              rw [hwz]
              have HBz := Lib.hid (show Below w.heap.size w wz by rw [← hwz]; exact (HB.out.setCell (p := ⟨w.heap.size, 0, none⟩) (Nat.le_refl _) _).setCell (p := ⟨w.heap.size, 1, none⟩) (Nat.le_refl _) _)
              have hTz : wz.heap[w.heap.size]? = some (.cells #[.slice none 0 0, .slice none 0 0] 36 (0, 0)) := by
                rw [← hwz]; exact heap_setCell_same _ _ 1 _ _ _ (heap_setCell_same _ _ 0 _ _ _ HT.out)
              have f0 : wz.cell? ⟨w.heap.size, 0, none⟩ = some (.slice none 0 0) := by simp [World.cell?, hTz]
              have f1 : wz.cell? ⟨w.heap.size, 1, none⟩ = some (.slice none 0 0) := by simp [World.cell?, hTz]
              exact bodyPost_ret (v := .tuple #[.agg #[.slice none 0 0, .slice none 0 0], .int .i64 210]) (by simp [results, Tryz.results23, go_sem, f0, f1]) rfl ⟨by rw [← HO.out, HNO.out]; rfl, HBz.out⟩

            · by_cases h35 : x = 35
              · have HNO := Lib.hid (Gt.parse_bad (bad_byte HMEM.out (okB_bad HX.out (.inr (.inr h35)))))
                have he : (x == 35) = true := beq_iff_eq.2 h35
                clear h35
                go_wp2_with fail
                obtain ⟨wz, hwz⟩ : ∃ Z, (W1.setCell ⟨w.heap.size, 0, none⟩ (.slice none 0 0)).setCell ⟨w.heap.size, 1, none⟩ (.slice none 0 0) = Z := ⟨_, rfl⟩
                rw [hwz]
                have HBz := Lib.hid (show Below w.heap.size w wz by rw [← hwz]; exact (HB.out.setCell (p := ⟨w.heap.size, 0, none⟩) (Nat.le_refl _) _).setCell (p := ⟨w.heap.size, 1, none⟩) (Nat.le_refl _) _)
                have hTz : wz.heap[w.heap.size]? = some (.cells #[.slice none 0 0, .slice none 0 0] 36 (0, 0)) := by
                  rw [← hwz]; exact heap_setCell_same _ _ 1 _ _ _ (heap_setCell_same _ _ 0 _ _ _ HT.out)
                have f0 : wz.cell? ⟨w.heap.size, 0, none⟩ = some (.slice none 0 0) := by simp [World.cell?, hTz]
                have f1 : wz.cell? ⟨w.heap.size, 1, none⟩ = some (.slice none 0 0) := by simp [World.cell?, hTz]
                exact bodyPost_ret (v := .tuple #[.agg #[.slice none 0 0, .slice none 0 0], .int .i64 210]) (by simp [results, Tryz.results23, go_sem, f0, f1]) rfl ⟨by rw [← HO.out, HNO.out]; rfl, HBz.out⟩

              · have HOK1 := Lib.hid (show (s.data.toList.take (k + 1)).all Gt.okB = true by rw [HTK.out, List.all_append, HAL.out, List.all_cons, okB_good HX.out h33 h126 h35]; rfl)
                have he : (x == 35) = false := beq_eq_false_iff_ne.2 h35
                clear h35
                go_wp2_with fail
                go_round
                case rel => exact ⟨k + 1, hlt, by go_num, HOK1.out⟩
                case measure => simp [intOf]; omega
        · have HOK := Lib.hid (show Gt.ok s.data.toList = true by
            have h5 := HAL.out
            rw [List.take_of_length_le (by rw [HL.out]; omega)] at h5
            unfold Gt.ok; rw [HHT.out, h5]; rfl)
          have hpp := Gs.pos_le 63 s.data.toList
          have hp1 := ok_pos HOK.out
          rw [HL.out] at hpp
          have HSG := Lib.hid (show Gt.segs s.data.toList = Gs.parts 47 [] ((s.data.toList.take (Gs.pos 63 s.data.toList)).drop 1) from rfl)
          have HQG := Lib.hid (show Gt.qrys s.data.toList = (Gs.parts 38 [] (s.data.toList.drop (Gs.pos 63 s.data.toList + 1))).filter fun l => !l.isEmpty from rfl)
          have KAT := ref_at s 63 W1 (by omega)
          rw [show (((63 : UInt8).toNat : Nat) : Int) = 63 from rfl] at KAT
          obtain ⟨n, hpos⟩ : ∃ n, Gs.pos 63 s.data.toList = n := ⟨_, rfl⟩
          rw [hpos] at hpp hp1 HSG HQG KAT
          have HSL := Lib.hid (fun W => slice_mid s W 1 n hp1 hpp (by omega))
          have hsl : ∀ W, (Instr.slice 9 (.string s) (some (.int .i64 1)) (some (.int .i64 (n : Int))) none).run Tryz.prog W = .ok (.string (s.extract 1 n)) W := fun W => HSL.out W
          obtain ⟨m, hm⟩ : ∃ m, m = min (n + 1) s.size := ⟨_, rfl⟩
          have hm2 : m ≤ s.size := by omega
          have HFR := Lib.hid (fun W => str_from s W m hm2 (by omega))
          have HMI := Lib.hid (fun W => min_i64 (n + 1) s.size m hm W)
          have hfr := HFR.out
          have hmi : ∀ W, (Builtin.min_ #[3, 3] 3 #[.int .i64 ((n : Int) + 1), .int .i64 (s.size : Int)]).run Tryz.prog W = .ok (.int .i64 (m : Int)) W := fun W => HMI.out W
          have e1 : (s.extract 1 n).data.toList = (s.data.toList.take n).drop 1 := by rw [Lib.extract_data, List.drop_take]
          have e2 := ext_from s m
          rw [drop_min s.data.toList n m hm] at e2
          obtain ⟨pb, hpb⟩ : ∃ z, s.extract 1 n = z := ⟨_, rfl⟩
          obtain ⟨qb, hqb⟩ : ∃ z, s.extract m s.size = z := ⟨_, rfl⟩
          rw [hpb] at hsl e1
          rw [hqb] at hfr e2
          rw [← e1] at HSG
          rw [← e2] at HQG
          have HPS := Lib.hid (show pb.size ≤ 90000 by
            have h1 : pb.data.toList.length = pb.size := rfl
            rw [e1, List.length_drop, List.length_take, HL.out] at h1; omega)
          have HQS := Lib.hid (show qb.size ≤ 90000 by
            have h1 : qb.data.toList.length = qb.size := rfl
            rw [e2, List.length_drop, HL.out] at h1; omega)
          have HKAT := Lib.hid KAT
          have hn3 : n ≤ 90000 := by omega
          clear KAT hpos hm hpb hqb e1 e2 HSL HFR HMI c0 c1 z0 z1 HAL
          go_wp2_with fail
          refine HKAT.out.mono ?_
          rintro e w2 ⟨rfl, hb2⟩
          obtain ⟨W2, hW2⟩ : ∃ Z, w2.alloc (.cells #[.slice none 0 0, .slice none 0 0] 36) = Z := ⟨_, rfl⟩
          obtain ⟨T, hTT⟩ : ∃ z, w2.heap.size = z := ⟨_, rfl⟩
          have HTW := Lib.hid (show w.heap.size < T by have := hb2.size; rw [HZ.out, hTT] at this; omega)
          have HB2 := Lib.hid (show Below w.heap.size w W2 by rw [← hW2]; exact (HB.out.trans (hb2.mono HB.out.size)).alloc (by rw [hTT]; have := HTW.out; omega) _)
          have HT2 := Lib.hid (show W2.heap[w.heap.size]? = some (.cells #[.slice none 0 0, .slice none 0 0] 36 (0, 0)) by
            rw [← hW2, Below.heap_alloc _ _ _ (by rw [hTT]; exact HTW.out)]; exact (hb2.block _ (by rw [HZ.out]; omega)).trans HT.out)
          have HU2 := Lib.hid (show W2.heap[T]? = some (.cells #[.slice none 0 0, .slice none 0 0] 36 (0, 0)) by rw [← hW2, ← hTT]; exact World.alloc_heap_new _ _)
          have HW2 := Lib.hid hW2
          have HZ2 := Lib.hid (show W2.heap.size = T + 1 by rw [← hW2, ← hTT]; simp)
          have hTT2 := Lib.hid hTT
          clear hb2 hW2 hTT
          go_wp2_with fail
          rw [hTT2.out, HW2.out]
          have KB47 := ref_between pb 47 W2 (by have := HPS.out; omega)
          rw [show (((47 : UInt8).toNat : Nat) : Int) = 47 from rfl] at KB47
          refine KB47.mono ?_
          clear KB47
          rintro e w3 ⟨r7, rfl, hr7, hb3⟩
          have HR7 := Lib.hid hr7
          obtain ⟨p7, c7, rfl, _⟩ := hr7
          obtain ⟨M, hM⟩ : ∃ M, Gs.parts 47 [] pb.data.toList = M := ⟨_, rfl⟩
          have HML := Lib.hid (show M.length ≤ 100000 by
            have h1 := Gs.parts_many 47 pb.data.toList []
            rw [hM] at h1
            have h2 : pb.data.toList.length = pb.size := rfl
            have h3 := HPS.out
            omega)
          have HMS := Lib.hid (fun l (hl : l ∈ M) => show l.length ≤ 90000 by
            have h1 := Gs.parts_len 47 pb.data.toList [] l (by rw [hM]; exact hl)
            have h2 : pb.data.toList.length = pb.size := rfl
            have h3 := HPS.out
            simp at h1
            omega)
          rw [hM] at HR7 HSG ⊢
          obtain ⟨N, hN⟩ : ∃ N, M.length = N := ⟨_, rfl⟩
          have HN := Lib.hid hN
          rw [hN] at HML ⊢
          have HB3 := Lib.hid (HB2.out.trans (hb3.mono HB2.out.size))
          have HT3 := Lib.hid ((hb3.block _ (by rw [HZ2.out]; have := HTW.out; omega)).trans HT2.out)
          have HU3 := Lib.hid ((hb3.block _ (by rw [HZ2.out]; omega)).trans HU2.out)
          have HZ3 := Lib.hid (show T < w3.heap.size by have := hb3.size; rw [HZ2.out] at this; omega)
          obtain ⟨B3, hB3⟩ : ∃ b, w3.heap.size = b := ⟨_, rfl⟩
          rw [hB3] at HZ3
          have HB3E := Lib.hid hB3
          clear hM hN hb3 hB3 HU2 HT2 HB2 HZ2
          obtain ⟨i0, hi, hz0, hz1, hz2⟩ := info_parts (show (Tryz.prog.info? 9).map (fun i => (i.zero, i.size, i.bytes)) = some (some (.string ByteArray.empty), 1, 16) by kernel_rfl)
          go_wp2_with fail
          have hN9 := HML.out
          go_loopw [8] (fun i wr => ∃ (k : Nat) (acc : List (List UInt8)) (v : Value), k ≤ N ∧ i = .int .i64 k ∧ Gt.AAt Gt.seg M acc k ∧ wr.heap[T]? = some (.cells #[v, .slice none 0 0] 36 (0, 0)) ∧ wr.ownsRow B3 9 1 v acc.length (acc.map tx) ∧ Fr T B3 w3 wr)
            (fun i _ => N - (intOf i).toNat)
          case atStart => exact ⟨0, [], .slice none 0 0, Nat.zero_le _, rfl, Gt.aAt_start _ _, HU3.out, World.ownsRow_nil _ _ _ _, Fr.of (Below.refl _ _)⟩
          case round =>
            obtain ⟨k, acc, v, hk, rfl, hat, hTc, hown, hfr'⟩ := hrel
            have HA := Lib.hid hat
            have HTC := Lib.hid hTc
            have HO2 := Lib.hid hown
            have HF := Lib.hid hfr'
            have hR := HR7.out.fr HU3.out HF.out (Nat.le_of_eq HB3E.out)
            have HR := Lib.hid hR
            have HBW := Lib.hid (show Below w.heap.size w wr from HB3.out.trans (HF.out.below (by have := HTW.out; omega) (by have := HTW.out; have := HZ3.out; omega)))
            have HTwr := Lib.hid (show wr.heap[w.heap.size]? = some (.cells #[.slice none 0 0, .slice none 0 0] 36 (0, 0)) from (HF.out.block _ (by have := HTW.out; have := HZ3.out; omega) (by have := HTW.out; omega)).trans HT3.out)
            clear hat hTc hown hfr'
            by_cases hlt : k < N
            · have HKM := Lib.hid (show k < M.length by rw [HN.out]; exact hlt)
              obtain ⟨l, hl⟩ : ∃ l, M[k]'HKM.out = l := ⟨_, rfl⟩
              have HLM := Lib.hid (show l ∈ M by rw [← hl]; exact List.getElem_mem _)
              have hcell : ∃ g, p7 = some ⟨g, 0, none⟩ ∧ wr.cell? ⟨g, k, none⟩ = some (tx l) := by
                obtain ⟨p, cap, hp, h⟩ := hR
                rcases h with h | ⟨g, hg, hc⟩
                · rw [HN.out] at h; omega
                · refine ⟨g, ?_, ?_⟩
                  · have : p7 = p := by injection hp
                    rw [this, hg]
                  · rw [hc k HKM.out, List.getD_eq_getElem?_getD, List.getElem?_eq_getElem HKM.out, hl]; rfl
              obtain ⟨g, rfl, hck⟩ := hcell
              obtain ⟨lb, hlb⟩ : ∃ z : ByteArray, (⟨l.toArray⟩ : ByteArray) = z := ⟨_, rfl⟩
              rw [show tx l = .string lb by unfold tx; rw [hlb]] at hck
              have HLB := Lib.hid (show lb.data.toList = l by rw [← hlb])
              have HLS := Lib.hid (show lb.size ≤ 1000000 by
                have h1 : lb.data.toList.length = lb.size := rfl
                rw [HLB.out] at h1
                have := HMS.out l HLM.out
                omega)
              have K1 := Lib.hid (ref_Decode lb false wr HLS.out)
              rw [HLB.out] at K1
              have HL2 := Lib.hid hl
              clear hR hl hlb
              cases hd : Gt.dec false l with
              | none =>
                rw [hd] at K1
                have HNO := Lib.hid (Gt.parse_segs HOK.out (by rw [HSG.out]; exact Gt.aAt_bad HA.out HKM.out (by rw [HL2.out]; exact Gt.seg_none hd)))
                clear hd
                simp only [decOut] at K1
                go_wp2_with fail
                refine K1.out.mono ?_
                rintro e w4 ⟨rfl, hb4⟩
                have HB4 := Lib.hid (HBW.out.trans (hb4.mono HBW.out.size))
                have HT4 := Lib.hid ((hb4.block _ (Nat.lt_of_lt_of_le (Array.getElem?_eq_some_iff.1 HT.out).1 (Nat.le_trans (Nat.le_of_eq HZ.out) (by have h1 := HF.out.size; have h2 := HTW.out; have h3 := HZ3.out; have h4 := HB3E.out; omega)))).trans HTwr.out)
                clear hb4
                have c0 : w4.cell? ⟨w.heap.size, 0, none⟩ = some (.slice none 0 0) := by simp [World.cell?, HT4.out]
                have c1 : w4.cell? ⟨w.heap.size, 1, none⟩ = some (.slice none 0 0) := by simp [World.cell?, HT4.out]
                have z0 : w4.frozen? ⟨w.heap.size, 0, none⟩ = false := frozen_of_row _ _ _ _ _ HT4.out
                have z1 : w4.frozen? ⟨w.heap.size, 1, none⟩ = false := frozen_of_row _ _ _ _ _ HT4.out
                go_wp2_with fail
                obtain ⟨wz, hwz⟩ : ∃ Z, (w4.setCell ⟨w.heap.size, 0, none⟩ (.slice none 0 0)).setCell ⟨w.heap.size, 1, none⟩ (.slice none 0 0) = Z := ⟨_, rfl⟩
                rw [hwz]
                have HBz := Lib.hid (show Below w.heap.size w wz by rw [← hwz]; exact (HB4.out.setCell (p := ⟨w.heap.size, 0, none⟩) (Nat.le_refl _) _).setCell (p := ⟨w.heap.size, 1, none⟩) (Nat.le_refl _) _)
                have hTz : wz.heap[w.heap.size]? = some (.cells #[.slice none 0 0, .slice none 0 0] 36 (0, 0)) := by
                  rw [← hwz]; exact heap_setCell_same _ _ 1 _ _ _ (heap_setCell_same _ _ 0 _ _ _ HT4.out)
                have f0 : wz.cell? ⟨w.heap.size, 0, none⟩ = some (.slice none 0 0) := by simp [World.cell?, hTz]
                have f1 : wz.cell? ⟨w.heap.size, 1, none⟩ = some (.slice none 0 0) := by simp [World.cell?, hTz]
                exact bodyPost_ret (v := .tuple #[.agg #[.slice none 0 0, .slice none 0 0], .int .i64 210]) (by simp [results, Tryz.results23, go_sem, f0, f1]) rfl ⟨by rw [← HO.out, HNO.out]; rfl, HBz.out⟩
              | some q =>
                rw [hd] at K1
                have HSEG := Lib.hid (Gt.seg_some hd)
                have HQL := Lib.hid (Gt.dec_length false _ l q (Nat.le_refl _) hd)
                clear hd
                obtain ⟨qq, hqq⟩ : ∃ z : ByteArray, (⟨q.toArray⟩ : ByteArray) = z := ⟨_, rfl⟩
                have HQQ := Lib.hid (show qq.data.toList = q by rw [← hqq])
                have HQS2 := Lib.hid (show qq.size ≤ 1000000 by
                  have h1 : qq.data.toList.length = qq.size := rfl
                  rw [HQQ.out] at h1
                  have := HQL.out
                  have := HMS.out l HLM.out
                  omega)
                simp only [decOut, hqq] at K1
                have HTX := Lib.hid (show tx q = .string qq by unfold tx; rw [hqq])
                have KP := Lib.hid (fun W => ref_part qq W HQS2.out)
                rw [HQQ.out] at KP
                clear hqq
                cases hf : Gt.fine q with
                | false =>
                  rw [hf] at KP
                  have HNO := Lib.hid (Gt.parse_segs HOK.out (by rw [HSG.out]; exact Gt.aAt_bad HA.out HKM.out (by rw [HL2.out, HSEG.out, hf]; rfl)))
                  clear hf
                  go_wp2_with fail
                  refine K1.out.mono ?_
                  rintro e w4a ⟨rfl, hb4a⟩
                  go_wp2_with fail
                  refine (KP.out w4a).mono ?_
                  rintro e w4 ⟨rfl, hb4b⟩
                  have hb4 := hb4a.trans (hb4b.mono hb4a.size)
                  have HB4 := Lib.hid (HBW.out.trans (hb4.mono HBW.out.size))
                  have HT4 := Lib.hid ((hb4.block _ (Nat.lt_of_lt_of_le (Array.getElem?_eq_some_iff.1 HT.out).1 (Nat.le_trans (Nat.le_of_eq HZ.out) (by have h1 := HF.out.size; have h2 := HTW.out; have h3 := HZ3.out; have h4 := HB3E.out; omega)))).trans HTwr.out)
                  clear hb4 hb4a hb4b
                  have c0 : w4.cell? ⟨w.heap.size, 0, none⟩ = some (.slice none 0 0) := by simp [World.cell?, HT4.out]
                  have c1 : w4.cell? ⟨w.heap.size, 1, none⟩ = some (.slice none 0 0) := by simp [World.cell?, HT4.out]
                  have z0 : w4.frozen? ⟨w.heap.size, 0, none⟩ = false := frozen_of_row _ _ _ _ _ HT4.out
                  have z1 : w4.frozen? ⟨w.heap.size, 1, none⟩ = false := frozen_of_row _ _ _ _ _ HT4.out
                  go_wp2_with fail
                  obtain ⟨wz, hwz⟩ : ∃ Z, (w4.setCell ⟨w.heap.size, 0, none⟩ (.slice none 0 0)).setCell ⟨w.heap.size, 1, none⟩ (.slice none 0 0) = Z := ⟨_, rfl⟩
                  rw [hwz]
                  have HBz := Lib.hid (show Below w.heap.size w wz by rw [← hwz]; exact (HB4.out.setCell (p := ⟨w.heap.size, 0, none⟩) (Nat.le_refl _) _).setCell (p := ⟨w.heap.size, 1, none⟩) (Nat.le_refl _) _)
                  have hTz : wz.heap[w.heap.size]? = some (.cells #[.slice none 0 0, .slice none 0 0] 36 (0, 0)) := by
                    rw [← hwz]; exact heap_setCell_same _ _ 1 _ _ _ (heap_setCell_same _ _ 0 _ _ _ HT4.out)
                  have f0 : wz.cell? ⟨w.heap.size, 0, none⟩ = some (.slice none 0 0) := by simp [World.cell?, hTz]
                  have f1 : wz.cell? ⟨w.heap.size, 1, none⟩ = some (.slice none 0 0) := by simp [World.cell?, hTz]
                  exact bodyPost_ret (v := .tuple #[.agg #[.slice none 0 0, .slice none 0 0], .int .i64 210]) (by simp [results, Tryz.results23, go_sem, f0, f1]) rfl ⟨by rw [← HO.out, HNO.out]; rfl, HBz.out⟩
                | true =>
                  rw [hf] at KP
                  have HN1 := Lib.hid (Gt.aAt_next HA.out HKM.out (show Gt.seg (M[k]'HKM.out) = some q by rw [HL2.out, HSEG.out, hf]; rfl))
                  clear hf
                  go_wp2_with fail
                  refine K1.out.mono ?_
                  rintro e w4a ⟨rfl, hb4a⟩
                  go_wp2_with fail
                  refine (KP.out w4a).mono ?_
                  rintro e w4 ⟨rfl, hb4b⟩
                  have hb4 := hb4a.trans (hb4b.mono hb4a.size)
                  have HLT := Lib.hid (show T < wr.heap.size from (Array.getElem?_eq_some_iff.1 HTC.out).1)
                  have hTC4 := (hb4.block _ HLT.out).trans HTC.out
                  have HTC4 := Lib.hid hTC4
                  have HO4 := Lib.hid (HO2.out.belowed hb4)
                  have HF4 := Lib.hid (show Fr T B3 w3 w4 from HF.out.trans (Fr.of (hb4.mono (by have h1 := HF.out.size; rw [HB3E.out] at h1; exact h1))))
                  obtain ⟨pv, cv, rfl⟩ := own_slice HO2.out
                  have d0 : w4.cell? ⟨T, 0, none⟩ = some (.slice pv acc.length cv) := by simp [World.cell?, hTC4]
                  have zz0 : w4.frozen? ⟨T, 0, none⟩ = false := frozen_of_row _ _ _ _ _ hTC4
                  clear hb4 hb4a hb4b hTC4
                  go_wp2_with (at_builtin; refine wpList_append_own _ rfl _ _ 33 rfl B3 9 i0 (.string ByteArray.empty) 1 16 Tryz.underlying33 hi hz0 hz1 hz2 rfl (by decide) _ _ _ rfl (HO4.out.alloc _) ⟨w4.heap.size, 0, none⟩ 1 1 [.string qq] rfl rfl ?c1 ?c2 ?c3 ?c4 ?c5 ?_)
                  case c1 =>
                    intro j u hj
                    match j, hj with
                    | 0, hj => simp at hj; subst hj; simp [Addr.add]
                  case c2 => intro u hu; simp at hu; subst hu; rfl
                  case c3 => have := HA.out.2.1; have := HML.out; unfold maxLen; omega
                  case c4 => have := HA.out.2.1; have := HML.out; omega
                  case c5 => have h1 := HF4.out.size; rw [HB3E.out] at h1; simp; omega
                  intro v' w5 hown' hgrow _
                  have HF5 := Lib.hid (show Fr T B3 w3 w5 from HF4.out.trans (Fr.of (Below.grown ((Below.refl _ _).alloc (by have h1 := HF4.out.size; rw [HB3E.out] at h1; exact h1) _) hgrow (by have h1 := HF4.out.size; rw [HB3E.out] at h1; simp; omega) (own_ge HO4.out))))
                  have HO5 := Lib.hid (show w5.ownsRow B3 9 1 v' (acc ++ [q]).length ((acc ++ [q]).map tx) by
                    rw [List.map_append, List.length_append]
                    show w5.ownsRow B3 9 1 v' _ (_ ++ [tx q])
                    rw [HTX.out]
                    exact hown')
                  obtain ⟨pw, cw, rfl⟩ := own_slice hown'
                  have hTC5 : w5.heap[T]? = some (.cells #[.slice pv acc.length cv, .slice none 0 0] 36 (0, 0)) := by
                    have h9 : T < w4.heap.size := (Array.getElem?_eq_some_iff.1 HTC4.out).1
                    have h8 : T < B3 := HZ3.out
                    rw [hgrow.block T (by rw [World.size_alloc]; exact Nat.lt_succ_of_lt h9) (fun e => by
                      have h1 : B3 ≤ T := own_ge HO4.out T e.symm
                      exact Nat.lt_irrefl _ (Nat.lt_of_lt_of_le h8 h1)), Below.heap_alloc _ _ _ h9]
                    exact HTC4.out
                  have HTC5 := Lib.hid hTC5
                  have d5 : w5.cell? ⟨T, 0, none⟩ = some (.slice pv acc.length cv) := by simp [World.cell?, hTC5]
                  have zz5 : w5.frozen? ⟨T, 0, none⟩ = false := frozen_of_row _ _ _ _ _ hTC5
                  clear hgrow hown' hTC5 d0 zz0
                  go_wp2
                  go_roundw
                  case rel =>
                    refine ⟨k + 1, acc ++ [q], .slice pw (acc.length + 1) cw, hlt, by go_num, HN1.out, heap_setCell_same _ _ 0 _ _ _ HTC5.out, ?_, HF5.out.trans (Fr.set _ _ _ _ _)⟩
                    exact own_set HO5.out T 0 _ HZ3.out
                  case measure => simp [intOf]; omega
            · have HEP := Lib.hid (show Gt.all? Gt.seg (Gt.segs s.data.toList) = some acc by rw [HSG.out]; exact Gt.aAt_end HA.out (by rw [HN.out]; omega))
              have HPR := Lib.hid (strRow_own HO2.out)
              obtain ⟨pv, cv, rfl⟩ := own_slice HO2.out
              have KB38 := ref_between qb 38 wr (by have := HQS.out; omega)
              rw [show (((38 : UInt8).toNat : Nat) : Int) = 38 from rfl] at KB38
              have HKB := Lib.hid KB38
              obtain ⟨np, hnp⟩ : ∃ z, acc.length = z := ⟨_, rfl⟩
              rw [hnp] at HTC HPR
              clear KB38 hnp
              have HR7 := Lib.hid trivial
              go_wp2_with fail
              refine HKB.out.mono ?_
              rintro e w7 ⟨r11, rfl, hr11, hb7⟩
              have HR11 := Lib.hid hr11
              obtain ⟨p11, c11, rfl, _⟩ := hr11
              obtain ⟨M2, hM2⟩ : ∃ M, Gs.parts 38 [] qb.data.toList = M := ⟨_, rfl⟩
              have HM2L := Lib.hid (show M2.length ≤ 100000 by
                have h1 := Gs.parts_many 38 qb.data.toList []
                rw [hM2] at h1
                have h2 : qb.data.toList.length = qb.size := rfl
                have h3 := HQS.out
                omega)
              have HM2S := Lib.hid (fun l (hl : l ∈ M2) => show l.length ≤ 90000 by
                have h1 := Gs.parts_len 38 qb.data.toList [] l (by rw [hM2]; exact hl)
                have h2 : qb.data.toList.length = qb.size := rfl
                have h3 := HQS.out
                simp at h1
                omega)
              rw [hM2] at HR11 HQG ⊢
              obtain ⟨N2, hN2⟩ : ∃ N, M2.length = N := ⟨_, rfl⟩
              have HN2 := Lib.hid hN2
              rw [hN2] at HM2L ⊢
              have hn2 := HM2L.out
              have HWL := Lib.hid (show w.heap.size < wr.heap.size by
                have h1 := HF.out.size; have h2 := HTW.out; have h3 := HZ3.out; have h4 := HB3E.out; omega)
              have HTL := Lib.hid (show T < wr.heap.size from (Array.getElem?_eq_some_iff.1 HTC.out).1)
              have HB7 := Lib.hid (HBW.out.trans (hb7.mono HBW.out.size))
              have HT7 := Lib.hid ((hb7.block _ HWL.out).trans HTwr.out)
              have HU7 := Lib.hid ((hb7.block _ HTL.out).trans HTC.out)
              have HP7 := Lib.hid (HPR.out.below hb7)
              have HTL7 := Lib.hid (show T < w7.heap.size from Nat.lt_of_lt_of_le HTL.out hb7.size)
              obtain ⟨B7, hB7⟩ : ∃ b, w7.heap.size = b := ⟨_, rfl⟩
              rw [hB7] at HTL7
              have HB7E := Lib.hid hB7
              clear hM2 hN2 hb7 hB7
              obtain ⟨j0, hj, hjz0, hjz1, hjz2⟩ := info_parts (show (Tryz.prog.info? 93).map (fun i => (i.zero, i.size, i.bytes)) = some (some (.agg #[.string ByteArray.empty, .string ByteArray.empty]), 2, 32) by kernel_rfl)
              go_wp2_with fail
              go_loopw [12] (fun i wr => ∃ (k : Nat) (acq : List (List UInt8 × List UInt8)) (v : Value), k ≤ N2 ∧ i = .int .i64 k ∧ Gt.QAt M2 acq k ∧ wr.heap[T]? = some (.cells #[.slice pv np cv, v] 36 (0, 0)) ∧ wr.ownsRow B7 93 2 v acq.length (prs acq) ∧ Fr T B7 w7 wr)
                (fun i _ => N2 - (intOf i).toNat)
              case atStart => exact ⟨0, [], .slice none 0 0, Nat.zero_le _, rfl, Gt.qAt_start _, HU7.out, World.ownsRow_nil _ _ _ _, Fr.of (Below.refl _ _)⟩
              case round =>
                clear HA HTC HO2 HF HBW HTwr HWL HPR HTL
                obtain ⟨k, acq, v, hk, rfl, hat, hTc, hown, hfr'⟩ := hrel
                have HA := Lib.hid hat
                have HTC := Lib.hid hTc
                have HO2 := Lib.hid hown
                have HF := Lib.hid hfr'
                have hR := HR11.out.fr HU7.out HF.out (Nat.le_of_eq HB7E.out)
                have hTB : T < B7 := HTL7.out
                have HBW := Lib.hid (show Below w.heap.size w wr from HB7.out.trans (HF.out.below (by have := HTW.out; omega) (by have := HTW.out; omega)))
                have HTwr := Lib.hid (show wr.heap[w.heap.size]? = some (.cells #[.slice none 0 0, .slice none 0 0] 36 (0, 0)) from (HF.out.block _ (by have := HTW.out; omega) (by have := HTW.out; omega)).trans HT7.out)
                have HPR := Lib.hid (HP7.out.fr HU7.out HF.out (Nat.le_of_eq HB7E.out))
                have HWZ := Lib.hid (show B7 ≤ wr.heap.size by have h1 := HF.out.size; rw [HB7E.out] at h1; exact h1)
                obtain ⟨p2, c2, rfl⟩ := own_slice hown
                clear hat hTc hown hfr'
                by_cases hlt : k < N2
                · have HKM := Lib.hid (show k < M2.length by rw [HN2.out]; exact hlt)
                  obtain ⟨l, hl⟩ : ∃ l, M2[k]'HKM.out = l := ⟨_, rfl⟩
                  have HLM := Lib.hid (show l ∈ M2 by rw [← hl]; exact List.getElem_mem _)
                  have hcell : ∃ g, p11 = some ⟨g, 0, none⟩ ∧ wr.cell? ⟨g, k, none⟩ = some (tx l) := by
                    obtain ⟨p, cap, hp, h⟩ := hR
                    rcases h with h | ⟨g, hg, hc⟩
                    · rw [HN2.out] at h; omega
                    · refine ⟨g, ?_, ?_⟩
                      · have : p11 = p := by injection hp
                        rw [this, hg]
                      · rw [hc k HKM.out, List.getD_eq_getElem?_getD, List.getElem?_eq_getElem HKM.out, hl]; rfl
                  obtain ⟨g, rfl, hck⟩ := hcell
                  obtain ⟨lb, hlb⟩ : ∃ z : ByteArray, (⟨l.toArray⟩ : ByteArray) = z := ⟨_, rfl⟩
                  rw [show tx l = .string lb by unfold tx; rw [hlb]] at hck
                  have HLB := Lib.hid (show lb.data.toList = l by rw [← hlb])
                  have HLS := Lib.hid (show lb.size ≤ 1000000 by
                    have h1 : lb.data.toList.length = lb.size := rfl
                    rw [HLB.out] at h1
                    have := HM2S.out l HLM.out
                    omega)
                  have HL2 := Lib.hid hl
                  clear hR hl hlb
                  cases hem : l.isEmpty with
                  | true =>
                    have HN1 := Lib.hid (Gt.qAt_skip HA.out HKM.out (by rw [HL2.out]; exact hem))
                    have hem2 : lb.toList.isEmpty = true := by rw [Lib.toList_data, HLB.out]; exact hem
                    have hem3 : lb.toList = [] := List.isEmpty_iff.1 hem2
                    clear hem
                    go_wp2_with fail
                    go_roundw
                    case rel => exact ⟨k + 1, acq, _, hlt, by go_num, HN1.out, HTC.out, HO2.out, HF.out⟩
                    case measure => simp [intOf]; omega
                  | false =>
                    have HEM := Lib.hid hem
                    have hem2 : lb.toList.isEmpty = false := by rw [Lib.toList_data, HLB.out]; exact hem
                    have K1 := Lib.hid (ref_pair lb wr HLS.out)
                    rw [HLB.out] at K1
                    clear hem
                    cases hd : Gt.pairOf l with
                    | none =>
                      rw [hd] at K1
                      have HNO := Lib.hid (show Gt.parse s.data.toList = none by rw [Gt.parse_is HOK.out HEP.out, HQG.out, Gt.qAt_bad HA.out HKM.out (by rw [HL2.out]; exact HEM.out) (by rw [HL2.out]; exact hd)]; rfl)
                      clear hd
                      simp only [rprOut] at K1
                      obtain ⟨eb, heb⟩ : ∃ z : ByteArray, (⟨#[]⟩ : ByteArray) = z := ⟨_, rfl⟩
                      rw [heb] at K1
                      clear heb
                      go_wp2_with fail
                      refine K1.out.mono ?_
                      rintro e w8 ⟨rfl, hb8⟩
                      obtain ⟨w4, hw4⟩ : ∃ Z, w8.alloc (.cells #[.string eb, .string eb] 93) = Z := ⟨_, rfl⟩
                      have hb4 : Below wr.heap.size wr w4 := by rw [← hw4]; exact hb8.alloc hb8.size _
                      have HB4 := Lib.hid (HBW.out.trans (hb4.mono HBW.out.size))
                      have HT4 := Lib.hid ((hb4.block _ (by have := HWZ.out; have := HTW.out; omega)).trans HTwr.out)
                      clear hb4 hb8
                      have c0 : w4.cell? ⟨w.heap.size, 0, none⟩ = some (.slice none 0 0) := by simp [World.cell?, HT4.out]
                      have c1 : w4.cell? ⟨w.heap.size, 1, none⟩ = some (.slice none 0 0) := by simp [World.cell?, HT4.out]
                      have z0 : w4.frozen? ⟨w.heap.size, 0, none⟩ = false := frozen_of_row _ _ _ _ _ HT4.out
                      have z1 : w4.frozen? ⟨w.heap.size, 1, none⟩ = false := frozen_of_row _ _ _ _ _ HT4.out
                      go_wp2_with fail
                      clear hw4
                      obtain ⟨wz, hwz⟩ : ∃ Z, (w4.setCell ⟨w.heap.size, 0, none⟩ (.slice none 0 0)).setCell ⟨w.heap.size, 1, none⟩ (.slice none 0 0) = Z := ⟨_, rfl⟩
                      rw [hwz]
                      have HBz := Lib.hid (show Below w.heap.size w wz by rw [← hwz]; exact (HB4.out.setCell (p := ⟨w.heap.size, 0, none⟩) (Nat.le_refl _) _).setCell (p := ⟨w.heap.size, 1, none⟩) (Nat.le_refl _) _)
                      have hTz : wz.heap[w.heap.size]? = some (.cells #[.slice none 0 0, .slice none 0 0] 36 (0, 0)) := by
                        rw [← hwz]; exact heap_setCell_same _ _ 1 _ _ _ (heap_setCell_same _ _ 0 _ _ _ HT4.out)
                      have f0 : wz.cell? ⟨w.heap.size, 0, none⟩ = some (.slice none 0 0) := by simp [World.cell?, hTz]
                      have f1 : wz.cell? ⟨w.heap.size, 1, none⟩ = some (.slice none 0 0) := by simp [World.cell?, hTz]
                      exact bodyPost_ret (v := .tuple #[.agg #[.slice none 0 0, .slice none 0 0], .int .i64 210]) (by simp [results, Tryz.results23, go_sem, f0, f1]) rfl ⟨by rw [← HO.out, HNO.out]; rfl, HBz.out⟩
                    | some q =>
                      obtain ⟨qa, qd⟩ := q
                      rw [hd] at K1
                      have HN1 := Lib.hid (Gt.qAt_next HA.out HKM.out (by rw [HL2.out]; exact HEM.out) (by rw [HL2.out]; exact hd))
                      clear hd
                      simp only [rprOut] at K1
                      obtain ⟨ab, hab⟩ : ∃ z : ByteArray, (⟨qa.toArray⟩ : ByteArray) = z := ⟨_, rfl⟩
                      obtain ⟨db, hdb⟩ : ∃ z : ByteArray, (⟨qd.toArray⟩ : ByteArray) = z := ⟨_, rfl⟩
                      rw [hab, hdb] at K1
                      have HTA := Lib.hid (show [tx qa, tx qd] = [.string ab, .string db] by unfold tx; rw [hab, hdb])
                      clear hab hdb
                      go_wp2_with fail
                      refine K1.out.mono ?_
                      rintro e w8 ⟨rfl, hb8⟩
                      obtain ⟨w4, hw4⟩ : ∃ Z, w8.alloc (.cells #[.string ab, .string db] 93) = Z := ⟨_, rfl⟩
                      have HB4 := Lib.hid (show Below wr.heap.size wr w4 by rw [← hw4]; exact hb8.alloc hb8.size _)
                      have hTwr9 : T < wr.heap.size := by have := HWZ.out; omega
                      have hTC4 := (HB4.out.block _ hTwr9).trans HTC.out
                      have hPN : w4.heap[w8.heap.size]? = some (.cells #[.string ab, .string db] 93 (0, 0)) := by rw [← hw4]; exact World.alloc_heap_new _ _
                      have d1 : w4.cell? ⟨T, 1, none⟩ = some (.slice p2 acq.length c2) := by simp [World.cell?, hTC4]
                      have g1 : w4.frozen? ⟨T, 1, none⟩ = false := frozen_of_row _ _ _ _ _ hTC4
                      have d2 : w4.cell? ⟨w8.heap.size, 0, none⟩ = some (.string ab) := by simp [World.cell?, hPN]
                      have d3 : w4.cell? ⟨w8.heap.size, 1, none⟩ = some (.string db) := by simp [World.cell?, hPN]
                      have HTC4 := Lib.hid hTC4
                      have HO4 := Lib.hid (HO2.out.belowed HB4.out)
                      have HF4 := Lib.hid (show Fr T B7 w7 w4 from HF.out.trans (Fr.of (HB4.out.mono HWZ.out)))
                      have HZ4 := Lib.hid (show B7 ≤ w4.heap.size from Nat.le_trans HWZ.out HB4.out.size)
                      clear hTC4 hPN hb8
                      go_wp2_with (at_builtin; refine wpList_append_own _ rfl _ _ 34 rfl B7 93 j0 (.agg #[.string ByteArray.empty, .string ByteArray.empty]) 2 32 Tryz.underlying34 hj hjz0 hjz1 hjz2 rfl (by decide) _ _ _ rfl (HO4.out.alloc _) ⟨w4.heap.size, 0, none⟩ 1 1 [.string ab, .string db] rfl rfl ?e1 ?e2 ?e3 ?e4 ?e5 ?_)
                      case e1 =>
                        intro j u hj
                        match j, hj with
                        | 0, hj => simp at hj; subst hj; simp [Addr.add]
                        | 1, hj => simp at hj; subst hj; simp [Addr.add]
                      case e2 => intro u hu; simp at hu; rcases hu with rfl | rfl <;> rfl
                      case e3 => have := HA.out.2.1; unfold maxLen; omega
                      case e4 => have := HA.out.2.1; omega
                      case e5 => have h1 := HZ4.out; simp; omega
                      intro v' w5 hown' hgrow _
                      have HF5 := Lib.hid (show Fr T B7 w7 w5 from HF4.out.trans (Fr.of (Below.grown ((Below.refl _ _).alloc HZ4.out _) hgrow (by have h1 := HZ4.out; simp; omega) (own_ge2 HO4.out))))
                      have HO5 := Lib.hid (show w5.ownsRow B7 93 2 v' (acq ++ [(qa, qd)]).length (prs (acq ++ [(qa, qd)])) by
                        rw [prs_snoc, List.length_append, HTA.out]
                        exact hown')
                      obtain ⟨pw, cw, rfl⟩ := own_slice hown'
                      have hTC5 : w5.heap[T]? = some (.cells #[.slice pv np cv, .slice p2 acq.length c2] 36 (0, 0)) := by
                        have h9 : T < w4.heap.size := (Array.getElem?_eq_some_iff.1 HTC4.out).1
                        have h8 : T < B7 := HTL7.out
                        rw [hgrow.block T (by rw [World.size_alloc]; exact Nat.lt_succ_of_lt h9) (fun e => by
                          have h1 : B7 ≤ T := own_ge2 HO4.out T e.symm
                          exact Nat.lt_irrefl _ (Nat.lt_of_lt_of_le h8 h1)), Below.heap_alloc _ _ _ h9]
                        exact HTC4.out
                      have HTC5 := Lib.hid hTC5
                      have d5 : w5.cell? ⟨T, 1, none⟩ = some (.slice p2 acq.length c2) := by simp [World.cell?, hTC5]
                      have zz5 : w5.frozen? ⟨T, 1, none⟩ = false := frozen_of_row _ _ _ _ _ hTC5
                      clear hgrow hown' hTC5 d1 g1 d2 d3
                      go_wp2
                      go_roundw
                      case rel =>
                        refine ⟨k + 1, acq ++ [(qa, qd)], .slice pw (acq.length + 1) cw, hlt, by go_num, HN1.out, heap_setCell_same _ _ 1 _ _ _ HTC5.out, ?_, HF5.out.trans (Fr.set _ _ _ _ _)⟩
                        exact own_set HO5.out T 1 _ HTL7.out
                      case measure => simp [intOf]; omega
                · have HEQ := Lib.hid (show Gt.parse s.data.toList = some (acc, acq) by rw [Gt.parse_is HOK.out HEP.out, HQG.out, Gt.qAt_end HA.out (by rw [HN2.out]; omega)]; rfl)
                  have HPQ := Lib.hid (show PrRow wr (.slice p2 acq.length c2) acq from ⟨B7, HO2.out⟩)
                  have d0 : wr.cell? ⟨T, 0, none⟩ = some (.slice pv np cv) := by simp [World.cell?, HTC.out]
                  have d1 : wr.cell? ⟨T, 1, none⟩ = some (.slice p2 acq.length c2) := by simp [World.cell?, HTC.out]
                  have c0 : wr.cell? ⟨w.heap.size, 0, none⟩ = some (.slice none 0 0) := by simp [World.cell?, HTwr.out]
                  have c1 : wr.cell? ⟨w.heap.size, 1, none⟩ = some (.slice none 0 0) := by simp [World.cell?, HTwr.out]
                  have z0 : wr.frozen? ⟨w.heap.size, 0, none⟩ = false := frozen_of_row _ _ _ _ _ HTwr.out
                  have z1 : wr.frozen? ⟨w.heap.size, 1, none⟩ = false := frozen_of_row _ _ _ _ _ HTwr.out
                  go_wp2_with fail
                  obtain ⟨wz, hwz⟩ : ∃ Z, (wr.setCell ⟨w.heap.size, 0, none⟩ (.slice pv np cv)).setCell ⟨w.heap.size, 1, none⟩ (.slice p2 acq.length c2) = Z := ⟨_, rfl⟩
                  rw [hwz]
                  have HBz := Lib.hid (show Below w.heap.size w wz by rw [← hwz]; exact (HBW.out.setCell (p := ⟨w.heap.size, 0, none⟩) (Nat.le_refl _) _).setCell (p := ⟨w.heap.size, 1, none⟩) (Nat.le_refl _) _)
                  have t1 : (wr.setCell ⟨w.heap.size, 0, none⟩ (.slice pv np cv)).heap[w.heap.size]? = some (.cells #[.slice pv np cv, .slice none 0 0] 36 (0, 0)) := heap_setCell_same _ _ 0 _ _ (.slice pv np cv) HTwr.out
                  have hTz : wz.heap[w.heap.size]? = some (.cells #[.slice pv np cv, .slice p2 acq.length c2] 36 (0, 0)) := by
                    rw [← hwz]; exact heap_setCell_same _ _ 1 _ _ _ t1
                  have HRz := Lib.hid (show StrRow wz (.slice pv np cv) acc by rw [← hwz]; exact (HPR.out.setT HTwr.out 0 _).setT t1 1 _)
                  have HQz := Lib.hid (show PrRow wz (.slice p2 acq.length c2) acq by rw [← hwz]; exact (HPQ.out.setT HTwr.out (by decide) 0 _).setT t1 (by decide) 1 _)
                  have f0 : wz.cell? ⟨w.heap.size, 0, none⟩ = some (.slice pv np cv) := by simp [World.cell?, hTz]
                  have f1 : wz.cell? ⟨w.heap.size, 1, none⟩ = some (.slice p2 acq.length c2) := by simp [World.cell?, hTz]
                  clear hwz t1 hTz
                  refine bodyPost_ret (v := .tuple #[.agg #[.slice pv np cv, .slice p2 acq.length c2], .int .i64 0]) (by simp [results, Tryz.results23, go_sem, f0, f1]) rfl ⟨?_, HBz.out⟩
                  rw [← HO.out, HEQ.out]
                  exact ⟨_, _, rfl, HRz.out, HQz.out⟩
    · have HNO := Lib.hid (Gt.parse_bad (ok_head (s := s.data.toList) (by rw [HHD.out]; exact beq_eq_false_iff_ne.2 hx)))
      have hx' : (x0 == 47) = false := beq_eq_false_iff_ne.2 hx
      have hx2 : (x0 != 47) = true := by unfold bne; rw [hx']; rfl
      clear hx
      go_enter Tryz.func23, Tryz.ntmps23
      go_wp2_with fail
      rw [HW.out]
      go_wp2_with fail

      exact bodyPost_ret (v := .tuple #[.agg #[.slice none 0 0, .slice none 0 0], .int .i64 210]) (by simp [results, Tryz.results23, go_sem, c0, c1]) rfl ⟨by rw [← HO.out, HNO.out]; rfl, HB.out⟩
  · have HNO := Lib.hid (Gt.parse_bad (ok_head (s := s.data.toList) (by
      have h3 : s.data.toList = [] := List.length_eq_zero_iff.1 (by rw [HL.out]; omega)
      rw [h3]; rfl)))
    have hsz : ((s.size : Int) == 0) = true := beq_iff_eq.2 (by omega)
    go_enter Tryz.func23, Tryz.ntmps23
    go_wp2_with fail
    rw [HW.out]
    go_wp2_with fail

    exact bodyPost_ret (v := .tuple #[.agg #[.slice none 0 0, .slice none 0 0], .int .i64 210]) (by simp [results, Tryz.results23, go_sem, c0, c1]) rfl ⟨by rw [← HO.out, HNO.out]; rfl, HB.out⟩
end Go.Proofs.YtfacmnooklljnaaGreatDoor

/- Slices of texts and of pairs that are read; the reference's Same. -/
namespace Go.Proofs.YtfacmnooklljnaaGreatDoor
set_option linter.unusedVariables false
set_option linter.unusedSimpArgs false
open Go.RowKit Go.Shelf
set_option maxHeartbeats 8000000
set_option maxRecDepth 100000
/-- a slice of texts -/
def TS (w : World) (v : Value) (L : List (List UInt8)) : Prop :=
  (∃ p c, v = .slice p 0 c ∧ L = []) ∨ ∃ b off cap, v = .slice (some ⟨b, off, none⟩) L.length cap ∧ ∀ j, j < L.length → w.cell? ⟨b, off + j, none⟩ = some (tx (L.getD j []))
/-- a slice of pairs -/
def PS (w : World) (v : Value) (L : List (List UInt8 × List UInt8)) : Prop :=
  (v = .slice none 0 0 ∧ L = []) ∨ ∃ b off cap, v = .slice (some ⟨b, off, none⟩) L.length cap ∧ ∀ j, j < L.length → w.cell? ⟨b, off + j * 2, none⟩ = some (tx (L.getD j ([], [])).1) ∧ w.cell? ⟨b, off + j * 2 + 1, none⟩ = some (tx (L.getD j ([], [])).2)
theorem TS.below {w w' : World} {v : Value} {L : List (List UInt8)} (h : TS w v L) (k : Below w.heap.size w w') : TS w' v L := by
  rcases h with h | ⟨b, off, cap, h1, h3⟩
  · exact .inl h
  · exact .inr ⟨b, off, cap, h1, fun j hj => cell_below k (h3 j hj)⟩
theorem PS.below {w w' : World} {v : Value} {L : List (List UInt8 × List UInt8)} (h : PS w v L) (k : Below w.heap.size w w') : PS w' v L := by
  rcases h with h | ⟨b, off, cap, h1, h3⟩
  · exact .inl h
  · exact .inr ⟨b, off, cap, h1, fun j hj => ⟨cell_below k (h3 j hj).1, cell_below k (h3 j hj).2⟩⟩
theorem TS.of {w : World} {v : Value} {L : List (List UInt8)} (h : StrRow w v L) : TS w v L := by
  obtain ⟨p, cap, rfl, h⟩ := h
  rcases h with h | ⟨g, rfl, hc⟩
  · exact .inl ⟨p, cap, by rw [h], List.length_eq_zero_iff.1 h⟩
  · refine .inr ⟨g, 0, cap, rfl, fun j hj => ?_⟩
    rw [Nat.zero_add]; exact hc j hj
theorem prs_get : ∀ (L : List (List UInt8 × List UInt8)) (j : Nat), j < L.length → (prs L)[j * 2]? = some (tx (L.getD j ([], [])).1) ∧ (prs L)[j * 2 + 1]? = some (tx (L.getD j ([], [])).2)
  | p :: L, 0, _ => ⟨rfl, rfl⟩
  | p :: L, j + 1, h => by
    have := prs_get L j (by simpa using h)
    have e : prs (p :: L) = tx p.1 :: tx p.2 :: prs L := rfl
    rw [e, show (j + 1) * 2 = j * 2 + 1 + 1 by omega]
    simpa using this
theorem PS.of {w : World} {v : Value} {L : List (List UInt8 × List UInt8)} (h : PrRow w v L) : PS w v L := by
  obtain ⟨B, hl, h⟩ := h
  rcases h with ⟨rfl, h0⟩ | ⟨g, cap, cur, rfl, _, hg, hc, _, hs, ht⟩
  · exact .inl ⟨rfl, List.length_eq_zero_iff.1 h0⟩
  · refine .inr ⟨g, 0, cap, rfl, fun j hj => ?_⟩
    have hp := prs_get L j hj
    rw [Nat.zero_add, ← ht, List.getElem?_take_of_lt (by omega), List.getElem?_take_of_lt (by omega)] at *
    refine ⟨?_, ?_⟩
    · rw [← hp.1]; simp [World.cell?, hg]
    · rw [← hp.2]; simp [World.cell?, hg]
theorem TS.slice {w : World} {v : Value} {L : List (List UInt8)} (h : TS w v L) : ∃ p c, v = .slice p L.length c := by
  rcases h with ⟨p, c, rfl, rfl⟩ | ⟨b, off, cap, rfl, _⟩
  · exact ⟨_, _, rfl⟩
  · exact ⟨_, _, rfl⟩
theorem PS.slice {w : World} {v : Value} {L : List (List UInt8 × List UInt8)} (h : PS w v L) : ∃ p c, v = .slice p L.length c := by
  rcases h with ⟨rfl, rfl⟩ | ⟨b, off, cap, rfl, _⟩
  · exact ⟨_, _, rfl⟩
  · exact ⟨_, _, rfl⟩
theorem TS.cells {w : World} {p : Option Addr} {n c : Nat} {L : List (List UInt8)} (h : TS w (.slice p n c) L) {k : Nat} (hk : k < L.length) : ∃ b off, p = some ⟨b, off, none⟩ ∧ ∀ j, j < L.length → w.cell? ⟨b, off + j, none⟩ = some (tx (L.getD j [])) := by
  rcases h with ⟨p, c, _, rfl⟩ | ⟨b, off, cap, h1, h3⟩
  · simp at hk
  · refine ⟨b, off, by injection h1, h3⟩
theorem PS.cells {w : World} {p : Option Addr} {n c : Nat} {L : List (List UInt8 × List UInt8)} (h : PS w (.slice p n c) L) {k : Nat} (hk : k < L.length) : ∃ b off, p = some ⟨b, off, none⟩ ∧ ∀ j, j < L.length → w.cell? ⟨b, off + j * 2, none⟩ = some (tx (L.getD j ([], [])).1) ∧ w.cell? ⟨b, off + j * 2 + 1, none⟩ = some (tx (L.getD j ([], [])).2) := by
  rcases h with ⟨_, rfl⟩ | ⟨b, off, cap, h1, h3⟩
  · simp at hk
  · refine ⟨b, off, by injection h1, h3⟩
theorem take_getD {α : Type} (L : List α) (d : α) (k : Nat) (h : k < L.length) : L.take (k + 1) = L.take k ++ [L.getD k d] := by
  rw [List.take_succ_eq_append_getElem h, List.getD_eq_getElem?_getD, List.getElem?_eq_getElem h]; rfl
end Go.Proofs.YtfacmnooklljnaaGreatDoor

/- slices.Equal at texts and at pairs; target.Same. -/
namespace Go.Proofs.YtfacmnooklljnaaGreatDoor
set_option linter.unusedVariables false
set_option linter.unusedSimpArgs false
open Go.RowKit Go.Shelf
set_option maxHeartbeats 8000000
set_option maxRecDepth 100000
end Go.Proofs.YtfacmnooklljnaaGreatDoor

/- slices.Clone at pairs; slices.All at pairs and its iterator. -/
namespace Go.Proofs.YtfacmnooklljnaaGreatDoor
set_option linter.unusedVariables false
set_option linter.unusedSimpArgs false
open Go.RowKit Go.Shelf
attribute [local go_sem] Oper.semAt_some
set_option maxHeartbeats 8000000
set_option maxRecDepth 100000
end Go.Proofs.YtfacmnooklljnaaGreatDoor

/- target: Pairs and its iterator. -/
namespace Go.Proofs.YtfacmnooklljnaaGreatDoor
set_option linter.unusedVariables false
set_option linter.unusedSimpArgs false
open Go.RowKit Go.Shelf
attribute [local go_sem] Oper.semAt_some
set_option maxHeartbeats 8000000
set_option maxRecDepth 100000
end Go.Proofs.YtfacmnooklljnaaGreatDoor

/- target: caught, of a frame that a range over a function has marked; WriteString, and what it leaves. -/
namespace Go.Proofs.YtfacmnooklljnaaGreatDoor
set_option linter.unusedVariables false
set_option linter.unusedSimpArgs false
open Go.RowKit Go.Shelf
set_option maxHeartbeats 4000000
set_option maxRecDepth 100000
end Go.Proofs.YtfacmnooklljnaaGreatDoor

/- A drawn region inside a round of a range over a function, by what its slots hold. -/
namespace Go.Proofs.YtfacmnooklljnaaGreatDoor
set_option linter.unusedVariables false
set_option linter.unusedSimpArgs false
open Go.RowKit
section
variable {P : Program} {ops : Array Oper} {Q : Exit → Act → World → Prop}
end
end Go.Proofs.YtfacmnooklljnaaGreatDoor

/- What a builder's WriteString leaves: all that is no bytes, but the builder. -/
namespace Go.Proofs.YtfacmnooklljnaaGreatDoor
set_option linter.unusedVariables false
set_option linter.unusedSimpArgs false
open Go.RowKit Go.Shelf
set_option maxHeartbeats 4000000
set_option maxRecDepth 100000
/-- cells that are no bytes stand, but for the blocks of Z -/
def KT (Z : Nat → Prop) (X Y : World) : Prop := ∀ k cs t fr, X.heap[k]? = some (.cells cs t fr) → t ≠ 5 → ¬ Z k → Y.heap[k]? = some (.cells cs t fr)
theorem KT.refl (Z : Nat → Prop) (X : World) : KT Z X X := fun _ _ _ _ h _ _ => h
theorem KT.trans {Z : Nat → Prop} {X Y V : World} (h : KT Z X Y) (k : KT Z Y V) : KT Z X V := fun i cs t fr h1 h2 h3 => k i cs t fr (h i cs t fr h1 h2 h3) h2 h3
theorem KT.mono {Z Z' : Nat → Prop} {X Y : World} (h : KT Z X Y) (hz : ∀ k, Z k → Z' k) : KT Z' X Y := fun i cs t fr h1 h2 h3 => h i cs t fr h1 h2 (fun e => h3 (hz i e))
theorem KT.setCell {Z : Nat → Prop} (X : World) (b i : Nat) (v : Value) (hz : Z b) : KT Z X (X.setCell ⟨b, i, none⟩ v) := fun k cs t fr h1 h2 h3 => (Below.heap_setCell _ _ _ k (fun e => h3 (by have e2 : k = b := e; rw [e2]; exact hz))).trans h1
theorem KT.below {Z : Nat → Prop} {X Y : World} (h : Below X.heap.size X Y) : KT Z X Y := fun k cs t fr h1 _ _ => (h.block k (Array.getElem?_eq_some_iff.1 h1).1).trans h1
theorem KT.drew {Z : Nat → Prop} (X : World) : KT Z X X.drew := fun _ _ _ _ h _ _ => h
theorem KT.putObj {Z : Nat → Prop} {X : World} {l : Nat} {o : Obj} (o' : Obj) (h : X.heap[l]? = some o) (hc : o.isCells = false) : KT Z X (X.putObj l o') := fun k cs t fr h1 _ _ => (World.putObj_heap_other (fun e => by subst e; rw [h] at h1; cases h1; cases hc)).trans h1
theorem KT.grown {Z : Nat → Prop} {X Y : World} {row : Option Nat} (h : X.grownBy Y row) (hr : ∀ g, row = some g → ∀ cs t fr, X.heap[g]? = some (.cells cs t fr) → t = 5) : KT Z X Y :=
  fun k cs t fr h1 h2 _ => (h.block k (Array.getElem?_eq_some_iff.1 h1).1 (fun e => h2 (hr k e.symm cs t fr h1))).trans h1
end Go.Proofs.YtfacmnooklljnaaGreatDoor

/- A drawn region whose last operation waits for all others: plain, and inside a round of a range over a function. -/
namespace Go.Proofs.YtfacmnooklljnaaGreatDoor
set_option linter.unusedVariables false
set_option linter.unusedSimpArgs false
open Go.RowKit
section
variable {P : Program} {ops : Array Oper} {Q : Exit → Act → World → Prop}
end
end Go.Proofs.YtfacmnooklljnaaGreatDoor

/- target: Text. -/
namespace Go.Proofs.YtfacmnooklljnaaGreatDoor
set_option linter.unusedVariables false
set_option linter.unusedSimpArgs false
open Go.RowKit Go.Shelf
attribute [local go_sem] Oper.semAt_some
set_option maxHeartbeats 8000000
set_option maxRecDepth 100000
namespace Gt
def by_ (k : Nat) : UInt8 := if k = 0 then 63 else 38
end Gt
theorem BD.below {b base : Nat} {X Y : World} {p : Value} {bs : List Value} (h : BD X b base p bs) (hb : Below X.heap.size X Y) : BD Y b base p bs := by
  obtain ⟨v, h1, h2⟩ := h
  exact ⟨v, (hb.block _ (Array.getElem?_eq_some_iff.1 h1).1).trans h1, h2.belowed hb⟩
/-- what the slots of the round's region hold -/
def TxF (byb kb ek vb ev : ByteArray) : Nat → World → Value → Prop
  | 0, _, v => v = .string byb
  | 1, _, v => v = .string kb
  | 2, _, v => v = .string ek
  | 3, _, v => v = .string (byb ++ ek)
  | 4, _, v => v = .string (byb ++ ek ++ (⟨#[61]⟩ : ByteArray))
  | 5, _, v => v = .string vb
  | 6, _, v => v = .string ev
  | 7, _, v => v = .string (byb ++ ek ++ (⟨#[61]⟩ : ByteArray) ++ ev)
  | _, _, _ => False
theorem TxF.below {byb kb ek vb ev : ByteArray} (i : Nat) (w w' : World) (v : Value) (h : TxF byb kb ek vb ev i w v) (hb : Below w.heap.size w w') : TxF byb kb ek vb ev i w' v := by
  match i, h with
  | 0, h | 1, h | 2, h | 3, h | 4, h | 5, h | 6, h | 7, h => exact h
  | n + 8, h => exact h.elim
end Go.Proofs.YtfacmnooklljnaaGreatDoor

/- The reference's plain, Encode. -/
namespace Go.Proofs.YtfacmnooklljnaaGreatDoor
set_option linter.unusedVariables false
set_option linter.unusedSimpArgs false
open Go.RowKit Go.Shelf
set_option maxHeartbeats 4000000
set_option maxRecDepth 100000
end Go.Proofs.YtfacmnooklljnaaGreatDoor

/- The reference's path and text of a target. -/
namespace Go.Proofs.YtfacmnooklljnaaGreatDoor
set_option linter.unusedVariables false
set_option linter.unusedSimpArgs false
open Go.RowKit Go.Shelf
set_option maxHeartbeats 8000000
set_option maxRecDepth 100000
namespace Gt
/-- a target's path: its parts, each behind a slash -/
def jpath (P : List (List UInt8)) : List UInt8 := P.flatMap fun p => 47 :: p
theorem jpath_len : ∀ (P : List (List UInt8)), (∀ p ∈ P, p.length ≤ 300) → (jpath P).length ≤ P.length * 301
  | [], _ => by simp [jpath]
  | p :: P, h => by
    have h1 := jpath_len P (fun q hq => h q (List.mem_cons_of_mem _ hq))
    have h2 := h p List.mem_cons_self
    have e : jpath (p :: P) = 47 :: p ++ jpath P := by unfold jpath; rw [List.flatMap_cons]
    rw [e]; simp; omega
end Gt
theorem ba_of (T : ByteArray) (l : List UInt8) (h : T.data.toList = l) : T = ⟨l.toArray⟩ := by cases T; subst h; simp
end Go.Proofs.YtfacmnooklljnaaGreatDoor

/- The law's num and works. -/
namespace Go.Proofs.YtfacmnooklljnaaGreatDoor
set_option linter.unusedVariables false
set_option linter.unusedSimpArgs false
open Go.RowKit Go.Shelf
set_option maxHeartbeats 8000000
set_option maxRecDepth 100000
end Go.Proofs.YtfacmnooklljnaaGreatDoor

/- The law's works. -/
namespace Go.Proofs.YtfacmnooklljnaaGreatDoor
set_option linter.unusedVariables false
set_option linter.unusedSimpArgs false
open Go.RowKit Go.Shelf
set_option maxHeartbeats 8000000
set_option maxRecDepth 100000
theorem StrRow.slice {w : World} {v : Value} {L : List (List UInt8)} (h : StrRow w v L) : ∃ p c, v = .slice p L.length c := by
  obtain ⟨p, c, rfl, _⟩ := h
  exact ⟨p, c, rfl⟩
end Go.Proofs.YtfacmnooklljnaaGreatDoor

/- What Parse and the reference's Parse answer, in one form; bounds of what is read. -/
namespace Go.Proofs.YtfacmnooklljnaaGreatDoor
set_option linter.unusedVariables false
set_option linter.unusedSimpArgs false
open Go.RowKit Go.Shelf
set_option maxHeartbeats 2000000
set_option maxRecDepth 100000
namespace Gt
abbrev Tg := List (List UInt8) × List (List UInt8 × List UInt8)
def tgOf (o : Option Tg) : Tg := o.getD ([], [])
def noOf (o : Option Tg) : Int := if o.isSome then 0 else 210
theorem parse_bound {s : List UInt8} {P : List (List UInt8)} {Q : List (List UInt8 × List UInt8)} (h : parse s = some (P, Q)) :
    P.length ≤ s.length + 1 ∧ Q.length ≤ s.length + 1 ∧ (∀ p ∈ P, p.length ≤ s.length) ∧ ∀ q ∈ Q, q.1.length ≤ s.length ∧ q.2.length ≤ s.length := by
  cases hok : ok s with
  | false => rw [parse_bad hok] at h; cases h
  | true =>
    cases hs : all? seg (segs s) with
    | none => rw [parse_segs hok hs] at h; cases h
    | some R =>
      rw [parse_is hok hs] at h
      cases hq : all? pairOf (qrys s) with
      | none => rw [hq] at h; cases h
      | some V =>
        rw [hq] at h
        cases h
        have hl1 : ((s.take (Gs.pos 63 s)).drop 1).length ≤ s.length := by rw [List.length_drop, List.length_take]; omega
        have hl2 : (s.drop (Gs.pos 63 s + 1)).length ≤ s.length := by rw [List.length_drop]; omega
        refine ⟨?_, ?_, fun p hp => ?_, fun q hq' => ?_⟩
        · rw [all_length hs]
          have := Gs.parts_many 47 ((s.take (Gs.pos 63 s)).drop 1) []
          unfold segs
          omega
        · rw [all_length hq]
          have h1 := Gs.parts_many 38 (s.drop (Gs.pos 63 s + 1)) []
          have h2 := List.length_filter_le (fun l : List UInt8 => !l.isEmpty) (Gs.parts 38 [] (s.drop (Gs.pos 63 s + 1)))
          unfold qrys
          omega
        · obtain ⟨x, hx, hsx⟩ := all_each hs p hp
          have h1 := Gs.parts_len 47 _ [] x hx
          unfold seg at hsx
          cases hd : dec false x with
          | none => rw [hd] at hsx; cases hsx
          | some y =>
            rw [hd] at hsx
            simp only at hsx
            split at hsx
            · cases hsx
              have h2 := dec_length false _ x p (Nat.le_refl _) hd
              rw [List.length_nil, Nat.zero_add] at h1
              omega
            · cases hsx
        · obtain ⟨x, hx, hpx⟩ := all_each hq q hq'
          have hx' := (List.mem_filter.1 hx).1
          have h1 := Gs.parts_len 38 _ [] x hx'
          unfold pairOf at hpx
          cases hd : dec true (x.take (Gs.pos 61 x)) with
          | none => rw [hd] at hpx; cases hpx
          | some k =>
            rw [hd] at hpx
            simp only at hpx
            cases he : dec true (x.drop (Gs.pos 61 x + 1)) with
            | none => rw [he] at hpx; cases hpx
            | some v =>
              rw [he] at hpx
              cases hpx
              have h2 := dec_length true _ _ k (Nat.le_refl _) hd
              have h3 := dec_length true _ _ v (Nat.le_refl _) he
              rw [List.length_take] at h2
              rw [List.length_drop] at h3
              rw [List.length_nil, Nat.zero_add] at h1
              exact ⟨by simp only; omega, by simp only; omega⟩
theorem tg_bound (s : List UInt8) : (tgOf (parse s)).1.length ≤ s.length + 1 ∧ (tgOf (parse s)).2.length ≤ s.length + 1 ∧ (∀ p ∈ (tgOf (parse s)).1, p.length ≤ s.length) ∧ ∀ q ∈ (tgOf (parse s)).2, q.1.length ≤ s.length ∧ q.2.length ≤ s.length := by
  cases h : parse s with
  | none => exact ⟨by simp [tgOf], by simp [tgOf], fun p hp => by simp [tgOf] at hp, fun q hq => by simp [tgOf] at hq⟩
  | some r => exact parse_bound h
end Gt
/-- what both answer -/
def TgOut (w : World) (o : Option Gt.Tg) (e : Ending) : Prop :=
  ∃ p c q d, e = .returned (.tuple #[.agg #[.slice p (Gt.tgOf o).1.length c, .slice q (Gt.tgOf o).2.length d], .int .i64 (Gt.noOf o)]) ∧ TS w (.slice p (Gt.tgOf o).1.length c) (Gt.tgOf o).1 ∧ PS w (.slice q (Gt.tgOf o).2.length d) (Gt.tgOf o).2
theorem tgOut_of {w : World} {o : Option Gt.Tg} {e : Ending} (h : ParseOut w o e) : TgOut w o e := by
  cases o with
  | none =>
    have h : e = _ := h
    subst h
    exact ⟨none, 0, none, 0, rfl, .inl ⟨none, 0, rfl, rfl⟩, .inl ⟨rfl, rfl⟩⟩
  | some r =>
    obtain ⟨P, Q⟩ := r
    obtain ⟨vp, vq, rfl, h1, h2⟩ := h
    have h3 := PS.of h2
    obtain ⟨p, c, rfl⟩ := h1.slice
    obtain ⟨q, d, rfl⟩ := h3.slice
    exact ⟨p, c, q, d, rfl, TS.of h1, h3⟩
theorem rparse_any (s : ByteArray) (w : World) (hs : s.size ≤ 90000) :
    Calls Tryz.prog 23 #[.string s] w fun e w' => TgOut w' (Gt.parse s.data.toList) e ∧ Below w.heap.size w w' :=
  (ref_Parse s w hs).mono fun e w' ⟨h1, h2⟩ => ⟨tgOut_of h1, h2⟩
theorem ba_back (s : ByteArray) : (⟨s.data.toList.toArray⟩ : ByteArray) = s := by cases s; simp
end Go.Proofs.YtfacmnooklljnaaGreatDoor

/- Of a text that is taken the target's text is no longer than three times that; targets that come in. -/
namespace Go.Proofs.YtfacmnooklljnaaGreatDoor
set_option linter.unusedVariables false
set_option linter.unusedSimpArgs false
open Go.RowKit Go.Shelf
set_option maxHeartbeats 2000000
set_option maxRecDepth 100000
namespace Gt
end Gt
section
variable {H : Type} {enc : TypeId × Value → H} {w : World} {base : Nat} {spare : Nat → Bool} {held : Bool}
open Go.ChangeShapes Go.WideShapes
end
end Go.Proofs.YtfacmnooklljnaaGreatDoor

/- The law's few: a target that is looked at is small. -/
namespace Go.Proofs.YtfacmnooklljnaaGreatDoor
set_option linter.unusedVariables false
set_option linter.unusedSimpArgs false
open Go.RowKit Go.Shelf
set_option maxHeartbeats 8000000
set_option maxRecDepth 100000
end Go.Proofs.YtfacmnooklljnaaGreatDoor

/- TargetHolds returns true for any target and any text: the walk. -/
namespace Go.Proofs.YtfacmnooklljnaaGreatDoor
set_option linter.unusedVariables false
set_option linter.unusedSimpArgs false
open Go.RowKit Go.Shelf
set_option maxHeartbeats 8000000
set_option maxRecDepth 100000
theorem TS.sr {w : World} {v : Value} {L : List (List UInt8)} (h : TS w v L) : SR w v (L.map fun l => ⟨l.toArray⟩) := by
  rcases h with ⟨p, c, rfl, rfl⟩ | ⟨b, off, cap, rfl, h3⟩
  · exact .inl ⟨p, c, rfl, rfl⟩
  · cases L with
    | nil => exact .inl ⟨some ⟨b, off, none⟩, cap, rfl, rfl⟩
    | cons x L =>
      have h0 := h3 0 (by simp)
      refine .inr ⟨b, off, cap, by simp, lt_of_cell h0, fun j hj => ?_⟩
      rw [List.length_map] at hj
      rw [h3 j hj, List.getElem_map]
      simp only [tx, List.getD_eq_getElem?_getD, List.getElem?_eq_getElem hj, Option.getD_some]
end Go.Proofs.YtfacmnooklljnaaGreatDoor

/- target.Path of parts. -/
namespace Go.Proofs.YtfacmnooklljnaaGreatDoor
set_option linter.unusedVariables false
set_option linter.unusedSimpArgs false
open Go.RowKit Go.Shelf
set_option maxHeartbeats 8000000
set_option maxRecDepth 100000
theorem tg_madeO (f : FuncId) (g : List UInt8 → Option (List UInt8)) (v : Value) (L : List ByteArray) (w : World) (hv : SR w v L) (hL : L.length ≤ 100000)
    (hce : ∀ args W, (callFunc f args).run Tryz.prog W = .ok (.enter f args) W)
    (hf : ∀ s ∈ L, ∀ W, Calls Tryz.prog f #[.string s] W fun e w' => e = decEnd (g s.data.toList) ∧ Below W.heap.size W w') :
    Calls Tryz.prog 49 #[.func (.func f) #[] #[], v] w fun e w' =>
      ((∃ R r, Gt.all? g (L.map (·.data.toList)) = some R ∧ e = .returned r ∧ ∃ B, w'.ownsRow B 9 1 r R.length (R.map tx)) ∨ (Gt.all? g (L.map (·.data.toList)) = none ∧ e = .panicked [{ v := errno 210, recovered := false }])) ∧ Below w.heap.size w w' := by
  obtain ⟨i0, hi, hz0, hz1, hz2⟩ := info_parts (show (Tryz.prog.info? 9).map (fun i => (i.zero, i.size, i.bytes)) = some (some (.string ByteArray.empty), 1, 16) by kernel_rfl)
  obtain ⟨B, hB⟩ : ∃ B, w.heap.size = B := ⟨_, rfl⟩
  rw [hB]
  rcases hv with ⟨p0, c0, rfl, rfl⟩ | ⟨b, off, cap, rfl, hb, hc⟩
  · go_enter Tryz.func49, Tryz.ntmps49
    go_wp2_with fail
    go_loopw [4, 9] (fun v i wr => v = .slice none 0 0 ∧ i = .int .i64 0 ∧ wr = w) (fun _ _ _ => 0)
    case atStart => exact ⟨rfl, rfl, rfl⟩
    case round =>
      obtain ⟨rfl, rfl, rfl⟩ := hrel
      go_wp2_with fail
      go_ret
      exact ⟨.inl ⟨[], _, rfl, rfl, ⟨0, World.ownsRow_nil _ _ _ _⟩⟩, Below.refl _ _⟩
  · have HC := Lib.hid hc
    have HF := Lib.hid hf
    obtain ⟨N, hN⟩ : ∃ N, L.length = N := ⟨_, rfl⟩
    have HNL := Lib.hid hN
    have HBB := Lib.hid hb
    rw [hN] at hL ⊢
    obtain ⟨M, hM⟩ : ∃ M, L.map (·.data.toList) = M := ⟨_, rfl⟩
    rw [hM]
    have HML := Lib.hid (show M.length = N by rw [← hM, List.length_map, hN])
    have HM := Lib.hid hM
    clear hc hf hM hN hb
    go_enter Tryz.func49, Tryz.ntmps49
    go_wp2_with fail
    go_loopw [4, 9] (fun v i wr => ∃ (k : Nat) (acc : List (List UInt8)), k ≤ N ∧ i = .int .i64 k ∧ Gt.AAt g M acc k ∧ wr.ownsRow B 9 1 v acc.length (acc.map tx) ∧ Below B w wr)
      (fun _ i _ => N - (intOf i).toNat)
    case atStart => exact ⟨0, [], Nat.zero_le _, rfl, Gt.aAt_start _ _, World.ownsRow_nil _ _ _ _, Below.refl _ _⟩
    case round =>
      obtain ⟨k, acc, hk, rfl, hat, hown, hbl⟩ := hrel
      have HA := Lib.hid hat
      have HO := Lib.hid hown
      have HBL := Lib.hid hbl
      clear hat hown hbl
      by_cases hlt : k < N
      · have hkl : k < L.length := by have := HNL.out; omega
        have HBW := Lib.hid (show b < B by rw [← hB]; exact HBB.out)
        have hck : wr.cell? ⟨b, off + k, none⟩ = some (.string L[k]) := (HBL.out.cell (p := ⟨b, off + k, none⟩) HBW.out).trans (HC.out k hkl)
        obtain ⟨S, hS⟩ : ∃ S, L[k] = S := ⟨_, rfl⟩
        rw [hS] at hck
        have HKM := Lib.hid (show k < M.length by rw [HML.out]; exact hlt)
        have HMK := Lib.hid (show M[k]'HKM.out = S.data.toList by
          have : M[k]? = some S.data.toList := by rw [← HM.out, List.getElem?_map, List.getElem?_eq_getElem hkl, hS]; rfl
          exact (List.getElem?_eq_some_iff.1 this).2)
        have K := Lib.hid (HF.out S (by rw [← hS]; exact List.getElem_mem _) wr)
        clear hS hkl
        cases hg : g S.data.toList with
        | none =>
          rw [hg] at K
          have HN := Lib.hid (Gt.aAt_bad HA.out HKM.out (by rw [HMK.out]; exact hg))
          clear hg
          go_wp2_with fail
          refine K.out.mono ?_
          rintro e w2 ⟨rfl, hb2⟩
          exact ⟨rfl, .inr ⟨HN.out, rfl⟩, HBL.out.trans (hb2.mono (hB ▸ HBL.out.size))⟩
        | some q =>
          rw [hg] at K
          have HN := Lib.hid (Gt.aAt_next HA.out HKM.out (by rw [HMK.out]; exact hg))
          clear hg
          go_wp2_with fail
          refine K.out.mono ?_
          rintro e w2 ⟨rfl, hb2⟩
          have HB2 := Lib.hid (HBL.out.trans (hb2.mono (hB ▸ HBL.out.size)))
          have HO2 := Lib.hid (show w2.ownsRow B 9 1 _ acc.length (acc.map tx) from HO.out.belowed hb2)
          simp only [decEnd]
          obtain ⟨qb, hqb⟩ : ∃ z : ByteArray, (⟨q.toArray⟩ : ByteArray) = z := ⟨_, rfl⟩
          rw [hqb]
          have HTQ := Lib.hid (show tx q = .string qb by unfold tx; rw [hqb])
          clear hb2 hqb K
          go_wp2_with (at_builtin; refine wpList_append_own _ rfl _ _ 33 rfl B 9 i0 (.string ByteArray.empty) 1 16 Tryz.underlying33 hi hz0 hz1 hz2 rfl (by decide) _ _ _ rfl (HO2.out.alloc _) ⟨w2.heap.size, 0, none⟩ 1 1 [.string qb] rfl rfl ?c1 ?c2 ?c3 ?c4 ?c5 ?_)
          case c1 =>
            intro j u hj
            match j, hj with
            | 0, hj => simp at hj; subst hj; simp [Addr.add]
          case c2 => intro u hu; simp at hu; subst hu; rfl
          case c3 => have := HA.out.2.1; unfold maxLen; omega
          case c4 => have := HA.out.2.1; omega
          case c5 => have := HB2.out.size; simp; omega
          intro v' w3 hown' hgrow _
          have HB3 := Lib.hid (show Below B w w3 from Below.grown (HB2.out.alloc (by have := HB2.out.size; omega) _) hgrow (by have := HB2.out.size; simp; omega) (own_ge HO2.out))
          have HO3 := Lib.hid (show w3.ownsRow B 9 1 v' (acc ++ [q]).length ((acc ++ [q]).map tx) by
            rw [List.map_append, List.length_append]
            show w3.ownsRow B 9 1 v' _ (_ ++ [tx q])
            rw [HTQ.out]
            exact hown')
          clear hgrow hown'
          go_wp2
          go_roundw
          case rel => exact ⟨k + 1, acc ++ [q], hlt, by go_num, HN.out, HO3.out, HB3.out⟩
          case measure => simp [intOf]; omega
      · have HE := Lib.hid (Gt.aAt_end HA.out (by rw [HML.out]; omega))
        go_wp2_with fail
        go_ret
        exact ⟨.inl ⟨acc, _, HE.out, rfl, ⟨_, HO.out⟩⟩, HBL.out⟩
theorem tg_path1 (s : ByteArray) (w : World) (hs : s.size ≤ 100000) :
    Calls Tryz.prog 138 #[.string s] w fun e w' => e = decEnd (some (47 :: s.data.toList)) ∧ Below w.heap.size w w' := by
  have HQ := Lib.hid (show (⟨#[47]⟩ ++ s : ByteArray) = ⟨(47 :: s.data.toList).toArray⟩ from ba_of _ _ (by simp [ByteArray.data_append]))
  go_enter Tryz.func138, Tryz.ntmps138
  go_wp2_with fail
  go_ret
  refine ⟨?_, Below.refl _ _⟩
  show Ending.returned (.string (⟨#[47]⟩ ++ s)) = Ending.returned (.string ⟨(47 :: s.data.toList).toArray⟩)
  rw [HQ.out]
theorem path1_enter (args : Array Value) (W : World) : (callFunc 138 args).run Tryz.prog W = .ok (.enter 138 args) W := by
  simp [callFunc, go_sem, Tryz.func138]
  rw [if_neg (by decide), if_neg (by decide)]
namespace Gt
theorem join_none : ∀ L : List (List UInt8), Lib.join L [] = L.flatten
  | [] => rfl
  | [x] => by simp [Lib.join]
  | x :: y :: L => by
    have h := join_none (y :: L)
    unfold Lib.join at h ⊢
    rw [List.intercalate_cons_cons, h]; simp
theorem join_path (P : List (List UInt8)) : Lib.join (P.map fun p => 47 :: p) [] = jpath P := by
  rw [join_none]; unfold jpath; rw [List.flatMap_def]
theorem all_const {α β : Type} (f : α → β) : ∀ L : List α, all? (fun x => some (f x)) L = some (L.map f)
  | [] => rfl
  | x :: L => by unfold all?; simp [all_const f L]
end Gt
theorem join_path_own {w : World} {B : Nat} {v : Value} (L : List (List UInt8)) (h : w.ownsRow B 9 1 v L.length (L.map tx)) (hj : (Lib.join L []).length ≤ 140737488355328) (hl : L.length ≤ 100000) :
    Calls Tryz.prog 115 #[v, .string ⟨#[]⟩] w fun e w' => e = .returned (.string ⟨(Lib.join L []).toArray⟩) ∧ Below w.heap.size w w' := by
  cases L with
  | nil =>
    rcases h.2 with ⟨rfl, h0⟩ | ⟨g, cap, cur, rfl, hBg, hg, hnc, _, hcs, htk⟩
    · exact (Tryz.strings_Join_none none 0 ⟨#[]⟩ w).mono (fun e w' h => ⟨h.1, by rw [h.2]; exact Below.refl _ _⟩)
    · exact (Tryz.strings_Join_none _ _ ⟨#[]⟩ w).mono (fun e w' h => ⟨h.1, by rw [h.2]; exact Below.refl _ _⟩)
  | cons x L' =>
    obtain ⟨L, hL⟩ : ∃ L, x :: L' = L := ⟨_, rfl⟩
    have hp : 0 < L.length := by rw [← hL]; simp
    rw [hL] at h hj hl ⊢
    rcases h.2 with ⟨rfl, h0⟩ | ⟨g, cap, cur, rfl, hBg, hg, hnc, _, hcs, htk⟩
    · omega
    · have hlt : g < w.heap.size := (Array.getElem?_eq_some_iff.1 hg).1
      have hm : (L.map fun l => (⟨l.toArray⟩ : ByteArray)).map (·.data.toList) = L := by
        rw [List.map_map]
        conv => rhs; rw [← List.map_id L]
        refine List.map_congr_left (fun l _ => ?_)
        simp
      have K := Tryz.strings_Join g 0 cap (L.map fun l => (⟨l.toArray⟩ : ByteArray)) ⟨#[]⟩ w (fun j x hx => by
        rw [List.getElem?_map] at hx
        cases hLj : L[j]? with
        | none => rw [hLj] at hx; cases hx
        | some l =>
          rw [hLj] at hx
          cases hx
          have hjl : j < L.length := (List.getElem?_eq_some_iff.1 hLj).1
          have h1 : cur.toList[j]? = some (tx l) := by
            have h2 : (cur.toList.take (L.length * 1))[j]? = some (tx l) := by rw [htk, List.getElem?_map, hLj]; rfl
            rwa [List.getElem?_take_of_lt (by omega)] at h2
          rw [Nat.zero_add]
          simp only [World.cell?, hg, Option.isSome_none, Bool.false_eq_true, if_false]
          rw [Array.getElem?_toList] at h1
          exact h1) hlt (by rw [List.length_map]; omega) (by rw [List.length_map]; exact hnc) (by rw [hm]; exact hj)
      rw [hm, List.length_map] at K
      exact K
theorem tg_Path (v1 : Value) (P : List (List UInt8)) (w : World) (h1 : TS w v1 P) (hP : P.length ≤ 300) (hs : ∀ p ∈ P, p.length ≤ 300) (p2 : Option Addr) (n2 c2 : Nat) :
    Calls Tryz.prog 113 #[.agg #[v1, .slice p2 n2 c2]] w fun e w' => e = .returned (.string ⟨(Gt.jpath P).toArray⟩) ∧ Below w.heap.size w w' := by
  obtain ⟨p1, c1, rfl⟩ := h1.slice
  obtain ⟨n1, hn1⟩ : ∃ n, P.length = n := ⟨_, rfl⟩
  have hJL : (Gt.jpath P).length ≤ 140737488355328 := by
    have h1 := Gt.jpath_len P hs
    have h3 := Nat.mul_le_mul_right 301 hP
    omega
  obtain ⟨W1, hW1⟩ : ∃ Z, w.alloc (.cells #[.slice p1 n1 c1, .slice p2 n2 c2] 36) = Z := ⟨_, rfl⟩
  have hb1 : Below w.heap.size w W1 := by rw [← hW1]; exact (Below.refl _ _).alloc (Nat.le_refl _) _
  have KM := tg_madeO 138 (fun l => some (47 :: l)) _ _ W1 (h1.below hb1).sr (by simp; omega) path1_enter (fun s hs' W => tg_path1 s W (by
    obtain ⟨p, hp, rfl⟩ := List.mem_map.1 hs'
    have := hs p hp
    simp [ByteArray.size]; omega))
  rw [Gt.all_const, List.map_map, List.map_map, show ((List.cons 47 ∘ fun x : ByteArray => x.data.toList) ∘ fun l : List UInt8 => (⟨l.toArray⟩ : ByteArray)) = (fun p => 47 :: p) from by funext l; simp, hn1] at KM
  rw [hn1] at h1 ⊢
  have hA : W1.heap[w.heap.size]? = some (.cells #[.slice p1 n1 c1, .slice p2 n2 c2] 36 (0, 0)) := by
    rw [← hW1]; exact World.alloc_heap_new _ _
  have a0 : W1.cell? ⟨w.heap.size, 0, none⟩ = some (.slice p1 n1 c1) := by simp [World.cell?, hA]
  have HB := Lib.hid hb1
  have HK := Lib.hid KM
  have HW := Lib.hid hW1
  have HN1 := Lib.hid hn1
  have HJL := Lib.hid hJL
  clear h1 hb1 KM hA hW1 hs hn1 hJL
  go_enter Tryz.func113, Tryz.ntmps113
  go_wp2_with fail
  rw [HW.out]
  refine HK.out.mono ?_
  rintro e w2 ⟨⟨R, r, hR, rfl, hrow⟩ | ⟨hR, _⟩, hb2⟩
  · cases hR
    obtain ⟨B, hrow⟩ := hrow
    have KJ := Lib.hid (join_path_own _ hrow (by rw [Gt.join_path]; exact HJL.out) (by have := HN1.out; rw [List.length_map]; omega))
    have HB2 := Lib.hid (HB.out.trans (hb2.mono HB.out.size))
    obtain ⟨pr, cr, hr⟩ := own_slice hrow
    rw [List.length_map, HN1.out] at hr
    subst hr
    rw [Gt.join_path] at KJ
    clear hrow hb2 a0
    go_wp2_with fail
    refine KJ.out.mono ?_
    rintro e w3 ⟨rfl, hb3⟩
    have HB3 := Lib.hid (HB2.out.trans (hb3.mono HB2.out.size))
    clear hb3
    go_wp2_with fail
    go_ret
    exact ⟨rfl, HB3.out⟩
  · cases hR
end Go.Proofs.YtfacmnooklljnaaGreatDoor

/- request: the rule that asks what is taken. No conditions but those that each law states. -/
namespace Go.Proofs.YtfacmnooklljnaaGreatDoor
set_option linter.unusedVariables false
set_option linter.unusedSimpArgs false
open Go.RowKit Go.Shelf
attribute [local go_sem] Oper.semAt_some
set_option maxHeartbeats 8000000
set_option maxRecDepth 100000
theorem rq_r6 (A : Nat) (F : ByteArray) (V : Value) (fs : List Hp.Hd) (m v : ByteArray) (P : Value) (L : List (List UInt8)) (p2 : Option Addr) (n2 c2 : Nat) (w : World) (h : LkW w A F V fs m v P (.slice p2 n2 c2))
    (hT : TS w P L) (hL : L.length ≤ 300) (hs : ∀ p ∈ L, p.length ≤ 300) (hj : (Rq.joined Rq.nAcc fs).length ≤ 100000) :
    Calls Tryz.prog 111 #[.pointer (some ⟨A, 0, none⟩)] w fun e w' => e = .returned (.bool (takesB (Ap.qual (Rq.joined Rq.nAcc fs) Rq.tTx Rq.tEv) || (Gt.jpath L == Rq.pHealth))) ∧ Below w.heap.size w w' := by
  have KG := Lib.hid (rq_get A F ⟨#[97, 99, 99, 101, 112, 116]⟩ V fs m v P (.slice p2 n2 c2) w h (by decide))
  unfold getV at KG
  have KT := fun W => ac_Takes ⟨(Rq.joined Rq.nAcc fs).toArray⟩ ⟨#[116, 101, 120, 116]⟩ ⟨#[101, 118, 101, 110, 116, 45, 115, 116, 114, 101, 97, 109]⟩ W (by rw [ba_size]; exact hj)
  rw [show (⟨#[116, 101, 120, 116]⟩ : ByteArray).toList = Rq.tTx from ba_list Rq.tTx, show (⟨#[101, 118, 101, 110, 116, 45, 115, 116, 114, 101, 97, 109]⟩ : ByteArray).toList = Rq.tEv from ba_list Rq.tEv] at KT
  simp only at KT
  obtain ⟨jb, hjb⟩ : ∃ y : ByteArray, (⟨(Rq.joined Rq.nAcc fs).toArray⟩ : ByteArray) = y := ⟨_, rfl⟩
  obtain ⟨k, hk⟩ : ∃ k, Rq.many Rq.nAcc fs = k := ⟨_, rfl⟩
  obtain ⟨x, hx⟩ : ∃ x, takesB (Ap.qual (Rq.joined Rq.nAcc fs) Rq.tTx Rq.tEv) = x := ⟨_, rfl⟩
  obtain ⟨y, hy⟩ : ∃ x, (Gt.jpath L == Rq.pHealth) = x := ⟨_, rfl⟩
  obtain ⟨pb, hpb⟩ : ∃ z : ByteArray, (⟨(Gt.jpath L).toArray⟩ : ByteArray) = z := ⟨_, rfl⟩
  have KP := Lib.hid (fun W (hb : Below w.heap.size w W) => tg_Path P L W (hT.below hb) hL hs p2 n2 c2)
  rw [hpb] at KP
  have e1 : (pb.toList == ([47, 104, 101, 97, 108, 116, 104] : List UInt8)) = y := by rw [← hpb, ba_list]; exact hy
  rw [show (⟨#[97, 99, 99, 101, 112, 116]⟩ : ByteArray).data.toList = Rq.nAcc from rfl, hjb, hk] at KG
  rw [hjb, hx] at KT
  have HKT := Lib.hid KT
  have HH := Lib.hid h
  obtain ⟨pp, pc, rfl⟩ := hT.slice
  rw [hx, hy]
  clear hjb hk hx hy hpb KT h hT
  go_enter Tryz.func111, Tryz.ntmps111
  go_wp2_with fail
  refine KG.out.mono ?_
  rintro e w2 ⟨rfl, hb⟩
  have HB := Lib.hid hb
  clear hb KG
  go_wp2_with fail
  refine (HKT.out _).mono ?_
  rintro e w3 ⟨rfl, hb⟩
  have HB3 := Lib.hid (HB.out.trans (hb.mono HB.out.size))
  clear hb
  obtain ⟨c0, c1, c2, c3, c4, c5⟩ := lk_cells (HH.out.below HB3.out).c
  cases x with
  | true =>
    go_wp2_with fail
    exact bodyPost_ret (v := .bool true) (by simp [results, Tryz.results111, go_sem]) rfl ⟨by simp, HB3.out⟩
  | false =>
    go_wp2_with fail
    refine (KP.out _ HB3.out).mono ?_
    rintro e w4 ⟨rfl, hb⟩
    have HB4 := Lib.hid (HB3.out.trans (hb.mono HB3.out.size))
    clear hb
    go_wp2_with fail
    exact bodyPost_ret (v := .bool y) (by simp [results, Tryz.results111, go_sem]) rfl ⟨by simp, HB4.out⟩
end Go.Proofs.YtfacmnooklljnaaGreatDoor

/- response: a prefix cut off, must, caught, valid, get, status, lone. No conditions but those that each law states. -/
namespace Go.Proofs.YtfacmnooklljnaaGreatDoor
set_option linter.unusedVariables false
set_option linter.unusedSimpArgs false
open Go.RowKit Go.Shelf
set_option maxHeartbeats 4000000
set_option maxRecDepth 100000
namespace Rs
def pre0 : List UInt8 := [72, 84, 84, 80, 47, 49, 46, 48, 32]
/-- what stands behind the version -/
def rest (F : List UInt8) : Option (List UInt8) := if F.take 9 = pre0 then some (F.drop 9) else if F.take 9 = Hp.http then some (F.drop 9) else none
def code (r : List UInt8) : List UInt8 := (Lib.cut r [32]).1
/-- a first line's status -/
def status (F : List UInt8) : Option Int := match rest F with
  | none => none
  | some r => if (code r).length = 3 ∧ Dp.numE 10 (code r) = 0 ∧ 100 ≤ Dp.numN 10 (code r) ∧ Dp.numN 10 (code r) ≤ 599 then some (Dp.numN 10 (code r)) else none
end Rs
/-- the cells that strings.Cut asks for -/
structure KR (w : World) : Prop where
  mx : ∃ m, w.cell? ⟨0, 0, none⟩ = some (.int .i64 m)
  pos : 0 < w.heap.size
theorem KR.below {w w' : World} (h : KR w) (hb : Below w.heap.size w w') : KR w' := by
  obtain ⟨⟨m, hm⟩, hp⟩ := h
  exact ⟨⟨m, (hb.cell (p := ⟨0, 0, none⟩) hp).trans hm⟩, Nat.lt_of_lt_of_le hp hb.size⟩
theorem sl_hasprefix (s t : ByteArray) (w : World) (hs : s.size ≤ 9223372036854775807) (ht : t.size ≤ 100000) :
    Calls Tryz.prog 118 #[.string s, .string t] w fun e w' => e = .returned (.bool (decide (s.data.toList.take t.size = t.data.toList))) ∧ w' = w := by
  by_cases h : t.size ≤ s.size
  · have hI : ((t.size : Int) ≤ (s.size : Int)) := by omega
    have hsl := fun W => slice_to s W t.size h hs
    have hd : ((s.extract 0 t.size).toList == t.toList) = decide (s.data.toList.take t.size = t.data.toList) := by
      rw [ByteArray.toList_eq, ByteArray.toList_eq, Lib.extract_data]
      simp
      by_cases e : List.take t.size s.data.toList = t.data.toList
      · rw [e]; simp
      · simp [e]
    obtain ⟨x, hx⟩ : ∃ z : ByteArray, s.extract 0 t.size = z := ⟨_, rfl⟩
    rw [hx] at hd
    simp only [hx] at hsl
    obtain ⟨d, hdd⟩ : ∃ d, decide (s.data.toList.take t.size = t.data.toList) = d := ⟨_, rfl⟩
    rw [hdd] at hd ⊢
    clear hx hdd
    go_enter Tryz.func118, Tryz.ntmps118
    go_wp2_with fail
    go_ret
    exact ⟨rfl, rfl⟩
  · have hI : ¬ ((t.size : Int) ≤ (s.size : Int)) := by omega
    have hd : decide (s.data.toList.take t.size = t.data.toList) = false := decide_eq_false (fun e => h (by
      have h1 := congrArg List.length e
      rw [List.length_take] at h1
      have h2 : s.data.toList.length = s.size := rfl
      have h3 : t.data.toList.length = t.size := rfl
      omega))
    rw [hd]
    clear hd
    go_enter Tryz.func118, Tryz.ntmps118
    go_wp2_with fail
    go_ret
    exact ⟨rfl, rfl⟩
theorem sl_cutprefix (s t : ByteArray) (w : World) (hs : s.size ≤ 9223372036854775807) (ht : t.size ≤ 100000) :
    Calls Tryz.prog 103 #[.string s, .string t] w fun e w' => e = .returned (.tuple #[.string (if s.data.toList.take t.size = t.data.toList then s.extract t.size s.size else s), .bool (decide (s.data.toList.take t.size = t.data.toList))]) ∧ w' = w := by
  have K := Lib.hid (sl_hasprefix s t w hs ht)
  have K2 : Hid (Calls Tryz.prog 135 #[.string s, .string t] w fun e w' => e = .returned (.tuple #[.string (if s.data.toList.take t.size = t.data.toList then s.extract t.size s.size else s), .bool (decide (s.data.toList.take t.size = t.data.toList))]) ∧ w' = w) := by
    refine Lib.hid ?_
    by_cases e : s.data.toList.take t.size = t.data.toList
    · rw [decide_eq_true e] at K ⊢
      rw [if_pos e]
      have hle : t.size ≤ s.size := by
        have h1 := congrArg List.length e
        rw [List.length_take] at h1
        have h2 : s.data.toList.length = s.size := rfl
        have h3 : t.data.toList.length = t.size := rfl
        omega
      have hsl : ∀ W, (Instr.slice 9 (.string s) (some (.int .i64 (t.size : Int))) none none).run Tryz.prog W = .ok (.string (s.extract t.size s.size)) W := fun W => by
        have h2 : (t.size : Int) ≤ s.size := by omega
        simp [go_sem, Tryz.underlying9, h2]
      clear e
      go_enter Tryz.func135, Tryz.ntmps135
      go_wp2_with fail
      refine K.out.mono ?_
      rintro e w2 ⟨rfl, hw⟩
      subst hw
      go_wp2_with fail
      simp [bodyPost, results, Tryz.results135, go_sem]
    · rw [decide_eq_false e] at K ⊢
      rw [if_neg e]
      clear e
      go_enter Tryz.func135, Tryz.ntmps135
      go_wp2_with fail
      refine K.out.mono ?_
      rintro e w2 ⟨rfl, hw⟩
      subst hw
      go_wp2_with fail
      simp [bodyPost, results, Tryz.results135, go_sem]
  obtain ⟨x, hx⟩ : ∃ z : ByteArray, (if s.data.toList.take t.size = t.data.toList then s.extract t.size s.size else s) = z := ⟨_, rfl⟩
  obtain ⟨d, hd⟩ : ∃ d, decide (s.data.toList.take t.size = t.data.toList) = d := ⟨_, rfl⟩
  rw [hx, hd] at K2 ⊢
  clear hx hd K
  go_enter Tryz.func103, Tryz.ntmps103
  go_wp2_with fail
  refine K2.out.mono ?_
  rintro e w2 ⟨rfl, hw⟩
  subst hw
  go_wp2_with fail
  simp [bodyPost, results, Tryz.results103, go_sem]
end Go.Proofs.YtfacmnooklljnaaGreatDoor

/- A drawn region by what its slots hold (which may hang on what is done), where some operations fill no slot: such a one names a slot of none of the others. -/
namespace Go.Proofs.YtfacmnooklljnaaGreatDoor
set_option linter.unusedVariables false
set_option linter.unusedSimpArgs false
open Go.RowKit
section
variable {P : Program} {ops : Array Oper} {Q : Exit → Act → World → Prop}
theorem region_slots4 {id : Nat} {a0 : Act} {w0 : World} (slot : Nat → Nat) (F : (Nat → Bool) → Nat → World → Value → Prop) (T : (Nat → Bool) → World → Prop) (hm : P.follows .mixedOrders = true) (hb : backB .any ops = true)
    (hs : ∀ i, slot i < a0.tmps.size) (hinj : ∀ i j, i < ops.size → j < ops.size → slot i = slot j → i = j) (h0 : T (fun _ => false) w0.drew)
    (hdst : ∀ i o, ops[i]? = some o → o.dst = some (slot i) ∨ o.dst = none)
    (hstep : ∀ (f : Nat → Bool) (a : Act) (w : World) (i : Nat) (o : Oper), ops[i]? = some o → f i = false → (∀ e ∈ o.after, Region.binds .any e = true → f e.on = true ∧ F f e.on w (a.tmps.getD (slot e.on) undef)) → T f w →
      (∀ j, (∀ i, i < ops.size → slot i ≠ j) → a.tmps.getD j undef = a0.tmps.getD j undef) →
      o.wp P a w (fun a' w' => ∃ v, a' = a.put o.dst v ∧ (o.dst = none → v = a0.tmps.getD (slot i) undef) ∧ F (fun j => if j = i then true else f j) i w' v ∧ T (fun j => if j = i then true else f j) w' ∧ ∀ j, f j = true → F f j w (a.tmps.getD (slot j) undef) → F (fun j => if j = i then true else f j) j w' (a.tmps.getD (slot j) undef)) Q)
    (hdone : ∀ (f : Nat → Bool) (vs : Nat → Value) (w : World), (∀ i, i < ops.size → f i = true) → T f w → (∀ i, i < ops.size → F f i w (vs i)) → Q .normal { a0 with tmps := fillN slot vs ops.size a0.tmps } w) : (Code.region id ops true).wp P Q a0 w0 := by
  refine region_inv hm hb (Stand3 a0 ops.size slot F T) ⟨rfl, rfl, fun _ _ => rfl, fun _ _ _ => rfl, h0, fun _ _ h => by cases h⟩ ?_ ?_
  · intro f a w i o ho hf hpre hI
    have hi := (Array.getElem?_eq_some_iff.1 ho).1
    refine Oper.wp_mono ?_ (hstep f a w i o ho hf (fun e he hbd => ⟨hpre e he hbd, hI.have_ e.on (by have := (back_of hb ho).2 e he hbd; omega) (hpre e he hbd)⟩) hI.told hI.rest)
    rintro a' w' ⟨v, rfl, hno, hv, ht, hst⟩
    rcases hdst i o ho with hd | hd
    · rw [hd]
      have hsl : slot i < a.tmps.size := by rw [hI.size]; exact hs i
      refine ⟨hI.defers, by rw [← hI.size]; exact Array.size_setIfInBounds .., fun j hj => ?_, fun j hj hfj => ?_, ht, fun j hj hfj => ?_⟩
      · show (a.tmps.setIfInBounds (slot i) v).getD j undef = _
        rw [getD_set _ _ _ _ hsl, if_neg (Ne.symm (hj i hi))]
        exact hI.rest j hj
      · show (a.tmps.setIfInBounds (slot i) v).getD (slot j) undef = _
        have hji : j ≠ i := fun e => by simp [e] at hfj
        rw [getD_set _ _ _ _ hsl, if_neg (fun e => hji (hinj j i hj hi e))]
        exact hI.yet j hj (by simpa [hji] using hfj)
      · show F (fun j => if j = i then true else f j) j w' ((a.tmps.setIfInBounds (slot i) v).getD (slot j) undef)
        rw [getD_set _ _ _ _ hsl]
        by_cases hji : j = i
        · subst hji; rw [if_pos rfl]; exact hv
        · rw [if_neg (fun e => hji (hinj j i hj hi e))]
          have h2 : f j = true := by simpa [hji] using hfj
          exact hst j h2 (hI.have_ j hj h2)
    · rw [hd]
      refine ⟨hI.defers, hI.size, hI.rest, fun j hj hfj => ?_, ht, fun j hj hfj => ?_⟩
      · have hji : j ≠ i := fun e => by simp [e] at hfj
        exact hI.yet j hj (by simpa [hji] using hfj)
      · show F (fun j => if j = i then true else f j) j w' (a.tmps.getD (slot j) undef)
        by_cases hji : j = i
        · subst hji
          rw [hI.yet j hj hf, ← hno hd]
          exact hv
        · have h2 : f j = true := by simpa [hji] using hfj
          exact hst j h2 (hI.have_ j hj h2)
  · intro f a w hall hI
    have e : a = { a0 with tmps := fillN slot (fun i => a.tmps.getD (slot i) undef) ops.size a0.tmps } := by
      have h1 : a.tmps = fillN slot (fun i => a.tmps.getD (slot i) undef) ops.size a0.tmps := by
        refine ext_getD (by rw [fillN_size, hI.size]) (fun j => ?_)
        by_cases hj : ∃ i, i < ops.size ∧ slot i = j
        · obtain ⟨i, hi, rfl⟩ := hj
          rw [fillN_at slot _ _ hs _ hinj i hi]
        · rw [fillN_get slot _ _ hs _ j (fun i hi e => hj ⟨i, hi, e⟩), hI.rest j (fun i hi e => hj ⟨i, hi, e⟩)]
      obtain ⟨t, d⟩ := a
      have h2 := hI.defers
      simp only at h1 h2
      rw [← h1, h2]
    rw [e]
    exact hdone f _ w hall hI.told (fun i hi => hI.have_ i hi (hall i hi))
theorem rg_same4 {o : Oper} {a a0 : Act} {w : World} {slot : Nat → Nat} {F : (Nat → Bool) → Nat → World → Value → Prop} {T : (Nat → Bool) → World → Prop} {f : Nat → Bool} {i : Nat} (v : Value)
    (h : o.wp P a w (fun a' w' => a' = a.put o.dst v ∧ w' = w) Q) (hd : o.dst ≠ none) (hF : F (fun j => if j = i then true else f j) i w v) (hT : T (fun j => if j = i then true else f j) w) (hM : ∀ j v', F f j w v' → F (fun j => if j = i then true else f j) j w v') :
    o.wp P a w (fun a' w' => ∃ v, a' = a.put o.dst v ∧ (o.dst = none → v = a0.tmps.getD (slot i) undef) ∧ F (fun j => if j = i then true else f j) i w' v ∧ T (fun j => if j = i then true else f j) w' ∧ ∀ j, f j = true → F f j w (a.tmps.getD (slot j) undef) → F (fun j => if j = i then true else f j) j w' (a.tmps.getD (slot j) undef)) Q := by
  refine Oper.wp_mono ?_ h
  rintro a' w' ⟨rfl, rfl⟩
  exact ⟨v, rfl, fun h => absurd h hd, hF, hT, fun j _ h => hM j _ h⟩
end
end Go.Proofs.YtfacmnooklljnaaGreatDoor

/- target: Parse, with more told of its path: its row is one of texts alone. No conditions but those that each law states. Printed by genZs.py from XGE, XGK. -/
namespace Go.Proofs.YtfacmnooklljnaaGreatDoor
set_option linter.unusedVariables false
set_option linter.unusedSimpArgs false
open Go.RowKit Go.Shelf
set_option maxHeartbeats 4000000
set_option maxRecDepth 100000
/-- a slice of texts in a block of texts alone -/
def SwRow (w : World) (v : Value) (L : List (List UInt8)) : Prop := ∃ B, w.ownsRow B 9 1 v L.length (L.map tx)
theorem SwRow.str {w : World} {v : Value} {L : List (List UInt8)} (h : SwRow w v L) : StrRow w v L := by
  obtain ⟨B, h⟩ := h
  exact strRow_own h
theorem SwRow.slice {w : World} {v : Value} {L : List (List UInt8)} (h : SwRow w v L) : ∃ p c, v = .slice p L.length c := by
  obtain ⟨p, c, h, _⟩ := h.str
  exact ⟨p, c, h⟩
theorem SwRow.below {w w' : World} {v : Value} {L : List (List UInt8)} (h : SwRow w v L) (k : Below w.heap.size w w') : SwRow w' v L := by
  obtain ⟨B, h⟩ := h
  exact ⟨B, h.belowed k⟩
theorem SwRow.keep {w w' : World} {v : Value} {L : List (List UInt8)} {T : Nat} {cs : Array Value} {t : TypeId} (h : SwRow w v L) (hT : w.heap[T]? = some (.cells cs t (0, 0))) (ht : t ≠ 9) (ho : ∀ j, j ≠ T → w'.heap[j]? = w.heap[j]?) : SwRow w' v L := by
  obtain ⟨B, hl, h⟩ := h
  refine ⟨B, hl, h.imp id ?_⟩
  rintro ⟨g, cap, cur, rfl, h1, h2, h3⟩
  refine ⟨g, cap, cur, rfl, h1, ?_, h3⟩
  rw [ho g (by
    intro e
    subst e
    rw [h2] at hT
    simp at hT
    exact ht hT.2.symm)]
  exact h2
theorem PrRow.keep {w w' : World} {v : Value} {L : List (List UInt8 × List UInt8)} {T : Nat} {cs : Array Value} {t : TypeId} (h : PrRow w v L) (hT : w.heap[T]? = some (.cells cs t (0, 0))) (ht : t ≠ 93) (ho : ∀ j, j ≠ T → w'.heap[j]? = w.heap[j]?) : PrRow w' v L := by
  obtain ⟨B, hl, h⟩ := h
  refine ⟨B, hl, h.imp id ?_⟩
  rintro ⟨g, cap, cur, rfl, h1, h2, h3⟩
  refine ⟨g, cap, cur, rfl, h1, ?_, h3⟩
  rw [ho g (by
    intro e
    subst e
    rw [h2] at hT
    simp at hT
    exact ht hT.2.symm)]
  exact h2
theorem PrRow.belowW {w w' : World} {v : Value} {L : List (List UInt8 × List UInt8)} (h : PrRow w v L) (k : Below w.heap.size w w') : PrRow w' v L := by
  obtain ⟨B, h⟩ := h
  exact ⟨B, h.belowed k⟩
theorem SwRow.setT {w : World} {v : Value} {L : List (List UInt8)} {T : Nat} {cs : Array Value} {t : TypeId} (h : SwRow w v L) (hT : w.heap[T]? = some (.cells cs t (0, 0))) (ht : t ≠ 9) (i : Nat) (x : Value) : SwRow (w.setCell ⟨T, i, none⟩ x) v L :=
  h.keep hT ht fun j hj => Below.heap_setCell _ _ _ _ (by show j ≠ T; exact hj)
theorem tg_madeW (f : FuncId) (g : List UInt8 → Option (List UInt8)) (v : Value) (L : List ByteArray) (w : World) (hv : SR w v L) (hL : L.length ≤ 100000)
    (hce : ∀ args W, (callFunc f args).run Tryz.prog W = .ok (.enter f args) W)
    (hf : ∀ s ∈ L, ∀ W, Calls Tryz.prog f #[.string s] W fun e w' => e = decEnd (g s.data.toList) ∧ Below W.heap.size W w') :
    Calls Tryz.prog 49 #[.func (.func f) #[] #[], v] w fun e w' =>
      ((∃ R r, Gt.all? g (L.map (·.data.toList)) = some R ∧ e = .returned r ∧ SwRow w' r R) ∨ (Gt.all? g (L.map (·.data.toList)) = none ∧ e = .panicked [{ v := errno 210, recovered := false }])) ∧ Below w.heap.size w w' := by
  obtain ⟨i0, hi, hz0, hz1, hz2⟩ := info_parts (show (Tryz.prog.info? 9).map (fun i => (i.zero, i.size, i.bytes)) = some (some (.string ByteArray.empty), 1, 16) by kernel_rfl)
  obtain ⟨B, hB⟩ : ∃ B, w.heap.size = B := ⟨_, rfl⟩
  rw [hB]
  rcases hv with ⟨p0, c0, rfl, rfl⟩ | ⟨b, off, cap, rfl, hb, hc⟩
  · go_enter Tryz.func49, Tryz.ntmps49
    go_wp2_with fail
    go_loopw [4, 9] (fun v i wr => v = .slice none 0 0 ∧ i = .int .i64 0 ∧ wr = w) (fun _ _ _ => 0)
    case atStart => exact ⟨rfl, rfl, rfl⟩
    case round =>
      obtain ⟨rfl, rfl, rfl⟩ := hrel
      go_wp2_with fail
      go_ret
      exact ⟨.inl ⟨[], _, rfl, rfl, ⟨0, World.ownsRow_nil _ _ _ _⟩⟩, Below.refl _ _⟩
  · have HC := Lib.hid hc
    have HF := Lib.hid hf
    obtain ⟨N, hN⟩ : ∃ N, L.length = N := ⟨_, rfl⟩
    have HNL := Lib.hid hN
    have HBB := Lib.hid hb
    rw [hN] at hL ⊢
    obtain ⟨M, hM⟩ : ∃ M, L.map (·.data.toList) = M := ⟨_, rfl⟩
    rw [hM]
    have HML := Lib.hid (show M.length = N by rw [← hM, List.length_map, hN])
    have HM := Lib.hid hM
    clear hc hf hM hN hb
    go_enter Tryz.func49, Tryz.ntmps49
    go_wp2_with fail
    go_loopw [4, 9] (fun v i wr => ∃ (k : Nat) (acc : List (List UInt8)), k ≤ N ∧ i = .int .i64 k ∧ Gt.AAt g M acc k ∧ wr.ownsRow B 9 1 v acc.length (acc.map tx) ∧ Below B w wr)
      (fun _ i _ => N - (intOf i).toNat)
    case atStart => exact ⟨0, [], Nat.zero_le _, rfl, Gt.aAt_start _ _, World.ownsRow_nil _ _ _ _, Below.refl _ _⟩
    case round =>
      obtain ⟨k, acc, hk, rfl, hat, hown, hbl⟩ := hrel
      have HA := Lib.hid hat
      have HO := Lib.hid hown
      have HBL := Lib.hid hbl
      clear hat hown hbl
      by_cases hlt : k < N
      · have hkl : k < L.length := by have := HNL.out; omega
        have HBW := Lib.hid (show b < B by rw [← hB]; exact HBB.out)
        have hck : wr.cell? ⟨b, off + k, none⟩ = some (.string L[k]) := (HBL.out.cell (p := ⟨b, off + k, none⟩) HBW.out).trans (HC.out k hkl)
        obtain ⟨S, hS⟩ : ∃ S, L[k] = S := ⟨_, rfl⟩
        rw [hS] at hck
        have HKM := Lib.hid (show k < M.length by rw [HML.out]; exact hlt)
        have HMK := Lib.hid (show M[k]'HKM.out = S.data.toList by
          have : M[k]? = some S.data.toList := by rw [← HM.out, List.getElem?_map, List.getElem?_eq_getElem hkl, hS]; rfl
          exact (List.getElem?_eq_some_iff.1 this).2)
        have K := Lib.hid (HF.out S (by rw [← hS]; exact List.getElem_mem _) wr)
        clear hS hkl
        cases hg : g S.data.toList with
        | none =>
          rw [hg] at K
          have HN := Lib.hid (Gt.aAt_bad HA.out HKM.out (by rw [HMK.out]; exact hg))
          clear hg
          go_wp2_with fail
          refine K.out.mono ?_
          rintro e w2 ⟨rfl, hb2⟩
          exact ⟨rfl, .inr ⟨HN.out, rfl⟩, HBL.out.trans (hb2.mono (hB ▸ HBL.out.size))⟩
        | some q =>
          rw [hg] at K
          have HN := Lib.hid (Gt.aAt_next HA.out HKM.out (by rw [HMK.out]; exact hg))
          clear hg
          go_wp2_with fail
          refine K.out.mono ?_
          rintro e w2 ⟨rfl, hb2⟩
          have HB2 := Lib.hid (HBL.out.trans (hb2.mono (hB ▸ HBL.out.size)))
          have HO2 := Lib.hid (show w2.ownsRow B 9 1 _ acc.length (acc.map tx) from HO.out.belowed hb2)
          simp only [decEnd]
          obtain ⟨qb, hqb⟩ : ∃ z : ByteArray, (⟨q.toArray⟩ : ByteArray) = z := ⟨_, rfl⟩
          rw [hqb]
          have HTQ := Lib.hid (show tx q = .string qb by unfold tx; rw [hqb])
          clear hb2 hqb K
          go_wp2_with (at_builtin; refine wpList_append_own _ rfl _ _ 33 rfl B 9 i0 (.string ByteArray.empty) 1 16 Tryz.underlying33 hi hz0 hz1 hz2 rfl (by decide) _ _ _ rfl (HO2.out.alloc _) ⟨w2.heap.size, 0, none⟩ 1 1 [.string qb] rfl rfl ?c1 ?c2 ?c3 ?c4 ?c5 ?_)
          case c1 =>
            intro j u hj
            match j, hj with
            | 0, hj => simp at hj; subst hj; simp [Addr.add]
          case c2 => intro u hu; simp at hu; subst hu; rfl
          case c3 => have := HA.out.2.1; unfold maxLen; omega
          case c4 => have := HA.out.2.1; omega
          case c5 => have := HB2.out.size; simp; omega
          intro v' w3 hown' hgrow _
          have HB3 := Lib.hid (show Below B w w3 from Below.grown (HB2.out.alloc (by have := HB2.out.size; omega) _) hgrow (by have := HB2.out.size; simp; omega) (own_ge HO2.out))
          have HO3 := Lib.hid (show w3.ownsRow B 9 1 v' (acc ++ [q]).length ((acc ++ [q]).map tx) by
            rw [List.map_append, List.length_append]
            show w3.ownsRow B 9 1 v' _ (_ ++ [tx q])
            rw [HTQ.out]
            exact hown')
          clear hgrow hown'
          go_wp2
          go_roundw
          case rel => exact ⟨k + 1, acc ++ [q], hlt, by go_num, HN.out, HO3.out, HB3.out⟩
          case measure => simp [intOf]; omega
      · have HE := Lib.hid (Gt.aAt_end HA.out (by rw [HML.out]; omega))
        go_wp2_with fail
        go_ret
        exact ⟨.inl ⟨acc, _, HE.out, rfl, ⟨_, HO.out⟩⟩, HBL.out⟩
def ParseOutW (w : World) (o : Option (List (List UInt8) × List (List UInt8 × List UInt8))) (e : Ending) : Prop := match o with
  | some (P, Q) => ∃ vp vq, e = .returned (.tuple #[.agg #[vp, vq], .int .i64 0]) ∧ SwRow w vp P ∧ PrRow w vq Q
  | none => e = .returned (.tuple #[.agg #[.slice none 0 0, .slice none 0 0], .int .i64 210])
theorem parse_doorW (s : ByteArray) (w W : World) (hB : Below w.heap.size w W) (u v : Value) (hT : W.heap[w.heap.size]? = some (.cells #[u, v] 36 (0, 0))) (hE : W.heap[w.heap.size + 1]? = some (.cells #[.int .i64 0] 26 (0, 0)))
    (hp : Gt.parse s.data.toList = none) (x1 x4 x5 x6 x7 x8 x9 x10 x11 x12 x13 x14 x15 x16 x17 x18 x19 x20 x21 x22 x23 x24 x25 x26 x27 x28 x29 x30 x31 x32 x33 x34 x35 : Value) :
    bodyPostD Tryz.prog Tryz.f21 (fun e w' => ParseOutW w' (Gt.parse s.data.toList) e ∧ Below w.heap.size w w') (.panic [{ v := errno 210, recovered := false }])
      { tmps := #[.string s, x1, .pointer (some ⟨w.heap.size, 0, none⟩), .pointer (some ⟨w.heap.size + 1, 0, none⟩), x4, x5, x6, x7, x8, x9, x10, x11, x12, x13, x14, x15, x16, x17, x18, x19, x20, x21, x22, x23, x24, x25, x26, x27, x28, x29, x30, x31, x32, x33, x34, x35], defers := [{ target := Target.fn (Fn.func 44) #[], args := #[.pointer (some ⟨w.heap.size + 1, 0, none⟩), .func (.func 45) #[] #[.pointer (some ⟨w.heap.size, 0, none⟩)]] }] } W := by
  rw [hp]
  have c1 : W.cell? ⟨w.heap.size + 1, 0, none⟩ = some (.int .i64 0) := by simp [World.cell?, hE]
  have z1 : W.frozen? ⟨w.heap.size + 1, 0, none⟩ = false := frozen_of_row _ _ _ _ _ hE
  have t1 := heap_setCell_same _ _ 0 _ _ (.slice none 0 0) hT
  have t2 : ((W.setCell ⟨w.heap.size, 0, none⟩ (.slice none 0 0)).setCell ⟨w.heap.size, 1, none⟩ (.slice none 0 0)).heap[w.heap.size]? = some (.cells #[.slice none 0 0, .slice none 0 0] 36 (0, 0)) := heap_setCell_same _ _ 1 _ _ (.slice none 0 0) t1
  obtain ⟨W2, hW2⟩ : ∃ Z, (W.setCell ⟨w.heap.size, 0, none⟩ (.slice none 0 0)).setCell ⟨w.heap.size, 1, none⟩ (.slice none 0 0) = Z := ⟨_, rfl⟩
  have HB2 := Lib.hid (show Below w.heap.size w W2 by rw [← hW2]; exact (hB.setCell (Nat.le_refl _) _).setCell (Nat.le_refl _) _)
  have c2 : W2.cell? ⟨w.heap.size + 1, 0, none⟩ = some (.int .i64 0) := by
    rw [← hW2, World.cell?_setCell_other, World.cell?_setCell_other]; exact c1; simp; simp
  have z2 : W2.frozen? ⟨w.heap.size + 1, 0, none⟩ = false := by rw [← hW2]; simpa using z1
  have K := tg_clearT w.heap.size u v W hT
  rw [hW2] at t2 K
  refine leaves_cons (f := 44) (args := #[.pointer (some ⟨w.heap.size + 1, 0, none⟩), .func (.func 45) #[] #[.pointer (some ⟨w.heap.size, 0, none⟩)]]) (by simp) (by simp [go_sem]) ?_
  refine (tg_caught ⟨w.heap.size + 1, 0, none⟩ 45 #[.pointer (some ⟨w.heap.size, 0, none⟩)] 210 [] W W2 (clearT_enter _) K (.int .i64 0) c2 z2).mono ?_
  rintro e u' w'' ⟨rfl, rfl, rfl⟩
  have d0 : W2.cell? ⟨w.heap.size, 0, none⟩ = some (.slice none 0 0) := by simp [World.cell?, t2]
  have d1 : W2.cell? ⟨w.heap.size, 1, none⟩ = some (.slice none 0 0) := by simp [World.cell?, t2]
  simp [Leaves, settle, results, Tryz.results21, go_sem, d0, d1, c2]
  exact ⟨rfl, HB2.out.setCell (Nat.le_succ _) _⟩
theorem tg_ParseW (s : ByteArray) (w : World) (hs : s.size ≤ 90000) (hm : Mx w) (h0 : 0 < w.heap.size) :
    Calls Tryz.prog 21 #[.string s] w fun e w' => ParseOutW w' (Gt.parse s.data.toList) e ∧ Below w.heap.size w w' := by
  have hce1 := ask1_enter
  have hce2 := ask2_enter
  have hmf : ∀ (fn : Fn) (first cap : Array Value) (w : World), (Instr.makeFunc fn first cap).run Tryz.prog w = .ok (.func fn first cap) w := fun _ _ _ _ => rfl
  have hi0 : ∀ (x y : Value) (w : World), (Instr.index 84 (.agg #[x, y]) (.int .i64 0)).run Tryz.prog w = .ok x w := fun _ _ _ => by kernel_rfl
  have hi1 : ∀ (x y : Value) (w : World), (Instr.index 84 (.agg #[x, y]) (.int .i64 1)).run Tryz.prog w = .ok y w := fun _ _ _ => by kernel_rfl
  obtain ⟨W1, hW1⟩ : ∃ W, (w.alloc (.cells #[.slice none 0 0, .slice none 0 0] 36)).alloc (.cells #[.int .i64 0] 26) = W := ⟨_, rfl⟩
  have HSZ := Lib.hid (show W1.heap.size = w.heap.size + 2 by rw [← hW1]; simp)
  have HB := Lib.hid (show Below w.heap.size w W1 by
    rw [← hW1]
    exact ((Below.refl _ _).alloc (Nat.le_refl _) _).alloc (by simp) _)
  have HC0 := Lib.hid (show W1.heap[w.heap.size]? = some (.cells #[.slice none 0 0, .slice none 0 0] 36 (0, 0)) by
    rw [← hW1, Below.heap_alloc _ _ _ (by simp)]
    exact World.alloc_heap_new _ _)
  have HC1 := Lib.hid (show W1.heap[w.heap.size + 1]? = some (.cells #[.int .i64 0] 26 (0, 0)) by
    rw [← hW1]
    have := World.alloc_heap_new (w.alloc (.cells #[.slice none 0 0, .slice none 0 0] 36)) (.cells #[.int .i64 0] 26)
    simpa using this)
  have HW1 := Lib.hid hW1
  have HM := Lib.hid hm
  clear hW1 hm
  have KA := Lib.hid (tg_asks W1)
  have K1 := Lib.hid (fun W => tg_ask1 s W)
  have K2 := Lib.hid (fun W => tg_ask2 s W)
  obtain ⟨a1, ha1⟩ : ∃ o, (s.data.toList.head? == some 47) = o := ⟨_, rfl⟩
  obtain ⟨a2, ha2⟩ : ∃ o, s.data.toList.all Gt.okB = o := ⟨_, rfl⟩
  rw [ha1] at K1
  rw [ha2] at K2
  have HA1 := Lib.hid ha1
  have HA2 := Lib.hid ha2
  clear ha1 ha2
  go_enter_defers Tryz.func21, Tryz.ntmps21
  go_wp2_with fail
  rw [HW1.out]
  refine KA.out.mono ?_
  rintro e w2 ⟨rfl, hb⟩
  have HB2 := Lib.hid hb
  clear hb
  go_wp2_with fail
  go_loopw [11] (fun i wr => AskAt s.data.toList w2 i wr) (fun i _ => (2 - intOf i).toNat)
  case atStart => exact .inl ⟨rfl, rfl⟩
  case round =>
    rcases hrel with ⟨rfl, rfl⟩ | ⟨rfl, rfl, hh⟩ | ⟨rfl, hb3, hok⟩
    · cases a1 with
      | true =>
        go_wp2_with fail
        refine (K1.out wr).mono ?_
        rintro e w3 ⟨rfl, hw3⟩
        subst w3
        go_wp2_with fail
        refine (tg_must 210 wr).mono ?_
        rintro e w4 ⟨rfl, hw4⟩
        subst w4
        go_wp2
        go_roundw
        case rel => exact .inr (.inl ⟨rfl, rfl, HA1.out⟩)
        case measure => simp [intOf]
      | false =>
        go_wp2_with fail
        refine (K1.out wr).mono ?_
        rintro e w3 ⟨rfl, hw3⟩
        subst w3
        go_wp2_with fail
        refine (tg_must_no 210 wr).mono ?_
        rintro e w4 ⟨rfl, hw4⟩
        subst w4
        exact parse_doorW s w wr (HB.out.trans (HB2.out.mono HB.out.size)) (.slice none 0 0) (.slice none 0 0) ((HB2.out.block _ (by rw [HSZ.out]; omega)).trans HC0.out) ((HB2.out.block _ (by rw [HSZ.out]; omega)).trans HC1.out) (Gt.parse_bad (by unfold Gt.ok; rw [HA1.out]; rfl)) _ _ _ _ _ _ _ _ _ _ _ _ _ _ _ _ _ _ _ _ _ _ _ _ _ _ _ _ _ _ _ _ _
    · cases a2 with
      | true =>
        go_wp2_with fail
        refine (K2.out wr).mono ?_
        rintro e w3 ⟨rfl, hb3⟩
        have HB3 := Lib.hid hb3
        clear hb3
        go_wp2_with fail
        refine (tg_must 210 w3).mono ?_
        rintro e w4 ⟨rfl, hw4⟩
        subst w4
        go_wp2
        go_roundw
        case rel => exact .inr (.inr ⟨rfl, HB3.out, by unfold Gt.ok; rw [hh, HA2.out]; rfl⟩)
        case measure => simp [intOf]
      | false =>
        go_wp2_with fail
        refine (K2.out wr).mono ?_
        rintro e w3 ⟨rfl, hb3⟩
        have HB3 := Lib.hid (HB2.out.trans (hb3.mono HB2.out.size))
        clear hb3
        go_wp2_with fail
        refine (tg_must_no 210 w3).mono ?_
        rintro e w4 ⟨rfl, hw4⟩
        subst w4
        exact parse_doorW s w w3 (HB.out.trans (HB3.out.mono HB.out.size)) (.slice none 0 0) (.slice none 0 0) ((HB3.out.block _ (by rw [HSZ.out]; omega)).trans HC0.out) ((HB3.out.block _ (by rw [HSZ.out]; omega)).trans HC1.out) (Gt.parse_bad (by unfold Gt.ok; rw [HA2.out, Bool.and_false])) _ _ _ _ _ _ _ _ _ _ _ _ _ _ _ _ _ _ _ _ _ _ _ _ _ _ _ _ _ _ _ _ _
    · have HBR := Lib.hid (HB2.out.trans (hb3.mono HB2.out.size))
      have HOK := Lib.hid hok
      obtain ⟨m, hm'⟩ := HM.out.below (HB.out.trans (HBR.out.mono HB.out.size)) h0
      have KC := Lib.hid (Tryz.strings_Cut s ⟨#[63]⟩ m wr (by omega) hm')
      rw [show (⟨#[63]⟩ : ByteArray).data.toList = [63] from rfl, Gs.cut_is] at KC
      obtain ⟨pb, hpb⟩ : ∃ z : ByteArray, (⟨(s.data.toList.take (Gs.pos 63 s.data.toList)).toArray⟩ : ByteArray) = z := ⟨_, rfl⟩
      obtain ⟨qb, hqb⟩ : ∃ z : ByteArray, (⟨(s.data.toList.drop (Gs.pos 63 s.data.toList + 1)).toArray⟩ : ByteArray) = z := ⟨_, rfl⟩
      obtain ⟨is, his⟩ : ∃ b, decide (Gs.pos 63 s.data.toList < s.data.toList.length) = b := ⟨_, rfl⟩
      simp only [hpb, hqb, his] at KC
      have HPL := Lib.hid (show pb.data.toList = s.data.toList.take (Gs.pos 63 s.data.toList) by rw [← hpb])
      have HQL := Lib.hid (show qb.data.toList = s.data.toList.drop (Gs.pos 63 s.data.toList + 1) by rw [← hqb])
      have hp1 : 1 ≤ pb.size := by
        have h1 := ok_pos hok
        have h2 : pb.data.toList.length = pb.size := rfl
        have h3 := Gs.pos_le 63 s.data.toList
        rw [HPL.out, List.length_take] at h2
        omega
      have HPS := Lib.hid (show pb.size ≤ 100000 by
        have h1 : pb.data.toList.length = pb.size := rfl
        have h2 : s.data.toList.length = s.size := rfl
        rw [HPL.out, List.length_take] at h1; omega)
      have HQS := Lib.hid (show qb.size ≤ 90000 by
        have h1 : qb.data.toList.length = qb.size := rfl
        have h2 : s.data.toList.length = s.size := rfl
        rw [HQL.out, List.length_drop] at h1; omega)
      clear hpb hqb his hm' hb3 hok
      go_wp2_with fail
      refine KC.out.mono ?_
      rintro e w5 ⟨rfl, n, hw5⟩
      have HB5 := Lib.hid (show Below W1.heap.size W1 w5 by rw [hw5]; exact below_drewN HBR.out n)
      clear hw5
      go_wp2_with fail
      obtain ⟨p1, hp⟩ : ∃ z, pb.extract 1 pb.size = z := ⟨_, rfl⟩
      rw [hp]
      have HSEG := Lib.hid (show Gt.segs s.data.toList = Gs.parts 47 [] p1.data.toList by
        unfold Gt.segs
        rw [← HPL.out, ← hp, Lib.extract_data, List.take_of_length_le]
        rw [List.length_drop]; exact Nat.le_refl _)
      have HP1P := Lib.hid (show p1.size + 1 ≤ pb.size by
        have h1 : (pb.extract 1 pb.size).data.toList.length = p1.size := by rw [hp]; rfl
        have h2 : pb.data.toList.length = pb.size := rfl
        rw [Lib.extract_data, List.length_take, List.length_drop] at h1; omega)
      have HP1S := Lib.hid (show p1.size ≤ 100000 by
        have h1 : (pb.extract 1 pb.size).data.toList.length = p1.size := by rw [hp]; rfl
        have h2 : pb.data.toList.length = pb.size := rfl
        have h3 := HPS.out
        rw [Lib.extract_data, List.length_take, List.length_drop] at h1; omega)
      have HT5 := Lib.hid ((HB5.out.block _ (by rw [HSZ.out]; omega)).trans HC0.out)
      have HE5 := Lib.hid ((HB5.out.block _ (by rw [HSZ.out]; omega)).trans HC1.out)
      have HBW5 := Lib.hid (HB.out.trans (HB5.out.mono HB.out.size))
      have HZ5 := Lib.hid (show w.heap.size + 2 ≤ w5.heap.size by have := HB5.out.size; rw [HSZ.out] at this; exact this)
      clear hp hp1 KC KA K1 K2 HB5 HBR HB2 HB HC0 HC1 HW1
      refine (tg_split p1 47 w5 (by have := HP1S.out; omega) (HM.out.below HBW5.out h0)).mono ?_
      rintro e w6 ⟨D, hD, rfl, hw6⟩
      have HB6 := Lib.hid (show Below w5.heap.size w5 w6 by rw [hw6]; exact (Below.refl _ _).alloc (Nat.le_refl _) _)
      have HSR := Lib.hid (show SR w6 (.slice (some ⟨w5.heap.size, 0, none⟩) D.length D.length) D from .inr ⟨w5.heap.size, 0, D.length, rfl, by rw [hw6]; simp, fun j hj => by
        have hnew : w6.heap[w5.heap.size]? = some (.cells (D.map Value.string).toArray 9 (0, 0)) := by rw [hw6]; exact World.alloc_heap_new _ _
        simp [World.cell?, hnew, List.getElem?_eq_getElem hj]⟩)
      have HD := Lib.hid hD
      have HDL := Lib.hid (show D.length ≤ 100000 by
        have h1 := Gs.parts_many 47 p1.data.toList []
        rw [← hD, List.length_map] at h1
        have h2 : p1.data.toList.length = p1.size := rfl
        have h3 := ok_pos HOK.out
        have h4 : pb.data.toList.length = pb.size := rfl
        have h5 := HPS.out
        have h6 := HP1S.out
        have h7 := HP1P.out
        omega)
      have HDS := Lib.hid (fun z (hz : z ∈ D) => show z.size ≤ 1000000 by
        have h1 := Gs.parts_len 47 p1.data.toList [] z.data.toList (by rw [← hD]; exact List.mem_map.2 ⟨z, hz, rfl⟩)
        have h2 : p1.data.toList.length = p1.size := rfl
        have h3 : z.data.toList.length = z.size := rfl
        have h4 := HP1S.out
        simp at h1
        omega)
      clear hw6 hD
      go_wp2_with fail
      refine (tg_madeW 50 Gt.seg _ D w6 HSR.out HDL.out part_enter (fun z hz W => tg_part z W (HDS.out z hz))).mono ?_
      rintro e w7 ⟨hor, hb7⟩
      have HB7 := Lib.hid (show Below w5.heap.size w5 w7 from HB6.out.trans (hb7.mono HB6.out.size))
      clear hb7
      rw [HD.out, ← HSEG.out] at hor
      have HT7 := Lib.hid ((HB7.out.block _ (by have := HZ5.out; omega)).trans HT5.out)
      have HE7 := Lib.hid ((HB7.out.block _ (by have := HZ5.out; omega)).trans HE5.out)
      have HBW7 := Lib.hid (HBW5.out.trans (HB7.out.mono HBW5.out.size))
      have HZ7 := Lib.hid (show w.heap.size + 2 ≤ w7.heap.size from Nat.le_trans HZ5.out HB7.out.size)
      clear HB7 HB6 HSR HDS HT5 HE5 HBW5
      rcases hor with ⟨R, r, h1, rfl, hrow⟩ | ⟨h1, rfl⟩
      · have HP1 := Lib.hid h1
        have HROW := Lib.hid hrow
        obtain ⟨pr, cr, hr⟩ := hrow.slice
        obtain ⟨nr, hnr⟩ : ∃ z, R.length = z := ⟨_, rfl⟩
        rw [hnr] at hr
        subst hr
        have c0 : w7.cell? ⟨w.heap.size, 0, none⟩ = some (.slice none 0 0) := by simp [World.cell?, HT7.out]
        have z0 : w7.frozen? ⟨w.heap.size, 0, none⟩ = false := frozen_of_row _ _ _ _ _ HT7.out
        clear h1 hnr
        go_wp2_with fail
        obtain ⟨w8, hw8⟩ : ∃ Z, w7.setCell ⟨w.heap.size, 0, none⟩ (.slice pr nr cr) = Z := ⟨_, rfl⟩
        rw [hw8]
        have HT8 := Lib.hid (show w8.heap[w.heap.size]? = some (.cells #[.slice pr nr cr, .slice none 0 0] 36 (0, 0)) by
          rw [← hw8]; exact heap_setCell_same _ _ 0 _ _ (.slice pr nr cr) HT7.out)
        have HE8 := Lib.hid (show w8.heap[w.heap.size + 1]? = some (.cells #[.int .i64 0] 26 (0, 0)) by
          rw [← hw8, Below.heap_setCell _ _ _ _ (by simp)]; exact HE7.out)
        have HR8 := Lib.hid (show SwRow w8 (.slice pr nr cr) R by rw [← hw8]; exact HROW.out.setT HT7.out (by decide) 0 _)
        have HBW8 := Lib.hid (show Below w.heap.size w w8 by rw [← hw8]; exact HBW7.out.setCell (Nat.le_refl _) _)
        have HZ8 := Lib.hid (show w.heap.size + 2 ≤ w8.heap.size by rw [← hw8]; simpa using HZ7.out)
        clear hw8 c0 z0 HT7 HE7 HROW HBW7 HZ7
        refine (tg_split qb 38 w8 (by have := HQS.out; omega) (HM.out.below HBW8.out h0)).mono ?_
        rintro e w9 ⟨D2, hD2, rfl, hw9⟩
        have hnew : w9.heap[w8.heap.size]? = some (.cells (D2.map Value.string).toArray 9 (0, 0)) := by rw [hw9]; exact World.alloc_heap_new _ _
        have HB9 := Lib.hid (show Below w8.heap.size w8 w9 by rw [hw9]; exact (Below.refl _ _).alloc (Nat.le_refl _) _)
        have HD2L := Lib.hid (show D2.length ≤ 100000 by
          have h1 := Gs.parts_many 38 qb.data.toList []
          rw [← hD2, List.length_map] at h1
          have h2 : qb.data.toList.length = qb.size := rfl
          have h3 := HQS.out
          omega)
        have HD2S := Lib.hid (fun z (hz : z ∈ D2) => show z.size ≤ 1000000 by
          have h1 := Gs.parts_len 38 qb.data.toList [] z.data.toList (by rw [← hD2]; exact List.mem_map.2 ⟨z, hz, rfl⟩)
          have h2 : qb.data.toList.length = qb.size := rfl
          have h3 : z.data.toList.length = z.size := rfl
          have h4 := HQS.out
          simp at h1
          omega)
        have HQR := Lib.hid (show (D2.filter fun s => !s.data.toList.isEmpty).map (·.data.toList) = Gt.qrys s.data.toList by
          unfold Gt.qrys
          rw [← HQL.out, ← hD2, List.filter_map]; rfl)
        have KST := Lib.hid (tg_strike w8.heap.size D2.length D2 w9 hnew (Nat.le_refl _) (by have := HD2L.out; omega))
        clear hD2 hnew hw9
        go_wp2_with fail
        refine KST.out.mono ?_
        rintro e w10 ⟨v, rfl, hsr, hb10⟩
        have HB10 := Lib.hid (show Below w8.heap.size w8 w10 from HB9.out.trans hb10)
        have HSR := Lib.hid hsr
        have HFL := Lib.hid (show (D2.filter fun s => !s.data.toList.isEmpty).length ≤ 100000 from Nat.le_trans (List.length_filter_le _ _) HD2L.out)
        have HFS := Lib.hid (fun z (hz : z ∈ D2.filter fun s => !s.data.toList.isEmpty) => HD2S.out z (List.mem_filter.1 hz).1)
        obtain ⟨F, hF⟩ : ∃ z, (D2.filter fun s => !s.data.toList.isEmpty) = z := ⟨_, rfl⟩
        rw [hF] at HSR HQR HFL HFS
        clear hb10 hsr KST HB9 HD2S HD2L hF
        go_wp2_with fail
        refine (tg_madeP 53 Gt.pairOf v F w10 HSR.out HFL.out pair_enter (fun z hz W hbW => tg_pair z W (HFS.out z hz)
          (HM.out.below (HBW8.out.trans ((HB10.out.trans (hbW.mono HB10.out.size)).mono (by have := HZ8.out; omega))) h0) (by have := hbW.size; have := HB10.out.size; have := HZ8.out; omega))).mono ?_
        rintro e w11 ⟨hor, hb11⟩
        have HB11 := Lib.hid (show Below w8.heap.size w8 w11 from HB10.out.trans (hb11.mono HB10.out.size))
        clear hb11
        rw [HQR.out] at hor
        have HT11 := Lib.hid ((HB11.out.block _ (by have := HZ8.out; omega)).trans HT8.out)
        have HE11 := Lib.hid ((HB11.out.block _ (by have := HZ8.out; omega)).trans HE8.out)
        have HBW11 := Lib.hid (HBW8.out.trans (HB11.out.mono HBW8.out.size))
        have HR11 := Lib.hid (HR8.out.below HB11.out)
        clear HB11 HB10 HSR HFS HT8 HE8 HBW8 HR8
        rcases hor with ⟨Q, q, h1, rfl, hrow⟩ | ⟨h1, rfl⟩
        · have HPQ := Lib.hid (show Gt.parse s.data.toList = some (R, Q) by rw [Gt.parse_is HOK.out HP1.out, h1]; rfl)
          have HROW := Lib.hid hrow
          obtain ⟨pq, nq, cq, hq⟩ := hrow.slice
          subst hq
          have c1 : w11.cell? ⟨w.heap.size, 1, none⟩ = some (.slice none 0 0) := by simp [World.cell?, HT11.out]
          have z1 : w11.frozen? ⟨w.heap.size, 1, none⟩ = false := frozen_of_row _ _ _ _ _ HT11.out
          have c0 : w11.cell? ⟨w.heap.size, 0, none⟩ = some (.slice pr nr cr) := by simp [World.cell?, HT11.out]
          have z0 : w11.frozen? ⟨w.heap.size, 0, none⟩ = false := frozen_of_row _ _ _ _ _ HT11.out
          have c2 : w11.cell? ⟨w.heap.size + 1, 0, none⟩ = some (.int .i64 0) := by simp [World.cell?, HE11.out]
          have z2 : w11.frozen? ⟨w.heap.size + 1, 0, none⟩ = false := frozen_of_row _ _ _ _ _ HE11.out
          clear h1 hrow
          go_wp2_with fail
          obtain ⟨w12, hw12⟩ : ∃ Z, ((((w11.setCell ⟨w.heap.size, 1, none⟩ (.slice pq nq cq)).setCell ⟨w.heap.size, 0, none⟩ (.slice pr nr cr)).setCell ⟨w.heap.size, 1, none⟩ (.slice pq nq cq)).setCell ⟨w.heap.size + 1, 0, none⟩ (.int .i64 0)) = Z := ⟨_, rfl⟩
          rw [hw12]
          have t1 : (w11.setCell ⟨w.heap.size, 1, none⟩ (.slice pq nq cq)).heap[w.heap.size]? = some (.cells #[.slice pr nr cr, .slice pq nq cq] 36 (0, 0)) := heap_setCell_same _ _ 1 _ _ (.slice pq nq cq) HT11.out
          have t2 : ((w11.setCell ⟨w.heap.size, 1, none⟩ (.slice pq nq cq)).setCell ⟨w.heap.size, 0, none⟩ (.slice pr nr cr)).heap[w.heap.size]? = some (.cells #[.slice pr nr cr, .slice pq nq cq] 36 (0, 0)) := heap_setCell_same _ _ 0 _ _ (.slice pr nr cr) t1
          have t3 : (((w11.setCell ⟨w.heap.size, 1, none⟩ (.slice pq nq cq)).setCell ⟨w.heap.size, 0, none⟩ (.slice pr nr cr)).setCell ⟨w.heap.size, 1, none⟩ (.slice pq nq cq)).heap[w.heap.size]? = some (.cells #[.slice pr nr cr, .slice pq nq cq] 36 (0, 0)) := heap_setCell_same _ _ 1 _ _ (.slice pq nq cq) t2
          have e3 : (((w11.setCell ⟨w.heap.size, 1, none⟩ (.slice pq nq cq)).setCell ⟨w.heap.size, 0, none⟩ (.slice pr nr cr)).setCell ⟨w.heap.size, 1, none⟩ (.slice pq nq cq)).heap[w.heap.size + 1]? = some (.cells #[.int .i64 0] 26 (0, 0)) := by
            rw [Below.heap_setCell _ _ _ _ (by simp), Below.heap_setCell _ _ _ _ (by simp), Below.heap_setCell _ _ _ _ (by simp)]; exact HE11.out
          have r1 := HR11.out.setT HT11.out (by decide) 1 (.slice pq nq cq)
          have r2 := r1.setT t1 (by decide) 0 (.slice pr nr cr)
          have r3 := r2.setT t2 (by decide) 1 (.slice pq nq cq)
          have q1 := HROW.out.setT HT11.out (by decide) 1 (.slice pq nq cq)
          have q2 := q1.setT t1 (by decide) 0 (.slice pr nr cr)
          have q3 := q2.setT t2 (by decide) 1 (.slice pq nq cq)
          have q4 := q3.setT e3 (by decide) 0 (.int .i64 0)
          have r4 : SwRow ((((w11.setCell ⟨w.heap.size, 1, none⟩ (.slice pq nq cq)).setCell ⟨w.heap.size, 0, none⟩ (.slice pr nr cr)).setCell ⟨w.heap.size, 1, none⟩ (.slice pq nq cq)).setCell ⟨w.heap.size + 1, 0, none⟩ (.int .i64 0)) (.slice pr nr cr) R := r3.setT e3 (by decide) 0 (.int .i64 0)
          have t4 : ((((w11.setCell ⟨w.heap.size, 1, none⟩ (.slice pq nq cq)).setCell ⟨w.heap.size, 0, none⟩ (.slice pr nr cr)).setCell ⟨w.heap.size, 1, none⟩ (.slice pq nq cq)).setCell ⟨w.heap.size + 1, 0, none⟩ (.int .i64 0)).heap[w.heap.size]? = some (.cells #[.slice pr nr cr, .slice pq nq cq] 36 (0, 0)) := by
            rw [Below.heap_setCell _ _ _ _ (by simp)]; exact t3
          have e4 := heap_setCell_same _ _ 0 _ _ (.int .i64 0) e3
          have HBW12 := Lib.hid ((((HBW11.out.setCell (p := ⟨w.heap.size, 1, none⟩) (Nat.le_refl _) (.slice pq nq cq)).setCell (p := ⟨w.heap.size, 0, none⟩) (Nat.le_refl _) (.slice pr nr cr)).setCell (p := ⟨w.heap.size, 1, none⟩) (Nat.le_refl _) (.slice pq nq cq)).setCell (p := ⟨w.heap.size + 1, 0, none⟩) (Nat.le_succ _) (.int .i64 0))
          rw [hw12] at q4 r4 t4 e4 HBW12
          have HQ4 := Lib.hid q4
          have HR4 := Lib.hid r4
          clear t1 t2 t3 e3 r1 r2 r3 q1 q2 q3 c0 c1 c2 z0 z1 z2 q4 r4 hw12
          refine leaves_cons (f := 44) (args := #[.pointer (some ⟨w.heap.size + 1, 0, none⟩), .func (.func 45) #[] #[.pointer (some ⟨w.heap.size, 0, none⟩)]]) (by simp) (by simp [go_sem]) ?_
          refine (tg_caught_idle _ _ _).mono ?_
          rintro e u' w'' ⟨rfl, rfl, rfl⟩
          have d0 : w''.cell? ⟨w.heap.size, 0, none⟩ = some (.slice pr nr cr) := by simp [World.cell?, t4]
          have d1 : w''.cell? ⟨w.heap.size, 1, none⟩ = some (.slice pq nq cq) := by simp [World.cell?, t4]
          have d2 : w''.cell? ⟨w.heap.size + 1, 0, none⟩ = some (.int .i64 0) := by simp [World.cell?, e4]
          clear t4 e4
          simp [Leaves, settle, results, Tryz.results21, go_sem, d0, d1, d2]
          rw [HPQ.out]
          exact ⟨⟨_, _, rfl, HR4.out, HQ4.out⟩, HBW12.out⟩
        · exact parse_doorW s w w11 HBW11.out (.slice pr nr cr) (.slice none 0 0) HT11.out HE11.out (by rw [Gt.parse_is HOK.out HP1.out, h1]; rfl) _ _ _ _ _ _ _ _ _ _ _ _ _ _ _ _ _ _ _ _ _ _ _ _ _ _ _ _ _ _ _ _ _
      · exact parse_doorW s w w7 HBW7.out (.slice none 0 0) (.slice none 0 0) HT7.out HE7.out (Gt.parse_segs HOK.out h1) _ _ _ _ _ _ _ _ _ _ _ _ _ _ _ _ _ _ _ _ _ _ _ _ _ _ _ _ _ _ _ _ _
end Go.Proofs.YtfacmnooklljnaaGreatDoor

/- request: line. It reads the first line, or gives up. No conditions but those that each law states. Printed by genZj.py. -/
namespace Go.Proofs.YtfacmnooklljnaaGreatDoor
set_option linter.unusedVariables false
set_option linter.unusedSimpArgs false
open Go.RowKit Go.Shelf
attribute [local go_sem] Oper.semAt_some
set_option maxHeartbeats 8000000
set_option maxRecDepth 100000
/-- whether a byte is a figure -/
theorem rq_digit (i V : Nat) (vb : ByteArray) (w : World) (h : Boxed w V 9 (.string vb)) (hi : i < vb.size) (hz : vb.size ≤ 1000000) :
    Calls Tryz.prog 104 #[.int .i64 (i : Int), .pointer (some ⟨V, 0, none⟩)] w fun e w' => e = .returned (.bool (Ap.fig (vb.data.toList.getD i 0))) ∧ w' = w := by
  have hix := fun W => index_at vb W i hi
  have hc := h.cell
  have e : vb.data.toList.getD i 0 = vb[i] := by rw [List.getD_eq_getElem?_getD, List.getElem?_eq_getElem (show i < vb.data.toList.length from hi)]; rfl
  rw [e]
  unfold Ap.fig
  obtain ⟨x, hx⟩ : ∃ x : Int, ((vb[i]).toNat : Int) = x := ⟨_, rfl⟩
  rw [hx]
  simp only [hx] at hix
  clear h hx e
  go_enter Tryz.func104, Tryz.ntmps104
  by_cases h1 : 48 ≤ x
  · have e1 : decide (48 ≤ x ∧ x ≤ 57) = decide (x ≤ 57) := by simp [h1]
    rw [e1]
    clear e1
    go_wp2_with (simp only [hix])
    exact bodyPost_ret (v := .bool (decide (x ≤ 57))) (by simp [results, Tryz.results104, go_sem]) rfl ⟨rfl, rfl⟩
  · have e1 : decide (48 ≤ x ∧ x ≤ 57) = false := by simp [h1]
    rw [e1]
    clear e1
    go_wp2_with (simp only [hix])
    exact bodyPost_ret (v := .bool false) (by simp [results, Tryz.results104, go_sem]) rfl ⟨rfl, rfl⟩
theorem digit_in (args : Array Value) (W : World) : (callFunc 104 args).run Tryz.prog W = .ok (.enter 104 args) W := enters_of Tryz.func104 (by kernel_rfl) rfl args W
/-- what line leaves -/
def LnO (A : Nat) (F : ByteArray) (V : Value) (o : Option (List UInt8 × Rq.Tg × List UInt8)) (e : Ending) (w' : World) : Prop := match o with
  | none => e = .panicked [{ v := stat 400, recovered := false }]
  | some (m, g, v) => e = .returned (.tuple #[]) ∧ ∃ (p q : Option Addr) (n c k d : Nat), w'.heap[A]? = some (lkC F V ⟨m.toArray⟩ ⟨v.toArray⟩ (.slice p n c) (.slice q k d)) ∧ SwRow w' (.slice p n c) g.1 ∧ PrRow w' (.slice q k d) g.2
def liF (A G : Nat) (F mb vb : ByteArray) (p pp qp : Option Addr) (n c np pc qn qc : Nat) : Nat → Value → Prop
  | 0, v => v = .pointer (some ⟨A, 0, none⟩)
  | 1, v => v = .pointer (some ⟨A, 0, none⟩)
  | 2, v => v = .pointer (some ⟨A, 0, none⟩)
  | 3, v => v = .slice (some ⟨G, 0, none⟩) 3 3
  | 4, v => v = .pointer (some ⟨G, 0, none⟩)
  | 5, v => v = .string mb
  | 6, v => v = .agg #[.slice pp np pc, .slice qp qn qc]
  | 7, v => v = .slice (some ⟨G, 0, none⟩) 3 3
  | 8, v => v = .pointer (some ⟨G, 2, none⟩)
  | 9, v => v = .string vb
  | 10, v => v = .pointer (some ⟨A, 0, none⟩)
  | 11, v => v = .pointer (some ⟨A, 2, none⟩)
  | 12, v => True
  | 13, v => v = .pointer (some ⟨A, 0, none⟩)
  | 14, v => v = .pointer (some ⟨A, 4, none⟩)
  | 15, v => True
  | 16, v => v = .pointer (some ⟨A, 0, none⟩)
  | 17, v => v = .pointer (some ⟨A, 3, none⟩)
  | 18, v => True
  | _, _ => False
def liG (A G : Nat) (F mb vb : ByteArray) (p pp qp : Option Addr) (n c np pc qn qc : Nat) (f : Nat → Bool) (j : Nat) (w : World) (v : Value) : Prop := liF A G F mb vb p pp qp n c np pc qn qc j v
structure liT (w0 : World) (A G : Nat) (F mb vb : ByteArray) (p pp qp : Option Addr) (n c np pc qn qc : Nat) (f : Nat → Bool) (w : World) : Prop where
  bel : Below A w0 w
  size : w.heap.size = w0.heap.size
  row : ∃ a b P Q, w.heap[A]? = some (lkC F (.slice p n c) a b P Q) ∧ (f 12 = true → a = mb) ∧ (f 15 = true → P = .slice pp np pc ∧ Q = .slice qp qn qc) ∧ (f 18 = true → b = vb)
  oth : ∀ j, j ≠ A → w.heap[j]? = w0.heap[j]?
theorem li_true {f : Nat → Bool} {i j : Nat} (hn : j ≠ i) (h : (if j = i then true else f j) = true) : f j = true := by simpa [hn] using h
theorem liT.step {w0 : World} {A G : Nat} {F mb vb : ByteArray} {p pp qp : Option Addr} {n c np pc qn qc : Nat} {w : World} {f : Nat → Bool} (i : Nat) (h : liT w0 A G F mb vb p pp qp n c np pc qn qc f w) (h12 : 12 ≠ i) (h15 : 15 ≠ i) (h18 : 18 ≠ i) : liT w0 A G F mb vb p pp qp n c np pc qn qc (fun j => if j = i then true else f j) w := by
  obtain ⟨a, b, P, Q, h1, h2, h3, h4⟩ := h.row
  exact ⟨h.bel, h.size, ⟨a, b, P, Q, h1, fun e => h2 (li_true h12 e), fun e => h3 (li_true h15 e), fun e => h4 (li_true h18 e)⟩, h.oth⟩
theorem liT.put12 {w0 : World} {A G : Nat} {F mb vb : ByteArray} {p pp qp : Option Addr} {n c np pc qn qc : Nat} {w : World} {f : Nat → Bool} (h : liT w0 A G F mb vb p pp qp n c np pc qn qc f w) : liT w0 A G F mb vb p pp qp n c np pc qn qc (fun j => if j = 12 then true else f j) (w.setCell ⟨A, 2, none⟩ (.string mb)) := by
  obtain ⟨a, b, P, Q, h1, h2, h3, h4⟩ := h.row
  unfold lkC at h1
  have hr := heap_setCell_same w A 2 _ _ (.string mb) h1
  exact ⟨h.bel.setCell (p := ⟨A, 2, none⟩) (Nat.le_refl A) _, by have := h.size; simpa using this, ⟨mb, b, P, Q, by rw [hr]; simp [lkC], fun _ => rfl, fun e => h3 (li_true (by decide) e), fun e => h4 (li_true (by decide) e)⟩, fun j hj => (Below.heap_setCell _ _ _ _ (by show j ≠ A; exact hj)).trans (h.oth j hj)⟩
theorem liT.put18 {w0 : World} {A G : Nat} {F mb vb : ByteArray} {p pp qp : Option Addr} {n c np pc qn qc : Nat} {w : World} {f : Nat → Bool} (h : liT w0 A G F mb vb p pp qp n c np pc qn qc f w) : liT w0 A G F mb vb p pp qp n c np pc qn qc (fun j => if j = 18 then true else f j) (w.setCell ⟨A, 3, none⟩ (.string vb)) := by
  obtain ⟨a, b, P, Q, h1, h2, h3, h4⟩ := h.row
  unfold lkC at h1
  have hr := heap_setCell_same w A 3 _ _ (.string vb) h1
  exact ⟨h.bel.setCell (p := ⟨A, 3, none⟩) (Nat.le_refl A) _, by have := h.size; simpa using this, ⟨a, vb, P, Q, by rw [hr]; simp [lkC], fun e => h2 (li_true (by decide) e), fun e => h3 (li_true (by decide) e), fun _ => rfl⟩, fun j hj => (Below.heap_setCell _ _ _ _ (by show j ≠ A; exact hj)).trans (h.oth j hj)⟩
theorem liT.put15 {w0 : World} {A G : Nat} {F mb vb : ByteArray} {p pp qp : Option Addr} {n c np pc qn qc : Nat} {w : World} {f : Nat → Bool} (h : liT w0 A G F mb vb p pp qp n c np pc qn qc f w) : liT w0 A G F mb vb p pp qp n c np pc qn qc (fun j => if j = 15 then true else f j) ((w.setCell ⟨A, 4, none⟩ (.slice pp np pc)).setCell ⟨A, 5, none⟩ (.slice qp qn qc)) := by
  obtain ⟨a, b, P, Q, h1, h2, h3, h4⟩ := h.row
  unfold lkC at h1
  have hr0 := heap_setCell_same w A 4 _ _ (.slice pp np pc) h1
  have hr := heap_setCell_same _ A 5 _ _ (.slice qp qn qc) hr0
  exact ⟨(h.bel.setCell (p := ⟨A, 4, none⟩) (Nat.le_refl A) _).setCell (p := ⟨A, 5, none⟩) (Nat.le_refl A) _, by have := h.size; simpa using this, ⟨a, b, _, _, by rw [hr]; simp [lkC], fun e => h2 (li_true (by decide) e), fun _ => ⟨rfl, rfl⟩, fun e => h4 (li_true (by decide) e)⟩, fun j hj => ((Below.heap_setCell _ _ _ _ (by show j ≠ A; exact hj)).trans (Below.heap_setCell _ _ _ _ (by show j ≠ A; exact hj))).trans (h.oth j hj)⟩
def liSlot (i : Nat) : Nat := ([34, 35, 36, 37, 38, 39, 40, 41, 42, 43, 44, 45, 8, 46, 47, 9, 48, 49, 10] : List Nat).getD i 10
theorem liSlot_lt (i : Nat) : liSlot i < 79 := by
  match i with
  | 0 | 1 | 2 | 3 | 4 | 5 | 6 | 7 | 8 | 9 | 10 | 11 | 12 | 13 | 14 | 15 | 16 | 17 | 18 => decide
  | n + 19 => show 10 < 79; decide
theorem liSlot_inj : ∀ i j, i < 19 → j < 19 → liSlot i = liSlot j → i = j := by
  have h : ∀ i j : Fin 19, liSlot i.val = liSlot j.val → i = j := by decide +kernel
  intro i j hi hj e
  have := h ⟨i, hi⟩ ⟨j, hj⟩ e
  simpa using this
theorem liNot : ∀ i, i < 19 → liSlot i ≠ 0 ∧ liSlot i ≠ 2 ∧ liSlot i ≠ 3 := by
  have h : ∀ i : Fin 19, liSlot i.val ≠ 0 ∧ liSlot i.val ≠ 2 ∧ liSlot i.val ≠ 3 := by decide +kernel
  exact fun i hi => h ⟨i, hi⟩
theorem rq_line (A : Nat) (F : ByteArray) (p : Option Addr) (n c : Nat) (w : World) (h : w.heap[A]? = some (lkC F (.slice p n c) ⟨#[]⟩ ⟨#[]⟩ (.slice none 0 0) (.slice none 0 0))) (hF : F.size ≤ 250) (hm : Mx w) (hA : 0 < A) :
    Calls Tryz.prog 71 #[.pointer (some ⟨A, 0, none⟩)] w fun e w' => Below A w w' ∧ LnO A F (.slice p n c) (Rq.line F.data.toList) e w' := by
  obtain ⟨c0, c1, c2, c3, c4, c5⟩ := lk_cells h
  have hAl : A < w.heap.size := (Array.getElem?_eq_some_iff.1 h).1
  have HSP := Lib.hid (tg_split F 32 w (by omega) hm)
  have HM := Lib.hid hm
  have HH := Lib.hid h
  have HAL := Lib.hid hAl
  have HAP := Lib.hid hA
  have MU := Lib.hid (fun W => rq_must 400 W)
  have MN := Lib.hid (fun W => rq_must_no 400 W)
  have HFZ := Lib.hid hF
  obtain ⟨o, ho⟩ : ∃ z, Rq.line F.data.toList = z := ⟨_, rfl⟩
  rw [ho]
  have HOO := Lib.hid ho
  clear h hm c1 c2 c3 c4 c5 hAl hA hF ho
  go_enter Tryz.func71, Tryz.ntmps71
  go_wp2_with fail
  refine HSP.out.mono ?_
  rintro e w1 ⟨D, hD, rfl, hw1⟩
  have hg : w1.heap[w.heap.size]? = some (.cells (D.map Value.string).toArray 9 (0, 0)) := by rw [hw1]; exact World.alloc_heap_new _ _
  have hb1 : Below w.heap.size w w1 := by rw [hw1]; exact (Below.refl _ _).alloc (Nat.le_refl _) _
  have hln : o = Rq.line3 (D.map (·.data.toList)) := by rw [← HOO.out]; unfold Rq.line; rw [hD]
  have hDs : ∀ z ∈ D, z.size ≤ 250 := fun z hz => by
    have h1 := Gs.parts_len 32 F.data.toList [] z.data.toList (by rw [← hD]; exact List.mem_map.2 ⟨z, hz, rfl⟩)
    have h2 : F.data.toList.length = F.size := rfl
    have h3 : z.data.toList.length = z.size := rfl
    have h4 := HFZ.out
    simp only [List.length_nil] at h1
    omega
  obtain ⟨G, hG⟩ : ∃ z, w.heap.size = z := ⟨_, rfl⟩
  rw [hG] at hg ⊢
  have HG := Lib.hid hG
  have HB1 := Lib.hid hb1
  clear hw1 hD hb1 hG c0
  by_cases h3 : D.length = 3
  rotate_left
  · have e3 : ((D.length : Int) == 3) = false := beq_eq_false_iff_ne.2 (by omega)
    have HO := Lib.hid (show o = none by rw [hln]; exact Rq.line3_len (by simpa using h3))
    obtain ⟨N, hN⟩ : ∃ z, D.length = z := ⟨_, rfl⟩
    rw [hN] at e3 ⊢
    clear hN h3 hln hDs hg
    go_wp2_with fail
    refine (MN.out _).mono ?_
    rintro e w5 ⟨rfl, rfl⟩
    exact ⟨rfl, HB1.out.mono (Nat.le_of_lt HAL.out), by rw [HO.out]; rfl⟩
  match D, h3 with
  | [mb, tb, vb], _ =>
  have hg0 : w1.cell? ⟨G, 0, none⟩ = some (.string mb) := by simp [World.cell?, hg]
  have KT := Lib.hid (fun W => tok_token mb W (by have := hDs mb (by simp); omega))
  obtain ⟨tk, htk⟩ : ∃ z, Tp.isTok mb.data.toList = z := ⟨_, rfl⟩
  rw [htk] at KT
  have HG1 := Lib.hid hg
  have HTZ := Lib.hid (hDs tb (by simp))
  have HVZ := Lib.hid (hDs vb (by simp))
  have hlo : o = Rq.line3 [mb.data.toList, tb.data.toList, vb.data.toList] := hln
  have HLN := Lib.hid hlo
  have HTK := Lib.hid htk
  clear hln hDs hg htk hlo
  simp only [List.length_cons, List.length_nil, Nat.reduceAdd]
  cases tk with
  | false =>
    have HO := Lib.hid (show o = none by rw [HLN.out]; exact Rq.line3_tok HTK.out)
    go_wp2_with fail
    refine (KT.out _).mono ?_
    rintro e w2 ⟨rfl, hb2⟩
    have HB2 := Lib.hid (HB1.out.trans (hb2.mono HB1.out.size))
    clear hb2
    go_wp2_with fail
    refine (MN.out _).mono ?_
    rintro e w5 ⟨rfl, rfl⟩
    exact ⟨rfl, HB2.out.mono (Nat.le_of_lt HAL.out), by rw [HO.out]; rfl⟩
  | true =>
  go_wp2_with fail
  refine (KT.out _).mono ?_
  rintro e w2 ⟨rfl, hb2⟩
  have HB2 := Lib.hid (HB1.out.trans (hb2.mono HB1.out.size))
  have HG2 := Lib.hid ((hb2.block _ (Array.getElem?_eq_some_iff.1 HG1.out).1).trans HG1.out)
  clear hb2 hg0 HG1
  go_wp2_with fail
  refine (MU.out _).mono ?_
  rintro e w9 ⟨rfl, hw9⟩
  subst hw9
  have g1 : w9.cell? ⟨G, 1, none⟩ = some (.string tb) := by simp [World.cell?, HG2.out]
  have HP := Lib.hid (tg_ParseW tb w9 (by have := HTZ.out; omega) (HM.out.below HB2.out (by have := HAL.out; have := HAP.out; omega)) (by have := HB2.out.size; have := HAL.out; omega))
  obtain ⟨og, hog⟩ : ∃ z, Gt.parse tb.data.toList = z := ⟨_, rfl⟩
  rw [hog] at HP
  have HOG := Lib.hid hog
  clear hog
  go_wp2_with fail
  refine HP.out.mono ?_
  rintro e w3 ⟨hpo, hb3⟩
  have HB3 := Lib.hid (HB2.out.trans (hb3.mono HB2.out.size))
  have HG3 := Lib.hid ((hb3.block _ (Array.getElem?_eq_some_iff.1 HG2.out).1).trans HG2.out)
  clear hb3 HG2 g1 HP
  cases og with
  | none =>
    have hpo : e = _ := hpo
    subst hpo
    have HO := Lib.hid (show o = none by rw [HLN.out]; exact Rq.line3_par HOG.out)
    go_wp2_with fail
    refine (MN.out _).mono ?_
    rintro e w5 ⟨rfl, rfl⟩
    exact ⟨rfl, (HB3.out.mono (Nat.le_of_lt HAL.out)).alloc (by have := HB3.out.size; have := HAL.out; omega) _, by rw [HO.out]; rfl⟩
  | some g =>
  obtain ⟨P, Q⟩ := g
  obtain ⟨vp, vq, rfl, hvp, hvq⟩ := hpo
  obtain ⟨pp, pc, rfl⟩ := hvp.slice
  obtain ⟨qp, qn, qc, rfl⟩ := hvq.slice
  obtain ⟨np, hnp⟩ : ∃ z, P.length = z := ⟨_, rfl⟩
  rw [hnp] at hvp ⊢
  obtain ⟨w4, hw4⟩ : ∃ z, w3.alloc (.cells #[.slice pp np pc, .slice qp qn qc] 36) = z := ⟨_, rfl⟩
  have hb4 : Below w3.heap.size w3 w4 := by rw [← hw4]; exact (Below.refl _ _).alloc (Nat.le_refl _) _
  obtain ⟨T, hT⟩ : ∃ z, w3.heap.size = z := ⟨_, rfl⟩
  have HT4 := Lib.hid (show w4.heap[T]? = some (.cells #[.slice pp np pc, .slice qp qn qc] 36 (0, 0)) by rw [← hw4, ← hT]; exact World.alloc_heap_new _ _)
  have HB4 := Lib.hid (HB3.out.trans (hb4.mono HB3.out.size))
  have HG4 := Lib.hid ((hb4.block _ (Array.getElem?_eq_some_iff.1 HG3.out).1).trans HG3.out)
  have HA4 := Lib.hid ((HB4.out.block _ HAL.out).trans HH.out)
  have HVP := Lib.hid (show SwRow w4 (.slice pp np pc) P from hvp.below hb4)
  have HVQ := Lib.hid (show PrRow w4 (.slice qp qn qc) Q from hvq.belowW hb4)
  have HW4 := Lib.hid hw4
  have HTT := Lib.hid hT
  have HGA := Lib.hid (show G ≠ A by have h1 := HG.out; have h2 := HAL.out; omega)
  have HTA := Lib.hid (show T ≠ A by have h1 := HG.out; have h2 := HAL.out; have h3 := HB3.out.size; omega)
  clear hvp hvq hnp hw4 hT hb4 HG3
  go_wp2_with fail
  refine (MU.out _).mono ?_
  rintro e w9 ⟨rfl, hw9⟩
  rw [HW4.out] at hw9
  subst w9
  rw [HTT.out]
  go_upto_region 4 with (fail)
  refine region_slots4 liSlot (liG A G F mb vb p pp qp n c np pc qn qc) (liT w4 A G F mb vb p pp qp n c np pc qn qc) (by kernel_rfl) (by kernel_rfl) (fun i => Nat.lt_of_lt_of_le (liSlot_lt i) (by show 79 ≤ _; simp)) (fun i j hi hj h => liSlot_inj i j hi hj h) ?start ?dst ?step ?done
  case start => exact ⟨(Below.refl _ _).drew, rfl, ⟨_, _, _, _, HA4.out, fun e => (by cases e), fun e => (by cases e), fun e => (by cases e)⟩, fun _ _ => rfl⟩
  case dst =>
    intro i o ho
    match i, ho with
    | 0, ho => cases ho; exact .inl rfl
    | 1, ho => cases ho; exact .inl rfl
    | 2, ho => cases ho; exact .inl rfl
    | 3, ho => cases ho; exact .inl rfl
    | 4, ho => cases ho; exact .inl rfl
    | 5, ho => cases ho; exact .inl rfl
    | 6, ho => cases ho; exact .inl rfl
    | 7, ho => cases ho; exact .inl rfl
    | 8, ho => cases ho; exact .inl rfl
    | 9, ho => cases ho; exact .inl rfl
    | 10, ho => cases ho; exact .inl rfl
    | 11, ho => cases ho; exact .inl rfl
    | 12, ho => cases ho; exact .inr rfl
    | 13, ho => cases ho; exact .inl rfl
    | 14, ho => cases ho; exact .inl rfl
    | 15, ho => cases ho; exact .inr rfl
    | 16, ho => cases ho; exact .inl rfl
    | 17, ho => cases ho; exact .inl rfl
    | 18, ho => cases ho; exact .inr rfl
    | n + 19, ho => exact absurd ho (by simp)
  case step =>
    intro f a' W i o ho hfi hpre hT hrest
    have hR : ∀ j m, j ≠ A → W.cell? ⟨j, m, none⟩ = w4.cell? ⟨j, m, none⟩ := fun j m hj => by simp only [World.cell?, hT.oth j hj]
    match i, ho with
    | 0, ho =>
      cases ho
      have q0 : a'.tmps.getD 0 undef = .pointer (some ⟨A, 0, none⟩) := (hrest 0 (fun i hi => (liNot i hi).1))
      have e0 := rg_ev q0
      exact rg_same4 (.pointer (some ⟨A, 0, none⟩)) (by unfold Oper.wp execOp; go_simp; all_goals ((try simp only [e0]); (try go_simp); (try rw [if_pos (by omega)]); (try rw [if_neg (by omega)]); first | done | rfl | exact ⟨rfl, rfl⟩ | trivial)) (by simp) rfl (hT.step 0 (by decide) (by decide) (by decide)) (fun j v' h => h)
    | 1, ho =>
      cases ho
      have q0 : a'.tmps.getD 0 undef = .pointer (some ⟨A, 0, none⟩) := (hrest 0 (fun i hi => (liNot i hi).1))
      have e0 := rg_ev q0
      exact rg_same4 (.pointer (some ⟨A, 0, none⟩)) (by unfold Oper.wp execOp; go_simp; all_goals ((try simp only [e0]); (try go_simp); (try rw [if_pos (by omega)]); (try rw [if_neg (by omega)]); first | done | rfl | exact ⟨rfl, rfl⟩ | trivial)) (by simp) rfl (hT.step 1 (by decide) (by decide) (by decide)) (fun j v' h => h)
    | 2, ho =>
      cases ho
      have q0 : a'.tmps.getD 0 undef = .pointer (some ⟨A, 0, none⟩) := (hrest 0 (fun i hi => (liNot i hi).1))
      have e0 := rg_ev q0
      exact rg_same4 (.pointer (some ⟨A, 0, none⟩)) (by unfold Oper.wp execOp; go_simp; all_goals ((try simp only [e0]); (try go_simp); (try rw [if_pos (by omega)]); (try rw [if_neg (by omega)]); first | done | rfl | exact ⟨rfl, rfl⟩ | trivial)) (by simp) rfl (hT.step 2 (by decide) (by decide) (by decide)) (fun j v' h => h)
    | 3, ho =>
      cases ho
      have q2 : a'.tmps.getD 2 undef = .slice (some ⟨G, 0, none⟩) 3 3 := (hrest 2 (fun i hi => (liNot i hi).2.1))
      have e2 := rg_ev q2
      exact rg_same4 (.slice (some ⟨G, 0, none⟩) 3 3) (by unfold Oper.wp execOp; go_simp; all_goals ((try simp only [e2]); (try go_simp); (try rw [if_pos (by omega)]); (try rw [if_neg (by omega)]); first | done | rfl | exact ⟨rfl, rfl⟩ | trivial)) (by simp) rfl (hT.step 3 (by decide) (by decide) (by decide)) (fun j v' h => h)
    | 4, ho =>
      cases ho
      have q37 : a'.tmps.getD 37 undef = .slice (some ⟨G, 0, none⟩) 3 3 := (hpre { on := 3, ground := .data } (by simp) rfl).2
      have e37 := rg_ev q37
      exact rg_same4 (.pointer (some ⟨G, 0, none⟩)) (by unfold Oper.wp execOp; go_simp; all_goals ((try simp only [e37]); (try go_simp); (try rw [if_pos (by omega)]); (try rw [if_neg (by omega)]); first | done | rfl | exact ⟨rfl, rfl⟩ | trivial)) (by simp) rfl (hT.step 4 (by decide) (by decide) (by decide)) (fun j v' h => h)
    | 5, ho =>
      cases ho
      have q38 : a'.tmps.getD 38 undef = .pointer (some ⟨G, 0, none⟩) := (hpre { on := 4, ground := .data } (by simp) rfl).2
      have e38 := rg_ev q38
      have hc : W.cell? ⟨G, 0, none⟩ = some (.string mb) := (hR G 0 HGA.out).trans (by simp [World.cell?, HG4.out])
      exact rg_same4 (.string mb) (by unfold Oper.wp execOp; go_simp; all_goals ((try simp only [e38]); (try go_simp); (try rw [if_pos (by omega)]); (try rw [if_neg (by omega)]); first | done | rfl | exact ⟨rfl, rfl⟩ | trivial)) (by simp) rfl (hT.step 5 (by decide) (by decide) (by decide)) (fun j v' h => h)
    | 6, ho =>
      cases ho
      have q3 : a'.tmps.getD 3 undef = .pointer (some ⟨T, 0, none⟩) := (hrest 3 (fun i hi => (liNot i hi).2.2))
      have e3 := rg_ev q3
      have hc : W.cell? ⟨T, 0, none⟩ = some (.slice pp np pc) := (hR T 0 HTA.out).trans (by simp [World.cell?, HT4.out])
      have hc2 : W.cell? ⟨T, 1, none⟩ = some (.slice qp qn qc) := (hR T 1 HTA.out).trans (by simp [World.cell?, HT4.out])
      exact rg_same4 (.agg #[.slice pp np pc, .slice qp qn qc]) (by unfold Oper.wp execOp; go_simp; all_goals ((try simp only [e3]); (try go_simp); (try rw [if_pos (by omega)]); (try rw [if_neg (by omega)]); first | done | rfl | exact ⟨rfl, rfl⟩ | trivial)) (by simp) rfl (hT.step 6 (by decide) (by decide) (by decide)) (fun j v' h => h)
    | 7, ho =>
      cases ho
      have q2 : a'.tmps.getD 2 undef = .slice (some ⟨G, 0, none⟩) 3 3 := (hrest 2 (fun i hi => (liNot i hi).2.1))
      have e2 := rg_ev q2
      exact rg_same4 (.slice (some ⟨G, 0, none⟩) 3 3) (by unfold Oper.wp execOp; go_simp; all_goals ((try simp only [e2]); (try go_simp); (try rw [if_pos (by omega)]); (try rw [if_neg (by omega)]); first | done | rfl | exact ⟨rfl, rfl⟩ | trivial)) (by simp) rfl (hT.step 7 (by decide) (by decide) (by decide)) (fun j v' h => h)
    | 8, ho =>
      cases ho
      have q41 : a'.tmps.getD 41 undef = .slice (some ⟨G, 0, none⟩) 3 3 := (hpre { on := 7, ground := .data } (by simp) rfl).2
      have e41 := rg_ev q41
      exact rg_same4 (.pointer (some ⟨G, 2, none⟩)) (by unfold Oper.wp execOp; go_simp; all_goals ((try simp only [e41]); (try go_simp); (try rw [if_pos (by omega)]); (try rw [if_neg (by omega)]); first | done | rfl | exact ⟨rfl, rfl⟩ | trivial)) (by simp) rfl (hT.step 8 (by decide) (by decide) (by decide)) (fun j v' h => h)
    | 9, ho =>
      cases ho
      have q42 : a'.tmps.getD 42 undef = .pointer (some ⟨G, 2, none⟩) := (hpre { on := 8, ground := .data } (by simp) rfl).2
      have e42 := rg_ev q42
      have hc : W.cell? ⟨G, 2, none⟩ = some (.string vb) := (hR G 2 HGA.out).trans (by simp [World.cell?, HG4.out])
      exact rg_same4 (.string vb) (by unfold Oper.wp execOp; go_simp; all_goals ((try simp only [e42]); (try go_simp); (try rw [if_pos (by omega)]); (try rw [if_neg (by omega)]); first | done | rfl | exact ⟨rfl, rfl⟩ | trivial)) (by simp) rfl (hT.step 9 (by decide) (by decide) (by decide)) (fun j v' h => h)
    | 10, ho =>
      cases ho
      have q34 : a'.tmps.getD 34 undef = .pointer (some ⟨A, 0, none⟩) := (hpre { on := 0, ground := .data } (by simp) rfl).2
      have e34 := rg_ev q34
      exact rg_same4 (.pointer (some ⟨A, 0, none⟩)) (by unfold Oper.wp execOp; go_simp; all_goals ((try simp only [e34]); (try go_simp); (try rw [if_pos (by omega)]); (try rw [if_neg (by omega)]); first | done | rfl | exact ⟨rfl, rfl⟩ | trivial)) (by simp) rfl (hT.step 10 (by decide) (by decide) (by decide)) (fun j v' h => h)
    | 11, ho =>
      cases ho
      have q44 : a'.tmps.getD 44 undef = .pointer (some ⟨A, 0, none⟩) := (hpre { on := 10, ground := .data } (by simp) rfl).2
      have e44 := rg_ev q44
      exact rg_same4 (.pointer (some ⟨A, 2, none⟩)) (by unfold Oper.wp execOp; go_simp; all_goals ((try simp only [e44]); (try go_simp); (try rw [if_pos (by omega)]); (try rw [if_neg (by omega)]); first | done | rfl | exact ⟨rfl, rfl⟩ | trivial)) (by simp) rfl (hT.step 11 (by decide) (by decide) (by decide)) (fun j v' h => h)
    | 12, ho =>
      cases ho
      have q45 : a'.tmps.getD 45 undef = .pointer (some ⟨A, 2, none⟩) := (hpre { on := 11, ground := .data } (by simp) rfl).2
      have q39 : a'.tmps.getD 39 undef = .string mb := (hpre { on := 5, ground := .data } (by simp) rfl).2
      have e45 := rg_ev q45
      have e39 := rg_ev q39
      obtain ⟨a, b, P1, Q1, hd, _⟩ := hT.row
      unfold lkC at hd
      have hz2 : W.frozen? ⟨A, 2, none⟩ = false := frozen_of_row _ _ _ _ _ hd
      have hc2 : W.cell? ⟨A, 2, none⟩ = some (.string a) := by simp [World.cell?, hd]
      have TN := hT.put12
      have HTN := Lib.hid TN
      clear TN hd
      unfold Oper.wp execOp
      go_simp
      first | done | (refine ⟨trivial, ?_, fun j _ h => h⟩; have h := HTN.out; simpa using h)
    | 13, ho =>
      cases ho
      have q35 : a'.tmps.getD 35 undef = .pointer (some ⟨A, 0, none⟩) := (hpre { on := 1, ground := .data } (by simp) rfl).2
      have e35 := rg_ev q35
      exact rg_same4 (.pointer (some ⟨A, 0, none⟩)) (by unfold Oper.wp execOp; go_simp; all_goals ((try simp only [e35]); (try go_simp); (try rw [if_pos (by omega)]); (try rw [if_neg (by omega)]); first | done | rfl | exact ⟨rfl, rfl⟩ | trivial)) (by simp) rfl (hT.step 13 (by decide) (by decide) (by decide)) (fun j v' h => h)
    | 14, ho =>
      cases ho
      have q46 : a'.tmps.getD 46 undef = .pointer (some ⟨A, 0, none⟩) := (hpre { on := 13, ground := .data } (by simp) rfl).2
      have e46 := rg_ev q46
      exact rg_same4 (.pointer (some ⟨A, 4, none⟩)) (by unfold Oper.wp execOp; go_simp; all_goals ((try simp only [e46]); (try go_simp); (try rw [if_pos (by omega)]); (try rw [if_neg (by omega)]); first | done | rfl | exact ⟨rfl, rfl⟩ | trivial)) (by simp) rfl (hT.step 14 (by decide) (by decide) (by decide)) (fun j v' h => h)
    | 15, ho =>
      cases ho
      have q47 : a'.tmps.getD 47 undef = .pointer (some ⟨A, 4, none⟩) := (hpre { on := 14, ground := .data } (by simp) rfl).2
      have q40 : a'.tmps.getD 40 undef = .agg #[.slice pp np pc, .slice qp qn qc] := (hpre { on := 6, ground := .data } (by simp) rfl).2
      have e47 := rg_ev q47
      have e40 := rg_ev q40
      obtain ⟨a, b, P1, Q1, hd, _⟩ := hT.row
      unfold lkC at hd
      have hz4 : W.frozen? ⟨A, 4, none⟩ = false := frozen_of_row _ _ _ _ _ hd
      have hc4 : W.cell? ⟨A, 4, none⟩ = some (P1) := by simp [World.cell?, hd]
      have hz5 : W.frozen? ⟨A, 5, none⟩ = false := frozen_of_row _ _ _ _ _ hd
      have hc5 : W.cell? ⟨A, 5, none⟩ = some (Q1) := by simp [World.cell?, hd]
      have TN := hT.put15
      have HTN := Lib.hid TN
      clear TN hd
      unfold Oper.wp execOp
      go_simp
      first | done | (refine ⟨trivial, ?_, fun j _ h => h⟩; have h := HTN.out; simpa using h)
    | 16, ho =>
      cases ho
      have q36 : a'.tmps.getD 36 undef = .pointer (some ⟨A, 0, none⟩) := (hpre { on := 2, ground := .data } (by simp) rfl).2
      have e36 := rg_ev q36
      exact rg_same4 (.pointer (some ⟨A, 0, none⟩)) (by unfold Oper.wp execOp; go_simp; all_goals ((try simp only [e36]); (try go_simp); (try rw [if_pos (by omega)]); (try rw [if_neg (by omega)]); first | done | rfl | exact ⟨rfl, rfl⟩ | trivial)) (by simp) rfl (hT.step 16 (by decide) (by decide) (by decide)) (fun j v' h => h)
    | 17, ho =>
      cases ho
      have q48 : a'.tmps.getD 48 undef = .pointer (some ⟨A, 0, none⟩) := (hpre { on := 16, ground := .data } (by simp) rfl).2
      have e48 := rg_ev q48
      exact rg_same4 (.pointer (some ⟨A, 3, none⟩)) (by unfold Oper.wp execOp; go_simp; all_goals ((try simp only [e48]); (try go_simp); (try rw [if_pos (by omega)]); (try rw [if_neg (by omega)]); first | done | rfl | exact ⟨rfl, rfl⟩ | trivial)) (by simp) rfl (hT.step 17 (by decide) (by decide) (by decide)) (fun j v' h => h)
    | 18, ho =>
      cases ho
      have q49 : a'.tmps.getD 49 undef = .pointer (some ⟨A, 3, none⟩) := (hpre { on := 17, ground := .data } (by simp) rfl).2
      have q43 : a'.tmps.getD 43 undef = .string vb := (hpre { on := 9, ground := .data } (by simp) rfl).2
      have e49 := rg_ev q49
      have e43 := rg_ev q43
      obtain ⟨a, b, P1, Q1, hd, _⟩ := hT.row
      unfold lkC at hd
      have hz3 : W.frozen? ⟨A, 3, none⟩ = false := frozen_of_row _ _ _ _ _ hd
      have hc3 : W.cell? ⟨A, 3, none⟩ = some (.string b) := by simp [World.cell?, hd]
      have TN := hT.put18
      have HTN := Lib.hid TN
      clear TN hd
      unfold Oper.wp execOp
      go_simp
      first | done | (refine ⟨trivial, ?_, fun j _ h => h⟩; have h := HTN.out; simpa using h)
    | n + 19, ho => exact absurd ho (by simp)
  case done =>
    intro f vs W hall hT hvs
    have v0 : vs 0 = .pointer (some ⟨A, 0, none⟩) := hvs 0 (by decide)
    have v1 : vs 1 = .pointer (some ⟨A, 0, none⟩) := hvs 1 (by decide)
    have v2 : vs 2 = .pointer (some ⟨A, 0, none⟩) := hvs 2 (by decide)
    have v3 : vs 3 = .slice (some ⟨G, 0, none⟩) 3 3 := hvs 3 (by decide)
    have v4 : vs 4 = .pointer (some ⟨G, 0, none⟩) := hvs 4 (by decide)
    have v5 : vs 5 = .string mb := hvs 5 (by decide)
    have v6 : vs 6 = .agg #[.slice pp np pc, .slice qp qn qc] := hvs 6 (by decide)
    have v7 : vs 7 = .slice (some ⟨G, 0, none⟩) 3 3 := hvs 7 (by decide)
    have v8 : vs 8 = .pointer (some ⟨G, 2, none⟩) := hvs 8 (by decide)
    have v9 : vs 9 = .string vb := hvs 9 (by decide)
    have v10 : vs 10 = .pointer (some ⟨A, 0, none⟩) := hvs 10 (by decide)
    have v11 : vs 11 = .pointer (some ⟨A, 2, none⟩) := hvs 11 (by decide)
    obtain ⟨z12, v12⟩ : ∃ z, vs 12 = z := ⟨_, rfl⟩
    have v13 : vs 13 = .pointer (some ⟨A, 0, none⟩) := hvs 13 (by decide)
    have v14 : vs 14 = .pointer (some ⟨A, 4, none⟩) := hvs 14 (by decide)
    obtain ⟨z15, v15⟩ : ∃ z, vs 15 = z := ⟨_, rfl⟩
    have v16 : vs 16 = .pointer (some ⟨A, 0, none⟩) := hvs 16 (by decide)
    have v17 : vs 17 = .pointer (some ⟨A, 3, none⟩) := hvs 17 (by decide)
    obtain ⟨z18, v18⟩ : ∃ z, vs 18 = z := ⟨_, rfl⟩
    simp only [fillN, List.size_toArray, List.length_cons, List.length_nil, Nat.reduceAdd, show List.range 19 = [0, 1, 2, 3, 4, 5, 6, 7, 8, 9, 10, 11, 12, 13, 14, 15, 16, 17, 18] from rfl, List.foldl_cons, List.foldl_nil, show liSlot 0 = 34 from rfl, show liSlot 1 = 35 from rfl, show liSlot 2 = 36 from rfl, show liSlot 3 = 37 from rfl, show liSlot 4 = 38 from rfl, show liSlot 5 = 39 from rfl, show liSlot 6 = 40 from rfl, show liSlot 7 = 41 from rfl, show liSlot 8 = 42 from rfl, show liSlot 9 = 43 from rfl, show liSlot 10 = 44 from rfl, show liSlot 11 = 45 from rfl, show liSlot 12 = 8 from rfl, show liSlot 13 = 46 from rfl, show liSlot 14 = 47 from rfl, show liSlot 15 = 9 from rfl, show liSlot 16 = 48 from rfl, show liSlot 17 = 49 from rfl, show liSlot 18 = 10 from rfl, v0, v1, v2, v3, v4, v5, v6, v7, v8, v9, v10, v11, v12, v13, v14, v15, v16, v17, v18]
    clear v0 v1 v2 v3 v4 v5 v6 v7 v8 v9 v10 v11 v12 v13 v14 v15 v16 v17 v18 hvs
    obtain ⟨a, b, P1, Q1, hd, g1, g2, g3⟩ := hT.row
    have ha := g1 (hall 12 (by decide))
    have hbv := g3 (hall 18 (by decide))
    obtain ⟨hp1, hq1⟩ := g2 (hall 15 (by decide))
    subst ha hbv hp1 hq1
    have HBW := Lib.hid (show Below A w W from (HB4.out.mono (Nat.le_of_lt HAL.out)).trans hT.bel)
    have HTS := Lib.hid (show SwRow W (.slice pp np pc) P from HVP.out.keep (t := 71) HA4.out (by decide) hT.oth)
    have HPS := Lib.hid (show PrRow W (.slice qp qn qc) Q from HVQ.out.keep (t := 71) HA4.out (by decide) hT.oth)
    have HSW := Lib.hid (show A < W.heap.size from (Array.getElem?_eq_some_iff.1 hd).1)
    have x3 : W.cell? ⟨A, 3, none⟩ = some (.string b) := by simp [World.cell?, hd, lkC]
    have HAW := Lib.hid hd
    clear g1 g2 g3 hd hT hall
    have KC := sl_cutprefix b ⟨#[72, 84, 84, 80, 47]⟩ W (by have := HVZ.out; omega) (by decide)
    rw [show (⟨#[72, 84, 84, 80, 47]⟩ : ByteArray).data.toList = Rq.pH from rfl, show (⟨#[72, 84, 84, 80, 47]⟩ : ByteArray).size = 5 from rfl] at KC
    have HVN := Lib.hid (Rq.ver_ne b.data.toList)
    by_cases hfd : b.data.toList.take 5 = Rq.pH
    rotate_left
    · have HO := Lib.hid (show o = none by
        rw [HLN.out]
        refine Rq.line3_ver ?_
        by_cases h0 : Rq.ver b.data.toList = 0
        · exact h0
        · exact absurd (HVN.out.1 h0).1 hfd)
      rw [if_neg hfd, decide_eq_false hfd] at KC
      have KC := Lib.hid KC
      clear hfd
      go_simp
      go_wp2_with fail
      refine KC.out.mono ?_
      rintro e w9 ⟨rfl, hw9⟩
      subst w9
      go_wp2_with fail
      refine (MN.out _).mono ?_
      rintro e w9 ⟨rfl, hw9⟩
      subst w9
      exact ⟨rfl, HBW.out.alloc (Nat.le_of_lt HSW.out) _, by rw [HO.out]; rfl⟩
    rw [if_pos hfd, decide_eq_true hfd] at KC
    have hrd : (b.extract 5 b.size).data.toList = b.data.toList.drop 5 := Lib.extract_to_end b 5
    obtain ⟨r, hr⟩ : ∃ z, b.extract 5 b.size = z := ⟨_, rfl⟩
    rw [hr] at KC hrd
    have hrl : (b.data.toList.drop 5).length = r.size := by rw [← hrd]; rfl
    have KC := Lib.hid KC
    have HFD := Lib.hid hfd
    have HRL := Lib.hid hrl
    have HRD := Lib.hid hrd
    have HRZ := Lib.hid (show r.size ≤ 250 by
      have h1 := HVZ.out
      have h2 : b.data.toList.length = b.size := rfl
      rw [List.length_drop] at hrl; omega)
    obtain ⟨W2, hW2⟩ : ∃ z, W.alloc (.cells #[.string r] 9) = z := ⟨_, rfl⟩
    obtain ⟨X, hX⟩ : ∃ z, W.heap.size = z := ⟨_, rfl⟩
    have hbx : Boxed W2 X 9 (.string r) := by rw [← hW2, ← hX]; exact Boxed.new _ _ _
    have HB2 := Lib.hid (show Below W.heap.size W W2 by rw [← hW2]; exact (Below.refl _ _).alloc (Nat.le_refl _) _)
    have HBX := Lib.hid hbx
    have cx := hbx.cell
    have HW2 := Lib.hid hW2
    have HX := Lib.hid hX
    have HFIN := Lib.hid (show Below A w W2 from HBW.out.trans (HB2.out.mono (Nat.le_of_lt HSW.out)))
    have D0 := Lib.hid (fun (h : 0 < r.size) => rq_digit 0 X r W2 hbx h (by have := HRZ.out; omega))
    have D2 := Lib.hid (fun (h : 2 < r.size) => rq_digit 2 X r W2 hbx h (by have := HRZ.out; omega))
    clear hfd hrd hr hrl hbx hW2 hX
    by_cases h3 : r.size = 3
    rotate_left
    · have HO := Lib.hid (show o = none by
        rw [HLN.out]
        refine Rq.line3_ver ?_
        by_cases h0 : Rq.ver b.data.toList = 0
        · exact h0
        · exact absurd ((HVN.out.1 h0).2.1) (by rw [HRL.out]; exact h3))
      have e3 : ((r.size : Int) == 3) = false := beq_eq_false_iff_ne.2 (by omega)
      clear h3
      go_simp
      go_wp2_with fail
      refine KC.out.mono ?_
      rintro e w9 ⟨rfl, hw9⟩
      subst w9
      go_upto_region 6 with (fail)
      rw [HW2.out, HX.out]
      go_wp2_with fail
      refine (MN.out _).mono ?_
      rintro e w9 ⟨rfl, hw9⟩
      subst w9
      exact ⟨rfl, HFIN.out, by rw [HO.out]; rfl⟩
    have e3 : ((r.size : Int) == 3) = true := beq_iff_eq.2 (by omega)
    have hix : ∀ W, (Instr.index 9 (.string r) (.int .i64 1)).run Tryz.prog W = .ok (.int .u8 ((r[1]).toNat : Int)) W := fun W => index_at r W 1 (by omega)
    have eg : r.data.toList.getD 1 0 = r[1] := by rw [List.getD_eq_getElem?_getD, List.getElem?_eq_getElem (show 1 < r.data.toList.length by show 1 < r.size; omega)]; rfl
    have D0 := Lib.hid (D0.out (by omega))
    have D2 := Lib.hid (D2.out (by omega))
    obtain ⟨d0, hd0⟩ : ∃ z, Ap.fig (r.data.toList.getD 0 0) = z := ⟨_, rfl⟩
    obtain ⟨d2, hd2⟩ : ∃ z, Ap.fig (r.data.toList.getD 2 0) = z := ⟨_, rfl⟩
    rw [hd0] at D0
    rw [hd2] at D2
    have hvn := HVN.out
    rw [← HRD.out, hd0, hd2, eg] at hvn
    have hpt : r[1] = 46 ↔ ((r[1]).toNat : Int) = 46 := ⟨fun h => by rw [h]; rfl, fun h => UInt8.toNat_inj.1 (by have : (46 : UInt8).toNat = 46 := rfl; omega)⟩
    rw [hpt] at hvn
    obtain ⟨y, hy⟩ : ∃ x : Int, ((r[1]).toNat : Int) = x := ⟨_, rfl⟩
    rw [hy] at hvn
    simp only [hy] at hix
    have HVN := Lib.hid hvn
    have H3 := Lib.hid (show r.data.toList.length = 3 from h3)
    clear hy eg hvn hd0 hd2 h3 hpt
    have HNO := Lib.hid (fun (hh : ¬ (y = 46 ∧ d0 = true ∧ d2 = true)) => show o = none by
      rw [HLN.out]
      refine Rq.line3_ver ?_
      by_cases h0 : Rq.ver b.data.toList = 0
      · exact h0
      · have h1 := HVN.out.1 h0
        exact absurd ⟨h1.2.2.1, h1.2.2.2⟩ hh)
    by_cases hy : y = 46
    rotate_left
    · have HO := Lib.hid (HNO.out (fun h => hy h.1))
      have ey : (y == 46) = false := beq_eq_false_iff_ne.2 hy
      clear hy
      go_simp
      go_wp2_with fail
      refine KC.out.mono ?_
      rintro e w9 ⟨rfl, hw9⟩
      subst w9
      go_upto_region 6 with (fail)
      rw [HW2.out, HX.out]
      go_wp2_with (simp only [hix])
      refine (MN.out _).mono ?_
      rintro e w9 ⟨rfl, hw9⟩
      subst w9
      exact ⟨rfl, HFIN.out, by rw [HO.out]; rfl⟩
    subst hy
    go_simp
    go_wp2_with fail
    refine KC.out.mono ?_
    rintro e w9 ⟨rfl, hw9⟩
    subst w9
    go_upto_region 6 with (fail)
    rw [HW2.out, HX.out]
    have DI := digit_in
    cases d0 with
    | false =>
      have HO := Lib.hid (HNO.out (fun h => absurd h.2.1 (by decide)))
      go_wp2_with (simp only [hix])
      refine D0.out.mono ?_
      rintro e w9 ⟨rfl, hw9⟩
      subst w9
      go_wp2_with fail
      refine (MN.out _).mono ?_
      rintro e w9 ⟨rfl, hw9⟩
      subst w9
      exact ⟨rfl, HFIN.out, by rw [HO.out]; rfl⟩
    | true =>
      go_wp2_with (simp only [hix])
      refine D0.out.mono ?_
      rintro e w9 ⟨rfl, hw9⟩
      subst w9
      go_wp2_with fail
      refine D2.out.mono ?_
      rintro e w9 ⟨rfl, hw9⟩
      subst w9
      cases d2 with
      | false =>
        have HO := Lib.hid (HNO.out (fun h => absurd h.2.2 (by decide)))
        go_wp2_with fail
        refine (MN.out _).mono ?_
        rintro e w9 ⟨rfl, hw9⟩
        subst w9
        exact ⟨rfl, HFIN.out, by rw [HO.out]; rfl⟩
      | true =>
        have HO := Lib.hid (show o = some (a.data.toList, (P, Q), b.data.toList) by
          rw [HLN.out]
          exact Rq.line3_yes HTK.out HOG.out (HVN.out.2 ⟨HFD.out, H3.out, by first | rfl | trivial, by first | rfl | trivial, by first | rfl | trivial⟩))
        go_wp2_with fail
        refine (MU.out _).mono ?_
        rintro e w9 ⟨rfl, hw9⟩
        subst w9
        have HL := Lib.hid ((HB2.out.block _ HSW.out).trans HAW.out)
        clear MU MN
        go_wp2_with fail
        simp [bodyPost, results, Tryz.results71, go_sem]
        refine ⟨HFIN.out, ?_⟩
        rw [HO.out]
        refine ⟨rfl, pp, qp, np, pc, qn, qc, ?_, HTS.out.below HB2.out, HPS.out.belowW HB2.out⟩
        rw [ba_back, ba_back]
        exact HL.out
end Go.Proofs.YtfacmnooklljnaaGreatDoor

/- request: the rules' array. No conditions but those that each law states. -/
namespace Go.Proofs.YtfacmnooklljnaaGreatDoor
set_option linter.unusedVariables false
set_option linter.unusedSimpArgs false
open Go.RowKit Go.Shelf
attribute [local go_sem] Oper.semAt_some
set_option maxHeartbeats 8000000
set_option maxRecDepth 100000
/-- the rules, in order; C, D: where the one of a lone last id keeps its name and its least -/
def ruC (C D : Nat) : Array Value := #[.int .i64 400, .func (.func 105) #[] #[], .int .i64 400, .func (.func 107) #[] #[], .int .i64 400, .func (.func 108) #[] #[], .int .i64 400, .func (.func 136) #[] #[.pointer (some ⟨C, 0, none⟩), .pointer (some ⟨D, 0, none⟩)], .int .i64 505, .func (.func 109) #[] #[], .int .i64 405, .func (.func 110) #[] #[], .int .i64 406, .func (.func 111) #[] #[]]
theorem rq_rules (w : World) :
    Calls Tryz.prog 72 #[] w fun e w' => ∃ C D, e = .returned (.agg (ruC C D)) ∧ Boxed w' C 9 (.string ⟨#[108, 97, 115, 116, 45, 101, 118, 101, 110, 116, 45, 105, 100]⟩) ∧ Boxed w' D 3 (.int .i64 0) ∧ Below w.heap.size w w' := by
  have KL := Lib.hid (fun W => rq_lone ⟨#[108, 97, 115, 116, 45, 101, 118, 101, 110, 116, 45, 105, 100]⟩ 0 W)
  obtain ⟨B, hB⟩ : ∃ B, w.heap.size = B := ⟨_, rfl⟩
  have HB := Lib.hid hB
  rw [hB]
  clear hB
  go_enter Tryz.func72, Tryz.ntmps72
  go_wp2_with fail
  obtain ⟨V, hV⟩ : ∃ z, w.alloc (.cells #[.int .i64 0, .nilFunc, .int .i64 0, .nilFunc, .int .i64 0, .nilFunc, .int .i64 0, .nilFunc, .int .i64 0, .nilFunc, .int .i64 0, .nilFunc, .int .i64 0, .nilFunc] 114) = z := ⟨_, rfl⟩
  have hVB : V.heap[B]? = some (.cells #[.int .i64 0, .nilFunc, .int .i64 0, .nilFunc, .int .i64 0, .nilFunc, .int .i64 0, .nilFunc, .int .i64 0, .nilFunc, .int .i64 0, .nilFunc, .int .i64 0, .nilFunc] 114 (0, 0)) := by rw [← hV, ← HB.out]; exact World.alloc_heap_new _ _
  have hbV : Below B w V := by rw [← hV, ← HB.out]; exact (Below.refl _ _).alloc (Nat.le_refl _) _
  rw [hV, HB.out]
  have HVB := Lib.hid hVB
  have HBV := Lib.hid hbV
  clear hV hVB hbV
  refine (KL.out _).mono ?_
  rintro e w2 ⟨C, D, rfl, hC, hD, hb⟩
  have hBl := (Array.getElem?_eq_some_iff.1 HVB.out).1
  have h0 : w2.heap[B]? = some (.cells #[.int .i64 0, .nilFunc, .int .i64 0, .nilFunc, .int .i64 0, .nilFunc, .int .i64 0, .nilFunc, .int .i64 0, .nilFunc, .int .i64 0, .nilFunc, .int .i64 0, .nilFunc] 114 (0, 0)) := (hb.block B hBl).trans HVB.out
  have hBC : C ≠ B := fun e => by
    subst e
    have h : w2.heap[C]? = some (.cells #[.string ⟨#[108, 97, 115, 116, 45, 101, 118, 101, 110, 116, 45, 105, 100]⟩] 9 (0, 0)) := hC
    rw [h0] at h
    cases h
  have hBD : D ≠ B := fun e => by
    subst e
    have h : w2.heap[D]? = some (.cells #[.int .i64 0] 3 (0, 0)) := hD
    rw [h0] at h
    cases h
  have HC := Lib.hid hC
  have HD := Lib.hid hD
  have HB2 := Lib.hid (HBV.out.trans (hb.mono (by have := HB.out; have := HBV.out.size; omega)))
  have H0 := Lib.hid h0
  have c0 : w2.cell? ⟨B, 0, none⟩ = some (.int .i64 0) := by simp [World.cell?, h0]
  have z0 : w2.frozen? ⟨B, 0, none⟩ = false := frozen_of_row _ _ _ _ _ h0
  have c1 : w2.cell? ⟨B, 1, none⟩ = some (.nilFunc) := by simp [World.cell?, h0]
  have z1 : w2.frozen? ⟨B, 1, none⟩ = false := frozen_of_row _ _ _ _ _ h0
  have c2 : w2.cell? ⟨B, 2, none⟩ = some (.int .i64 0) := by simp [World.cell?, h0]
  have z2 : w2.frozen? ⟨B, 2, none⟩ = false := frozen_of_row _ _ _ _ _ h0
  have c3 : w2.cell? ⟨B, 3, none⟩ = some (.nilFunc) := by simp [World.cell?, h0]
  have z3 : w2.frozen? ⟨B, 3, none⟩ = false := frozen_of_row _ _ _ _ _ h0
  have c4 : w2.cell? ⟨B, 4, none⟩ = some (.int .i64 0) := by simp [World.cell?, h0]
  have z4 : w2.frozen? ⟨B, 4, none⟩ = false := frozen_of_row _ _ _ _ _ h0
  have c5 : w2.cell? ⟨B, 5, none⟩ = some (.nilFunc) := by simp [World.cell?, h0]
  have z5 : w2.frozen? ⟨B, 5, none⟩ = false := frozen_of_row _ _ _ _ _ h0
  have c6 : w2.cell? ⟨B, 6, none⟩ = some (.int .i64 0) := by simp [World.cell?, h0]
  have z6 : w2.frozen? ⟨B, 6, none⟩ = false := frozen_of_row _ _ _ _ _ h0
  have c7 : w2.cell? ⟨B, 7, none⟩ = some (.nilFunc) := by simp [World.cell?, h0]
  have z7 : w2.frozen? ⟨B, 7, none⟩ = false := frozen_of_row _ _ _ _ _ h0
  have c8 : w2.cell? ⟨B, 8, none⟩ = some (.int .i64 0) := by simp [World.cell?, h0]
  have z8 : w2.frozen? ⟨B, 8, none⟩ = false := frozen_of_row _ _ _ _ _ h0
  have c9 : w2.cell? ⟨B, 9, none⟩ = some (.nilFunc) := by simp [World.cell?, h0]
  have z9 : w2.frozen? ⟨B, 9, none⟩ = false := frozen_of_row _ _ _ _ _ h0
  have c10 : w2.cell? ⟨B, 10, none⟩ = some (.int .i64 0) := by simp [World.cell?, h0]
  have z10 : w2.frozen? ⟨B, 10, none⟩ = false := frozen_of_row _ _ _ _ _ h0
  have c11 : w2.cell? ⟨B, 11, none⟩ = some (.nilFunc) := by simp [World.cell?, h0]
  have z11 : w2.frozen? ⟨B, 11, none⟩ = false := frozen_of_row _ _ _ _ _ h0
  have c12 : w2.cell? ⟨B, 12, none⟩ = some (.int .i64 0) := by simp [World.cell?, h0]
  have z12 : w2.frozen? ⟨B, 12, none⟩ = false := frozen_of_row _ _ _ _ _ h0
  have c13 : w2.cell? ⟨B, 13, none⟩ = some (.nilFunc) := by simp [World.cell?, h0]
  have z13 : w2.frozen? ⟨B, 13, none⟩ = false := frozen_of_row _ _ _ _ _ h0
  clear hC hD hb h0 hBl
  go_wp2_with fail
  have a0 : (w2.setCell ⟨B, 0, none⟩ (.int .i64 400)).heap[B]? = some (.cells #[.int .i64 400, .nilFunc, .int .i64 0, .nilFunc, .int .i64 0, .nilFunc, .int .i64 0, .nilFunc, .int .i64 0, .nilFunc, .int .i64 0, .nilFunc, .int .i64 0, .nilFunc] 114 (0, 0)) := (heap_setCell_same _ B 0 _ _ _ H0.out).trans (by simp)
  have b0 := HB2.out.setCell (p := ⟨B, 0, none⟩) (Nat.le_refl _) (.int .i64 400)
  have p0 : Boxed (w2.setCell ⟨B, 0, none⟩ (.int .i64 400)) C _ _ := (Below.heap_setCell _ ⟨B, 0, none⟩ _ C hBC).trans HC.out
  have q0 : Boxed (w2.setCell ⟨B, 0, none⟩ (.int .i64 400)) D _ _ := (Below.heap_setCell _ ⟨B, 0, none⟩ _ D hBD).trans HD.out
  obtain ⟨W1, hW1⟩ : ∃ z, w2.setCell ⟨B, 0, none⟩ (.int .i64 400) = z := ⟨_, rfl⟩
  rw [hW1] at a0 b0 p0 q0 ⊢
  have a1 : (W1.setCell ⟨B, 1, none⟩ (.func (.func 105) #[] #[])).heap[B]? = some (.cells #[.int .i64 400, .func (.func 105) #[] #[], .int .i64 0, .nilFunc, .int .i64 0, .nilFunc, .int .i64 0, .nilFunc, .int .i64 0, .nilFunc, .int .i64 0, .nilFunc, .int .i64 0, .nilFunc] 114 (0, 0)) := (heap_setCell_same _ B 1 _ _ _ a0).trans (by simp)
  have b1 := b0.setCell (p := ⟨B, 1, none⟩) (Nat.le_refl _) (.func (.func 105) #[] #[])
  have p1 : Boxed (W1.setCell ⟨B, 1, none⟩ (.func (.func 105) #[] #[])) C _ _ := (Below.heap_setCell _ ⟨B, 1, none⟩ _ C hBC).trans p0
  have q1 : Boxed (W1.setCell ⟨B, 1, none⟩ (.func (.func 105) #[] #[])) D _ _ := (Below.heap_setCell _ ⟨B, 1, none⟩ _ D hBD).trans q0
  obtain ⟨W2, hW2⟩ : ∃ z, W1.setCell ⟨B, 1, none⟩ (.func (.func 105) #[] #[]) = z := ⟨_, rfl⟩
  rw [hW2] at a1 b1 p1 q1 ⊢
  have a2 : (W2.setCell ⟨B, 2, none⟩ (.int .i64 400)).heap[B]? = some (.cells #[.int .i64 400, .func (.func 105) #[] #[], .int .i64 400, .nilFunc, .int .i64 0, .nilFunc, .int .i64 0, .nilFunc, .int .i64 0, .nilFunc, .int .i64 0, .nilFunc, .int .i64 0, .nilFunc] 114 (0, 0)) := (heap_setCell_same _ B 2 _ _ _ a1).trans (by simp)
  have b2 := b1.setCell (p := ⟨B, 2, none⟩) (Nat.le_refl _) (.int .i64 400)
  have p2 : Boxed (W2.setCell ⟨B, 2, none⟩ (.int .i64 400)) C _ _ := (Below.heap_setCell _ ⟨B, 2, none⟩ _ C hBC).trans p1
  have q2 : Boxed (W2.setCell ⟨B, 2, none⟩ (.int .i64 400)) D _ _ := (Below.heap_setCell _ ⟨B, 2, none⟩ _ D hBD).trans q1
  obtain ⟨W3, hW3⟩ : ∃ z, W2.setCell ⟨B, 2, none⟩ (.int .i64 400) = z := ⟨_, rfl⟩
  rw [hW3] at a2 b2 p2 q2 ⊢
  have a3 : (W3.setCell ⟨B, 3, none⟩ (.func (.func 107) #[] #[])).heap[B]? = some (.cells #[.int .i64 400, .func (.func 105) #[] #[], .int .i64 400, .func (.func 107) #[] #[], .int .i64 0, .nilFunc, .int .i64 0, .nilFunc, .int .i64 0, .nilFunc, .int .i64 0, .nilFunc, .int .i64 0, .nilFunc] 114 (0, 0)) := (heap_setCell_same _ B 3 _ _ _ a2).trans (by simp)
  have b3 := b2.setCell (p := ⟨B, 3, none⟩) (Nat.le_refl _) (.func (.func 107) #[] #[])
  have p3 : Boxed (W3.setCell ⟨B, 3, none⟩ (.func (.func 107) #[] #[])) C _ _ := (Below.heap_setCell _ ⟨B, 3, none⟩ _ C hBC).trans p2
  have q3 : Boxed (W3.setCell ⟨B, 3, none⟩ (.func (.func 107) #[] #[])) D _ _ := (Below.heap_setCell _ ⟨B, 3, none⟩ _ D hBD).trans q2
  obtain ⟨W4, hW4⟩ : ∃ z, W3.setCell ⟨B, 3, none⟩ (.func (.func 107) #[] #[]) = z := ⟨_, rfl⟩
  rw [hW4] at a3 b3 p3 q3 ⊢
  have a4 : (W4.setCell ⟨B, 4, none⟩ (.int .i64 400)).heap[B]? = some (.cells #[.int .i64 400, .func (.func 105) #[] #[], .int .i64 400, .func (.func 107) #[] #[], .int .i64 400, .nilFunc, .int .i64 0, .nilFunc, .int .i64 0, .nilFunc, .int .i64 0, .nilFunc, .int .i64 0, .nilFunc] 114 (0, 0)) := (heap_setCell_same _ B 4 _ _ _ a3).trans (by simp)
  have b4 := b3.setCell (p := ⟨B, 4, none⟩) (Nat.le_refl _) (.int .i64 400)
  have p4 : Boxed (W4.setCell ⟨B, 4, none⟩ (.int .i64 400)) C _ _ := (Below.heap_setCell _ ⟨B, 4, none⟩ _ C hBC).trans p3
  have q4 : Boxed (W4.setCell ⟨B, 4, none⟩ (.int .i64 400)) D _ _ := (Below.heap_setCell _ ⟨B, 4, none⟩ _ D hBD).trans q3
  obtain ⟨W5, hW5⟩ : ∃ z, W4.setCell ⟨B, 4, none⟩ (.int .i64 400) = z := ⟨_, rfl⟩
  rw [hW5] at a4 b4 p4 q4 ⊢
  have a5 : (W5.setCell ⟨B, 5, none⟩ (.func (.func 108) #[] #[])).heap[B]? = some (.cells #[.int .i64 400, .func (.func 105) #[] #[], .int .i64 400, .func (.func 107) #[] #[], .int .i64 400, .func (.func 108) #[] #[], .int .i64 0, .nilFunc, .int .i64 0, .nilFunc, .int .i64 0, .nilFunc, .int .i64 0, .nilFunc] 114 (0, 0)) := (heap_setCell_same _ B 5 _ _ _ a4).trans (by simp)
  have b5 := b4.setCell (p := ⟨B, 5, none⟩) (Nat.le_refl _) (.func (.func 108) #[] #[])
  have p5 : Boxed (W5.setCell ⟨B, 5, none⟩ (.func (.func 108) #[] #[])) C _ _ := (Below.heap_setCell _ ⟨B, 5, none⟩ _ C hBC).trans p4
  have q5 : Boxed (W5.setCell ⟨B, 5, none⟩ (.func (.func 108) #[] #[])) D _ _ := (Below.heap_setCell _ ⟨B, 5, none⟩ _ D hBD).trans q4
  obtain ⟨W6, hW6⟩ : ∃ z, W5.setCell ⟨B, 5, none⟩ (.func (.func 108) #[] #[]) = z := ⟨_, rfl⟩
  rw [hW6] at a5 b5 p5 q5 ⊢
  have a6 : (W6.setCell ⟨B, 6, none⟩ (.int .i64 400)).heap[B]? = some (.cells #[.int .i64 400, .func (.func 105) #[] #[], .int .i64 400, .func (.func 107) #[] #[], .int .i64 400, .func (.func 108) #[] #[], .int .i64 400, .nilFunc, .int .i64 0, .nilFunc, .int .i64 0, .nilFunc, .int .i64 0, .nilFunc] 114 (0, 0)) := (heap_setCell_same _ B 6 _ _ _ a5).trans (by simp)
  have b6 := b5.setCell (p := ⟨B, 6, none⟩) (Nat.le_refl _) (.int .i64 400)
  have p6 : Boxed (W6.setCell ⟨B, 6, none⟩ (.int .i64 400)) C _ _ := (Below.heap_setCell _ ⟨B, 6, none⟩ _ C hBC).trans p5
  have q6 : Boxed (W6.setCell ⟨B, 6, none⟩ (.int .i64 400)) D _ _ := (Below.heap_setCell _ ⟨B, 6, none⟩ _ D hBD).trans q5
  obtain ⟨W7, hW7⟩ : ∃ z, W6.setCell ⟨B, 6, none⟩ (.int .i64 400) = z := ⟨_, rfl⟩
  rw [hW7] at a6 b6 p6 q6 ⊢
  have a7 : (W7.setCell ⟨B, 7, none⟩ (.func (.func 136) #[] #[.pointer (some ⟨C, 0, none⟩), .pointer (some ⟨D, 0, none⟩)])).heap[B]? = some (.cells #[.int .i64 400, .func (.func 105) #[] #[], .int .i64 400, .func (.func 107) #[] #[], .int .i64 400, .func (.func 108) #[] #[], .int .i64 400, .func (.func 136) #[] #[.pointer (some ⟨C, 0, none⟩), .pointer (some ⟨D, 0, none⟩)], .int .i64 0, .nilFunc, .int .i64 0, .nilFunc, .int .i64 0, .nilFunc] 114 (0, 0)) := (heap_setCell_same _ B 7 _ _ _ a6).trans (by simp)
  have b7 := b6.setCell (p := ⟨B, 7, none⟩) (Nat.le_refl _) (.func (.func 136) #[] #[.pointer (some ⟨C, 0, none⟩), .pointer (some ⟨D, 0, none⟩)])
  have p7 : Boxed (W7.setCell ⟨B, 7, none⟩ (.func (.func 136) #[] #[.pointer (some ⟨C, 0, none⟩), .pointer (some ⟨D, 0, none⟩)])) C _ _ := (Below.heap_setCell _ ⟨B, 7, none⟩ _ C hBC).trans p6
  have q7 : Boxed (W7.setCell ⟨B, 7, none⟩ (.func (.func 136) #[] #[.pointer (some ⟨C, 0, none⟩), .pointer (some ⟨D, 0, none⟩)])) D _ _ := (Below.heap_setCell _ ⟨B, 7, none⟩ _ D hBD).trans q6
  obtain ⟨W8, hW8⟩ : ∃ z, W7.setCell ⟨B, 7, none⟩ (.func (.func 136) #[] #[.pointer (some ⟨C, 0, none⟩), .pointer (some ⟨D, 0, none⟩)]) = z := ⟨_, rfl⟩
  rw [hW8] at a7 b7 p7 q7 ⊢
  have a8 : (W8.setCell ⟨B, 8, none⟩ (.int .i64 505)).heap[B]? = some (.cells #[.int .i64 400, .func (.func 105) #[] #[], .int .i64 400, .func (.func 107) #[] #[], .int .i64 400, .func (.func 108) #[] #[], .int .i64 400, .func (.func 136) #[] #[.pointer (some ⟨C, 0, none⟩), .pointer (some ⟨D, 0, none⟩)], .int .i64 505, .nilFunc, .int .i64 0, .nilFunc, .int .i64 0, .nilFunc] 114 (0, 0)) := (heap_setCell_same _ B 8 _ _ _ a7).trans (by simp)
  have b8 := b7.setCell (p := ⟨B, 8, none⟩) (Nat.le_refl _) (.int .i64 505)
  have p8 : Boxed (W8.setCell ⟨B, 8, none⟩ (.int .i64 505)) C _ _ := (Below.heap_setCell _ ⟨B, 8, none⟩ _ C hBC).trans p7
  have q8 : Boxed (W8.setCell ⟨B, 8, none⟩ (.int .i64 505)) D _ _ := (Below.heap_setCell _ ⟨B, 8, none⟩ _ D hBD).trans q7
  obtain ⟨W9, hW9⟩ : ∃ z, W8.setCell ⟨B, 8, none⟩ (.int .i64 505) = z := ⟨_, rfl⟩
  rw [hW9] at a8 b8 p8 q8 ⊢
  have a9 : (W9.setCell ⟨B, 9, none⟩ (.func (.func 109) #[] #[])).heap[B]? = some (.cells #[.int .i64 400, .func (.func 105) #[] #[], .int .i64 400, .func (.func 107) #[] #[], .int .i64 400, .func (.func 108) #[] #[], .int .i64 400, .func (.func 136) #[] #[.pointer (some ⟨C, 0, none⟩), .pointer (some ⟨D, 0, none⟩)], .int .i64 505, .func (.func 109) #[] #[], .int .i64 0, .nilFunc, .int .i64 0, .nilFunc] 114 (0, 0)) := (heap_setCell_same _ B 9 _ _ _ a8).trans (by simp)
  have b9 := b8.setCell (p := ⟨B, 9, none⟩) (Nat.le_refl _) (.func (.func 109) #[] #[])
  have p9 : Boxed (W9.setCell ⟨B, 9, none⟩ (.func (.func 109) #[] #[])) C _ _ := (Below.heap_setCell _ ⟨B, 9, none⟩ _ C hBC).trans p8
  have q9 : Boxed (W9.setCell ⟨B, 9, none⟩ (.func (.func 109) #[] #[])) D _ _ := (Below.heap_setCell _ ⟨B, 9, none⟩ _ D hBD).trans q8
  obtain ⟨W10, hW10⟩ : ∃ z, W9.setCell ⟨B, 9, none⟩ (.func (.func 109) #[] #[]) = z := ⟨_, rfl⟩
  rw [hW10] at a9 b9 p9 q9 ⊢
  have a10 : (W10.setCell ⟨B, 10, none⟩ (.int .i64 405)).heap[B]? = some (.cells #[.int .i64 400, .func (.func 105) #[] #[], .int .i64 400, .func (.func 107) #[] #[], .int .i64 400, .func (.func 108) #[] #[], .int .i64 400, .func (.func 136) #[] #[.pointer (some ⟨C, 0, none⟩), .pointer (some ⟨D, 0, none⟩)], .int .i64 505, .func (.func 109) #[] #[], .int .i64 405, .nilFunc, .int .i64 0, .nilFunc] 114 (0, 0)) := (heap_setCell_same _ B 10 _ _ _ a9).trans (by simp)
  have b10 := b9.setCell (p := ⟨B, 10, none⟩) (Nat.le_refl _) (.int .i64 405)
  have p10 : Boxed (W10.setCell ⟨B, 10, none⟩ (.int .i64 405)) C _ _ := (Below.heap_setCell _ ⟨B, 10, none⟩ _ C hBC).trans p9
  have q10 : Boxed (W10.setCell ⟨B, 10, none⟩ (.int .i64 405)) D _ _ := (Below.heap_setCell _ ⟨B, 10, none⟩ _ D hBD).trans q9
  obtain ⟨W11, hW11⟩ : ∃ z, W10.setCell ⟨B, 10, none⟩ (.int .i64 405) = z := ⟨_, rfl⟩
  rw [hW11] at a10 b10 p10 q10 ⊢
  have a11 : (W11.setCell ⟨B, 11, none⟩ (.func (.func 110) #[] #[])).heap[B]? = some (.cells #[.int .i64 400, .func (.func 105) #[] #[], .int .i64 400, .func (.func 107) #[] #[], .int .i64 400, .func (.func 108) #[] #[], .int .i64 400, .func (.func 136) #[] #[.pointer (some ⟨C, 0, none⟩), .pointer (some ⟨D, 0, none⟩)], .int .i64 505, .func (.func 109) #[] #[], .int .i64 405, .func (.func 110) #[] #[], .int .i64 0, .nilFunc] 114 (0, 0)) := (heap_setCell_same _ B 11 _ _ _ a10).trans (by simp)
  have b11 := b10.setCell (p := ⟨B, 11, none⟩) (Nat.le_refl _) (.func (.func 110) #[] #[])
  have p11 : Boxed (W11.setCell ⟨B, 11, none⟩ (.func (.func 110) #[] #[])) C _ _ := (Below.heap_setCell _ ⟨B, 11, none⟩ _ C hBC).trans p10
  have q11 : Boxed (W11.setCell ⟨B, 11, none⟩ (.func (.func 110) #[] #[])) D _ _ := (Below.heap_setCell _ ⟨B, 11, none⟩ _ D hBD).trans q10
  obtain ⟨W12, hW12⟩ : ∃ z, W11.setCell ⟨B, 11, none⟩ (.func (.func 110) #[] #[]) = z := ⟨_, rfl⟩
  rw [hW12] at a11 b11 p11 q11 ⊢
  have a12 : (W12.setCell ⟨B, 12, none⟩ (.int .i64 406)).heap[B]? = some (.cells #[.int .i64 400, .func (.func 105) #[] #[], .int .i64 400, .func (.func 107) #[] #[], .int .i64 400, .func (.func 108) #[] #[], .int .i64 400, .func (.func 136) #[] #[.pointer (some ⟨C, 0, none⟩), .pointer (some ⟨D, 0, none⟩)], .int .i64 505, .func (.func 109) #[] #[], .int .i64 405, .func (.func 110) #[] #[], .int .i64 406, .nilFunc] 114 (0, 0)) := (heap_setCell_same _ B 12 _ _ _ a11).trans (by simp)
  have b12 := b11.setCell (p := ⟨B, 12, none⟩) (Nat.le_refl _) (.int .i64 406)
  have p12 : Boxed (W12.setCell ⟨B, 12, none⟩ (.int .i64 406)) C _ _ := (Below.heap_setCell _ ⟨B, 12, none⟩ _ C hBC).trans p11
  have q12 : Boxed (W12.setCell ⟨B, 12, none⟩ (.int .i64 406)) D _ _ := (Below.heap_setCell _ ⟨B, 12, none⟩ _ D hBD).trans q11
  obtain ⟨W13, hW13⟩ : ∃ z, W12.setCell ⟨B, 12, none⟩ (.int .i64 406) = z := ⟨_, rfl⟩
  rw [hW13] at a12 b12 p12 q12 ⊢
  have a13 : (W13.setCell ⟨B, 13, none⟩ (.func (.func 111) #[] #[])).heap[B]? = some (.cells #[.int .i64 400, .func (.func 105) #[] #[], .int .i64 400, .func (.func 107) #[] #[], .int .i64 400, .func (.func 108) #[] #[], .int .i64 400, .func (.func 136) #[] #[.pointer (some ⟨C, 0, none⟩), .pointer (some ⟨D, 0, none⟩)], .int .i64 505, .func (.func 109) #[] #[], .int .i64 405, .func (.func 110) #[] #[], .int .i64 406, .func (.func 111) #[] #[]] 114 (0, 0)) := (heap_setCell_same _ B 13 _ _ _ a12).trans (by simp)
  have b13 := b12.setCell (p := ⟨B, 13, none⟩) (Nat.le_refl _) (.func (.func 111) #[] #[])
  have p13 : Boxed (W13.setCell ⟨B, 13, none⟩ (.func (.func 111) #[] #[])) C _ _ := (Below.heap_setCell _ ⟨B, 13, none⟩ _ C hBC).trans p12
  have q13 : Boxed (W13.setCell ⟨B, 13, none⟩ (.func (.func 111) #[] #[])) D _ _ := (Below.heap_setCell _ ⟨B, 13, none⟩ _ D hBD).trans q12
  obtain ⟨W14, hW14⟩ : ∃ z, W13.setCell ⟨B, 13, none⟩ (.func (.func 111) #[] #[]) = z := ⟨_, rfl⟩
  rw [hW14] at a13 b13 p13 q13 ⊢
  have d0 : W14.cell? ⟨B, 0, none⟩ = some (.int .i64 400) := by simp [World.cell?, a13]
  have d1 : W14.cell? ⟨B, 1, none⟩ = some (.func (.func 105) #[] #[]) := by simp [World.cell?, a13]
  have d2 : W14.cell? ⟨B, 2, none⟩ = some (.int .i64 400) := by simp [World.cell?, a13]
  have d3 : W14.cell? ⟨B, 3, none⟩ = some (.func (.func 107) #[] #[]) := by simp [World.cell?, a13]
  have d4 : W14.cell? ⟨B, 4, none⟩ = some (.int .i64 400) := by simp [World.cell?, a13]
  have d5 : W14.cell? ⟨B, 5, none⟩ = some (.func (.func 108) #[] #[]) := by simp [World.cell?, a13]
  have d6 : W14.cell? ⟨B, 6, none⟩ = some (.int .i64 400) := by simp [World.cell?, a13]
  have d7 : W14.cell? ⟨B, 7, none⟩ = some (.func (.func 136) #[] #[.pointer (some ⟨C, 0, none⟩), .pointer (some ⟨D, 0, none⟩)]) := by simp [World.cell?, a13]
  have d8 : W14.cell? ⟨B, 8, none⟩ = some (.int .i64 505) := by simp [World.cell?, a13]
  have d9 : W14.cell? ⟨B, 9, none⟩ = some (.func (.func 109) #[] #[]) := by simp [World.cell?, a13]
  have d10 : W14.cell? ⟨B, 10, none⟩ = some (.int .i64 405) := by simp [World.cell?, a13]
  have d11 : W14.cell? ⟨B, 11, none⟩ = some (.func (.func 110) #[] #[]) := by simp [World.cell?, a13]
  have d12 : W14.cell? ⟨B, 12, none⟩ = some (.int .i64 406) := by simp [World.cell?, a13]
  have d13 : W14.cell? ⟨B, 13, none⟩ = some (.func (.func 111) #[] #[]) := by simp [World.cell?, a13]
  exact bodyPost_ret (v := .agg (ruC C D)) (by simp [ruC, results, Tryz.results72, go_sem, d0, d1, d2, d3, d4, d5, d6, d7, d8, d9, d10, d11, d12, d13]) rfl ⟨C, D, rfl, p13, q13, b13⟩
end Go.Proofs.YtfacmnooklljnaaGreatDoor

/- request, plainly: the rules, one behind the other, tell the status. No program in sight. -/
namespace Go.Proofs.YtfacmnooklljnaaGreatDoor
set_option linter.unusedVariables false
set_option linter.unusedSimpArgs false
namespace Rq
/-- the k-th rule -/
def ruB (l : List UInt8 × Tg × List UInt8) (fs : List Hp.Hd) : Nat → Bool
  | 0 => (l.2.2 == v10) || decide ((1 : Int) ≤ (many nHost fs : Int) ∧ (many nHost fs : Int) ≤ 1)
  | 1 => decide (many nTE fs = 0)
  | 2 => decide (many nCL fs = 0) || (joined nCL fs == [48])
  | 3 => decide ((0 : Int) ≤ (many nId fs : Int) ∧ (many nId fs : Int) ≤ 1)
  | 4 => (l.2.2 == v10) || (l.2.2 == v11)
  | 5 => l.1 == nGET
  | _ => takesB (Ap.qual (joined nAcc fs) tTx tEv) || (Gt.jpath l.2.1.1 == pHealth)
def ruN : Nat → Int
  | 0 => 400
  | 1 => 400
  | 2 => 400
  | 3 => 400
  | 4 => 505
  | 5 => 405
  | _ => 406
/-- what n rules tell from the k-th on -/
def stN (l : List UInt8 × Tg × List UInt8) (fs : List Hp.Hd) : Nat → Nat → Int
  | 0, _ => 200
  | n + 1, k => if ruB l fs k = true then stN l fs n (k + 1) else ruN k
theorem takes_is (o : Option Int) : takes o = takesB o := by cases o <;> rfl
theorem jpath_is (P : List (List UInt8)) : P.flatMap (fun p => 47 :: p) = Gt.jpath P := rfl
theorem stat3_is {l : List UInt8 × Tg × List UInt8} (fs : List Hp.Hd) (hv : ver l.2.2 ≠ 0) : stat3 l fs = stN l fs 7 0 := by
  obtain ⟨m, g, v⟩ := l
  simp only at hv
  unfold stat3 stN stN stN stN stN stN stN stN
  simp only [ruB, ruN]
  rw [takes_is, jpath_is]
  have e0 : ((v == v10) || decide ((1 : Int) ≤ (many nHost fs : Int) ∧ (many nHost fs : Int) ≤ 1)) = decide (v = v10 ∨ many nHost fs = 1) := by
    rw [Bool.eq_iff_iff]; simp only [Bool.or_eq_true, beq_iff_eq, decide_eq_true_eq]; exact or_congr Iff.rfl (by omega)
  have e2 : (decide (many nCL fs = 0) || (joined nCL fs == [48])) = decide (many nCL fs = 0 ∨ joined nCL fs = [48]) := by
    rw [Bool.eq_iff_iff]; simp
  have e3 : decide ((0 : Int) ≤ (many nId fs : Int) ∧ (many nId fs : Int) ≤ 1) = decide (¬ 1 < many nId fs) := by
    rw [Bool.eq_iff_iff]; simp only [decide_eq_true_eq]; omega
  have e4 : ((v == v10) || (v == v11)) = decide (¬ ver v = 2) := by
    rw [Bool.eq_iff_iff]
    simp only [Bool.or_eq_true, beq_iff_eq, decide_eq_true_eq]
    unfold ver at hv ⊢
    by_cases h : v = v11 ∨ v = v10
    · rw [if_pos h]; simp [h.symm]
    · rw [if_neg h] at hv ⊢
      constructor
      · intro h2; exact absurd h2.symm h
      · intro h2
        exfalso
        split at hv
        · rename_i h3; rw [if_pos h3] at h2; exact h2 rfl
        · exact hv rfl
  rw [e0, e2, e3, e4]
  simp only [decide_eq_true_eq, beq_iff_eq, Bool.or_eq_true]
  by_cases h0 : v = v10 ∨ many nHost fs = 1
  · rw [if_neg (fun h => h h0), if_pos h0]
    by_cases h1 : many nTE fs = 0
    · rw [if_neg (fun h => h h1), if_pos h1]
      by_cases h2 : many nCL fs = 0 ∨ joined nCL fs = [48]
      · rw [if_neg (fun h => h h2), if_pos h2]
        by_cases h3 : 1 < many nId fs
        · rw [if_pos h3, if_neg (fun h => h h3)]
        · rw [if_neg h3, if_pos h3]
          by_cases h4 : ver v = 2
          · rw [if_pos h4, if_neg (fun h => h h4)]
          · rw [if_neg h4, if_pos h4]
            by_cases h5 : m = nGET
            · rw [if_neg (fun h => h h5), if_pos h5]
            · rw [if_pos h5, if_neg h5]
      · rw [if_pos h2, if_neg h2]
    · rw [if_pos h1, if_neg h1]
  · rw [if_pos h0, if_neg h0]
end Rq
end Go.Proofs.YtfacmnooklljnaaGreatDoor

/- A region that draws its order and has guarded operations: by what its slots hold; which operations stand is decided ahead; a guard may hang on an operation that does not stand; a step knows the frame's calls put off (it may panic). -/
namespace Go.Proofs.YtfacmnooklljnaaGreatDoor
set_option linter.unusedVariables false
set_option linter.unusedSimpArgs false
open Go.RowKit
set_option maxHeartbeats 2000000
section
variable {P : Program} {ops : Array Oper} {Q : Exit → Act → World → Prop}
theorem region_slotsP {id : Nat} {a0 : Act} {w0 : World} (slot : Nat → Nat) (F : Nat → World → Value → Prop) (sel : Nat → Bool) (hm : P.follows .mixedOrders = true) (hb : backG .any ops = true)
    (hs : ∀ i, slot i < a0.tmps.size) (hinj : ∀ i j, i < ops.size → j < ops.size → slot i = slot j → i = j) (hF : ∀ i w w' v, F i w v → Below w.heap.size w w' → F i w' v)
    (hdst : ∀ i o, ops[i]? = some o → o.dst = some (slot i))
    (hgu : ∀ i o g b, ops[i]? = some o → o.guard = some (g, b) → ∀ w v, F g w v → v = .bool (if sel i then b else !b) ∨ (sel i = false ∧ v = undef))
    (hng : ∀ i o, ops[i]? = some o → o.guard = none → sel i = true)
    (hskip : ∀ i w, i < ops.size → sel i = false → F i w undef)
    (hstep : ∀ (f : Nat → Bool) (a : Act) (w : World) (i : Nat) (o : Oper), ops[i]? = some o → sel i = true → (∀ e ∈ o.after, Region.binds .any e = true → F e.on w (a.tmps.getD (slot e.on) undef)) → Below w0.heap.size w0 w →
      (∀ j, (∀ i, i < ops.size → slot i ≠ j) → a.tmps.getD j undef = a0.tmps.getD j undef) → a.defers = a0.defers → o.wp P a w (fun a' w' => ∃ v, a' = a.put o.dst v ∧ F i w' v ∧ Below w.heap.size w w') Q)
    (hdone : ∀ (vs : Nat → Value) (w : World), Below w0.heap.size w0 w → (∀ i, i < ops.size → F i w (vs i)) → Q .normal { a0 with tmps := fillN slot vs ops.size a0.tmps } w) : (Code.region id ops true).wp P Q a0 w0 := by
  refine region_invG hm hb (Stand a0 w0 ops.size slot F) ⟨rfl, rfl, fun _ _ => rfl, ⟨rfl, rfl, rfl, Nat.le_refl _, fun _ _ => rfl⟩, fun _ _ h => by cases h⟩ ?_ ?_
  · intro f a w i o ho hf hpre hI
    have hi := (Array.getElem?_eq_some_iff.1 ho).1
    have hsl : slot i < a.tmps.size := by rw [hI.size]; exact hs i
    have hput : ∀ w' v, F i w' v → Below w.heap.size w w' → Stand a0 w0 ops.size slot F (fun j => if j = i then true else f j) (a.put o.dst v) w' := by
      intro w' v hv hbw
      rw [hdst i o ho]
      refine ⟨hI.defers, by rw [← hI.size]; exact Array.size_setIfInBounds .., fun j hj => ?_, hI.bel.trans (hbw.mono hI.bel.size), fun j hj hfj => ?_⟩
      · show (a.tmps.setIfInBounds (slot i) v).getD j undef = _
        rw [getD_set _ _ _ _ hsl, if_neg (Ne.symm (hj i hi))]
        exact hI.rest j hj
      · show F j w' ((a.tmps.setIfInBounds (slot i) v).getD (slot j) undef)
        rw [getD_set _ _ _ _ hsl]
        by_cases hji : j = i
        · subst hji; rw [if_pos rfl]; exact hv
        · rw [if_neg (fun e => hji (hinj j i hj hi e))]
          have h2 : f j = true := by simpa [hji] using hfj
          exact hF j w w' _ (hI.have_ j hj h2) hbw
    have hwant : Region.wanted o (yielded ops a.tmps) = sel i := by
      unfold Region.wanted
      cases hg : o.guard with
      | none => exact (hng i o ho hg).symm
      | some gb =>
        obtain ⟨g, b⟩ := gb
        obtain ⟨e, he, heg, hbd⟩ := (back_ofG hb ho).1 g b hg
        have hgi : g < i := by rw [← heg]; exact (back_ofG hb ho).2 e he hbd
        have hfg : f g = true := by rw [← heg]; exact hpre e he hbd
        have hv := hgu i o g b ho hg w _ (hI.have_ g (by omega) hfg)
        have hsg : slot g < a.tmps.size := by rw [hI.size]; exact hs g
        have hy : yielded ops a.tmps g = (match a.tmps.getD (slot g) undef with | .bool x => some x | _ => none) := by
          unfold yielded
          rw [Array.getElem?_eq_getElem (show g < ops.size by omega), Option.bind_some, hdst g _ (Array.getElem?_eq_getElem (by omega)), Option.bind_some, Array.getElem?_eq_getElem hsg]
          rw [Array.getD_eq_getD_getElem?, Array.getElem?_eq_getElem hsg, Option.getD_some]
          cases a.tmps[slot g] <;> rfl
        show (yielded ops a.tmps g == some b) = sel i
        rw [hy]
        rcases hv with hv | ⟨hsi, hv⟩
        · rw [hv]
          cases sel i <;> cases b <;> rfl
        · rw [hv, hsi]; rfl
    rw [hwant]
    cases hsel : sel i with
    | true =>
      rw [if_pos rfl]
      refine Oper.wp_mono ?_ (hstep f a w i o ho hsel (fun e he hbd => hI.have_ e.on (by have := (back_ofG hb ho).2 e he hbd; omega) (hpre e he hbd)) hI.bel hI.rest hI.defers)
      rintro a' w' ⟨v, rfl, hv, hbw⟩
      exact hput w' v hv hbw
    | false =>
      rw [if_neg (by decide)]
      exact hput w undef (hskip i w hi hsel) (Below.refl _ _)
  · intro f a w hall hI
    have e : a = { a0 with tmps := fillN slot (fun i => a.tmps.getD (slot i) undef) ops.size a0.tmps } := by
      have h1 : a.tmps = fillN slot (fun i => a.tmps.getD (slot i) undef) ops.size a0.tmps := by
        refine ext_getD (by rw [fillN_size, hI.size]) (fun j => ?_)
        by_cases hj : ∃ i, i < ops.size ∧ slot i = j
        · obtain ⟨i, hi, rfl⟩ := hj
          rw [fillN_at slot _ _ hs _ hinj i hi]
        · rw [fillN_get slot _ _ hs _ j (fun i hi e => hj ⟨i, hi, e⟩), hI.rest j (fun i hi e => hj ⟨i, hi, e⟩)]
      obtain ⟨t, d⟩ := a
      have h2 := hI.defers
      simp only at h1 h2
      rw [← h1, h2]
    rw [e]
    exact hdone _ w hI.bel (fun i hi => hI.have_ i hi (hall i hi))
end
end Go.Proofs.YtfacmnooklljnaaGreatDoor
