/- The library's slices.Grow, Clone and Concat at bytes, and the program's ends of lines. -/
import Derived.Test.YtoidopdpnnogaaaDoorCk0
import Derived.Shelf.Spec.SlicesGrow
import Derived.WalkSpells
import Derived.Test.YtoidopdpnnogaaaDoorRf
namespace Go.Proofs.YtoidopdpnnogaaaDoor
set_option linter.unusedVariables false
set_option linter.unusedSimpArgs false
open Go.RowKit Go.Shelf
set_option maxHeartbeats 1000000
def grow_ren : Go.Shelf.Ren := ⟨fun | 4 => 107 | n => n, fun | 22 => 22 | 25 => 5 | 0 => 0 | 3 => 3 | 4 => 4 | 9 => 9 | 20 => 20 | n => n, fun | n => n⟩
theorem grow_lays : Go.Proofs.Lays8.n4 Tryd.prog grow_ren := {
  mixed := by kernel_rfl
  f4 := ⟨Tryd.f107.name, by kernel_rfl, Tryd.func107.trans (congrArg some (by kernel_rfl))⟩
  t0 := Tryd.underlying0
  a0 := Tryd.isAgg0
  z0 := Tryd.sizeOf0
  v0 := Tryd.zeroValue0
  t3 := Tryd.underlying3
  a3 := Tryd.isAgg3
  z3 := Tryd.sizeOf3
  v3 := Tryd.zeroValue3
  t4 := Tryd.underlying4
  a4 := Tryd.isAgg4
  z4 := Tryd.sizeOf4
  v4 := Tryd.zeroValue4
  t9 := Tryd.underlying9
  a9 := Tryd.isAgg9
  z9 := Tryd.sizeOf9
  v9 := Tryd.zeroValue9
  t20 := Tryd.underlying20
  a20 := Tryd.isAgg20
  z20 := Tryd.sizeOf20
  v20 := Tryd.zeroValue20
  t22 := Tryd.underlying22
  a22 := Tryd.isAgg22
  z22 := Tryd.sizeOf22
  v22 := Tryd.zeroValue22 }
theorem info8 : (Tryd.prog.info? 5).map (fun i => (i.zero, i.size, i.bytes)) = some (some (.int .u8 0), 1, 1) := by kernel_rfl
theorem zc (k : Nat) : (Builtin.zeroCells (Value.int .u8 0).cells k).size = k := by simp [Builtin.zeroCells, Value.cells]
/-- slices.Grow of nil -/
theorem grow_nil (n : Nat) (w : World) (hn : n ≤ 1000000) :
    Calls Tryd.prog 107 #[.slice none 0 0, .int .i64 (n : Int)] w fun e w' => ∃ r, e = .returned r ∧ w'.ownsRow w.heap.size 5 1 r 0 [] ∧ Below w.heap.size w w' := by
  obtain ⟨i0, hi, hz0, hz1, hz2⟩ := info_parts info8
  by_cases h0 : n = 0
  · subst h0
    exact (Any8.slices_Grow_room grow_lays none 0 0 0 w (by omega) (by omega) (by omega) (by omega)).mono fun e w' ⟨he, hw⟩ => ⟨_, he, by subst hw; exact World.ownsRow_nil _ _ _ _, by subst hw; exact Below.refl _ _⟩
  · refine (Any8.slices_Grow_grow grow_lays i0 (.int .u8 0) hi hz0 (by omega) none 0 0 n [] w (by omega) (by omega) (by rw [hz2]; omega) (by omega) (by simp) (fun _ => rfl) (fun a h => by cases h)).mono ?_
    rintro e w' ⟨rfl, rfl⟩
    have key : ∀ C : Array Value, C.size = grownCap w (0 + n) 0 5 → (w.drew.alloc (.cells C 5)).ownsRow w.heap.size 5 1 (.slice (some ⟨w.heap.size, 0, none⟩) 0 (grownCap w (0 + n) 0 5)) 0 [] := fun C hC =>
      ⟨rfl, .inr ⟨w.heap.size, grownCap w (0 + n) 0 5, C, rfl, Nat.le_refl _, World.alloc_heap_new w.drew _, Nat.zero_le _, grownCap_le_maxLen _ _ _ _ (by unfold maxLen; omega), by rw [hC, Nat.mul_one], by rw [Nat.zero_mul]; rfl⟩⟩
    have h1 := grownCap_ge w (0 + n) 0 5
    exact ⟨_, rfl, key _ (by rw [Array.size_append, Array.size_append, zc, zc]; show 0 + (0 + n - 0) + (grownCap w (0 + n) 0 5 - (0 + n)) = grownCap w (0 + n) 0 5; omega), ((Below.refl _ w).drew).alloc (Nat.le_refl _) _⟩
theorem ck_ends (w : World) : Calls Tryd.prog 87 #[] w fun e w' => e = .returned (.agg #[.int .u8 13, .int .u8 10]) ∧ Below w.heap.size w w' := by
  go_enter Tryd.func87, Tryd.ntmps87
  go_wp2
  refine bodyPost_ret (v := .agg #[.int .u8 13, .int .u8 10]) (by simp [results, Tryd.results87, go_sem]) rfl ⟨rfl, ?_⟩
  exact (Below.refl _ _).alloc (Nat.le_refl _) _
set_option maxRecDepth 100000 in
theorem ck_clone (v : Value) (l : List UInt8) (w : World) (h : BRow w v l) (hl : l.length ≤ 1000000) :
    Calls Tryd.prog 54 #[v] w fun e w' => ∃ r, e = .returned r ∧ BRow w' r l ∧ Below w.heap.size w w' := by
  obtain ⟨i0, hi, hz0, hz1, hz2⟩ := info_parts info8
  obtain ⟨ao, cap, rfl, hc, h⟩ := h
  rcases h with ⟨rfl, rfl, rfl⟩ | ⟨g, o, rfl, h⟩
  · have hq : ∀ W, (binOp BinOp.eql 22 (.slice none 0 0) (.slice none 0 0)).run Tryd.prog W = .ok (.bool true) W := fun W => by kernel_rfl
    go_enter Tryd.func54, Tryd.ntmps54
    go_wp2
    go_ret
    exact ⟨_, rfl, BRow.nil w, Below.refl _ _⟩
  · have hq : ∀ W, (binOp BinOp.eql 22 (.slice (some ⟨g, o, none⟩) l.length cap) (.slice none 0 0)).run Tryd.prog W = .ok (.bool false) W := fun W => by kernel_rfl
    obtain ⟨n, hn⟩ : ∃ n, l.length = n := ⟨_, rfl⟩
    have HN := Lib.hid hn
    rw [hn] at hq ⊢
    have H := Lib.hid h
    have HC := Lib.hid hc
    have hnl : n ≤ 1000000 := by omega
    clear h hc hl hn
    go_enter Tryd.func54, Tryd.ntmps54
    have HO : Hid ((w.alloc (.cells #[] 5)).ownsRow w.heap.size 5 1 (.slice (some ⟨w.heap.size, 0, none⟩) 0 0) 0 []) :=
      ⟨rfl, .inr ⟨w.heap.size, 0, #[], rfl, Nat.le_refl _, World.alloc_heap_new w _, Nat.le_refl _, Nat.zero_le _, rfl, rfl⟩⟩
    go_wp2_with (at_builtin; refine wpList_append_own _ rfl _ _ 22 rfl w.heap.size 5 i0 (.int .u8 0) 1 1 Tryd.underlying22 hi hz0 hz1 hz2 rfl (by decide) _ _ _ rfl HO.out ⟨g, o, none⟩ n cap (l.map by8) rfl ?c1 ?c2 ?c3 ?c4 ?c5 ?c6 ?_)
    case c1 => rw [List.length_map, HN.out, Nat.mul_one]
    case c2 =>
      intro j u hj
      have h := BRow.news H.out j u hj
      rw [Lib.add_plain] at h ⊢
      exact cell_below ((Below.refl _ w).alloc (Nat.le_refl _) _) h
    case c3 => exact fun u hu => by8_one u l hu
    case c4 => unfold maxLen; omega
    case c5 => omega
    case c6 => simp
    intro v' w1 hown hgrow _
    have hB : Below w.heap.size w w1 := ((Below.refl _ w).alloc (Nat.le_refl _) _).grown hgrow (by simp) (fun k hk => by simp [Value.ownBlock] at hk; omega)
    have HR := Lib.hid (BRow.of_own (l := l) hown)
    have HB := Lib.hid hB
    clear hown hgrow hB
    go_wp2
    go_ret
    exact ⟨_, rfl, HR.out, HB.out⟩
/-- the bytes behind one another -/
def cat (L : List (List UInt8)) : List UInt8 := L.flatten
theorem cat_take (L : List (List UInt8)) (k : Nat) (h : k < L.length) : cat (L.take (k + 1)) = cat (L.take k) ++ L.getD k [] := by
  unfold cat
  rw [List.take_succ_eq_append_getElem h, List.flatten_append, List.getD_eq_getElem?_getD, List.getElem?_eq_getElem h]
  simp
theorem cat_len (L : List (List UInt8)) (k : Nat) : (cat (L.take k)).length ≤ (cat L).length := by
  unfold cat
  conv => rhs; rw [← List.take_append_drop k L, List.flatten_append, List.length_append]
  omega
theorem own8_ge {w : World} {B n : Nat} {e : TypeId} {v : Value} {xs : List Value} (h : w.ownsRow B e 1 v n xs) : ∀ k, v.ownBlock = some k → B ≤ k := by
  intro k hk
  rcases h.2 with ⟨rfl, _⟩ | ⟨g, cap, cur, rfl, hg, _⟩
  · simp [Value.ownBlock] at hk
  · have : g = k := by simpa [Value.ownBlock] using hk
    omega
set_option maxRecDepth 100000 in
theorem ck_concat (v : Value) (L : List (List UInt8)) (w : World) (h : BRows w v L) (hl : (cat L).length ≤ 1000000) (hL : L.length ≤ 1000) :
    Calls Tryd.prog 84 #[v] w fun e w' => ∃ r, e = .returned r ∧ BRow w' r (cat L) ∧ Below w.heap.size w w' := by
  obtain ⟨i0, hi, hz0, hz1, hz2⟩ := info_parts info8
  obtain ⟨p, c, rfl, hc, h⟩ := h
  obtain ⟨n, hn⟩ : ∃ n, L.length = n := ⟨_, rfl⟩
  rw [hn] at h hL ⊢
  have H := Lib.hid h
  have HN := Lib.hid hn
  have HC := Lib.hid hc
  have HL := Lib.hid hl
  clear h hn hc hl
  go_enter Tryd.func84, Tryd.ntmps84
  go_wp2_with fail
  go_loop [3, 11] (fun s i => ∃ k : Nat, k ≤ n ∧ i = .int .i64 k ∧ s = .int .i64 ((cat (L.take k)).length : Nat)) (fun _ i => n - (intOf i).toNat)
  case atStart => exact ⟨0, Nat.zero_le _, rfl, rfl⟩
  case round =>
    obtain ⟨k, hk, rfl, rfl⟩ := hrel
    obtain ⟨m, hm⟩ : ∃ m, (cat (L.take k)).length = m := ⟨_, rfl⟩
    have hml : m ≤ 1000000 := by have := cat_len L k; have := HL.out; omega
    rw [hm]
    have HM := Lib.hid hm
    clear hm
    by_cases hlt : k < n
    · obtain ⟨g, o, rfl, hcell⟩ := H.out.resolve_left (by rintro ⟨_, e, _⟩; have := HN.out; rw [e] at this; simp at this; omega)
      obtain ⟨x, hx, hb⟩ := hcell k hlt
      have HX := Lib.hid hb
      obtain ⟨ao, cp, rfl, _, _⟩ := hb
      obtain ⟨q, hq⟩ : ∃ q, (L.getD k []).length = q := ⟨_, rfl⟩
      have HM1 : Hid ((cat (L.take (k + 1))).length = m + q) := Lib.hid (by
        rw [cat_take L k (by rw [HN.out]; exact hlt), List.length_append, HM.out, hq])
      have hq1 : m + q ≤ 1000000 := by have := cat_len L (k + 1); have := HL.out; have := HM1.out; omega
      rw [hq] at hx
      clear hq hcell
      go_wp2_with fail
      go_round
      case rel => exact ⟨k + 1, by omega, by go_num, by rw [HM1.out]; go_num⟩
      case measure => simp [intOf]; omega
    · obtain rfl : k = n := by omega
      have K := Lib.hid (grow_nil m w hml)
      have HT : Hid (L.take k = L) := List.take_of_length_le (by rw [HN.out]; exact Nat.le_refl _)
      go_wp2_with fail
      refine K.out.mono ?_
      rintro e w1 ⟨r, rfl, hr, hb1⟩
      have HR := Lib.hid hr
      have HB1 := Lib.hid hb1
      clear hr hb1
      go_wp2_with fail
      go_loopw [6, 27] (fun v i wr => ∃ j : Nat, j ≤ k ∧ i = .int .i64 j ∧ wr.ownsRow w.heap.size 5 1 v (cat (L.take j)).length ((cat (L.take j)).map by8) ∧ Below w.heap.size w wr) (fun _ i _ => k - (intOf i).toNat)
      case atStart => exact ⟨0, Nat.zero_le _, rfl, HR.out, HB1.out⟩
      case round =>
        obtain ⟨j, hj, rfl, hown, hbj⟩ := hrel
        have HO := Lib.hid hown
        have HBJ := Lib.hid hbj
        clear hown hbj
        by_cases hlt2 : j < k
        · obtain ⟨g, o, rfl, hcell⟩ := H.out.resolve_left (by rintro ⟨_, e, _⟩; have := HN.out; rw [e] at this; simp at this; omega)
          obtain ⟨x, hx, hb⟩ := hcell j hlt2
          have hx := cell_below HBJ.out hx
          have hb := hb.below HBJ.out
          obtain ⟨l, hl⟩ : ∃ l, L.getD j [] = l := ⟨_, rfl⟩
          have HT1 := Lib.hid (cat_take L j (by rw [HN.out]; exact hlt2))
          rw [hl] at hb HT1
          have hlen : (cat (L.take j)).length + l.length ≤ 1000000 := by
            have h1 := cat_len L (j + 1)
            have h2 := HL.out
            rw [HT1.out, List.length_append] at h1
            omega
          have HLN := Lib.hid hlen
          clear hcell hl hlen
          have NX : ∀ (v' : Value) (w1 : World), w1.ownsRow w.heap.size 5 1 v' ((cat (L.take j)).length + l.length) ((cat (L.take j)).map by8 ++ l.map by8) → w1.ownsRow w.heap.size 5 1 v' (cat (L.take (j + 1))).length ((cat (L.take (j + 1))).map by8) := fun v' w1 h => by
            rw [HT1.out, List.length_append, List.map_append]; exact h
          have HNX := Lib.hid NX
          clear NX
          obtain ⟨ao, cp, rfl, _, hd⟩ := hb
          rcases hd with ⟨rfl, rfl, rfl⟩ | ⟨g2, o2, rfl, hd⟩
          · rw [show ([] : List UInt8).length = 0 from rfl] at hx
            go_wp2_with (at_builtin; refine wpList_append_own_none rfl _ _ 22 rfl w.heap.size 5 i0 1 Tryd.underlying22 hi _ _ _ rfl HO.out rfl ?_)
            go_wp2
            go_roundw
            case rel => exact ⟨j + 1, by omega, by go_num, HNX.out _ _ (by simpa using HO.out), HBJ.out⟩
            case measure => simp [intOf]; omega
          · have HD := Lib.hid hd
            obtain ⟨q, hq⟩ : ∃ q, l.length = q := ⟨_, rfl⟩
            have HQ := Lib.hid hq
            rw [hq] at hx HNX
            clear hd hq
            go_wp2_with (at_builtin; refine wpList_append_own _ rfl _ _ 22 rfl w.heap.size 5 i0 (.int .u8 0) 1 1 Tryd.underlying22 hi hz0 hz1 hz2 rfl (by decide) _ _ _ rfl HO.out ⟨g2, o2, none⟩ q cp (l.map by8) rfl ?c1 ?c2 ?c3 ?c4 ?c5 ?c6 ?_)
            case c1 => rw [List.length_map, HQ.out, Nat.mul_one]
            case c2 => exact fun i u hi => BRow.news HD.out i u hi
            case c3 => exact fun u hu => by8_one u l hu
            case c4 => have := HLN.out; have := HQ.out; unfold maxLen; omega
            case c5 => have := HLN.out; have := HQ.out; omega
            case c6 => exact HBJ.out.size
            intro v' w2 hown2 hgrow2 _
            have hB2 : Below w.heap.size w w2 := HBJ.out.grown hgrow2 HBJ.out.size (own8_ge HO.out)
            have HO2 := Lib.hid (HNX.out _ _ hown2)
            have HB2 := Lib.hid hB2
            clear hown2 hgrow2 hB2
            go_wp2
            go_roundw
            case rel => exact ⟨j + 1, by omega, by go_num, HO2.out, HB2.out⟩
            case measure => simp [intOf]; omega
        · have hjk : L.take j = L := List.take_of_length_le (by rw [HN.out]; omega)
          have HF := HO.out
          rw [hjk] at HF
          have HF := Lib.hid (BRow.of_own HF)
          clear hjk
          go_wp2_with fail
          go_ret
          exact ⟨_, rfl, HF.out, HBJ.out⟩
end Go.Proofs.YtoidopdpnnogaaaDoor
