/- Two slices of texts compared; the texts that are not empty, gathered. -/
import Derived.Test.YtlefgkiembokeaaDoorTw5
import Derived.Test.YtlefgkiembokeaaDoorTi
import Derived.Deep.QuietTactic
import Derived.BigQuiet
namespace Go.Proofs.YtlefgkiembokeaaDoor
set_option linter.unusedVariables false
set_option linter.unusedSimpArgs false
open Go.RowKit Go.Shelf
set_option maxHeartbeats 1000000
theorem tok_same (s t : ByteArray) (w : World) (hs : s.size ≤ 9223372036854775807) (ht : t.size ≤ 9223372036854775807) :
    Calls Tryd.prog 60 #[.string s, .string t] w fun e w' => e = .returned (.bool (Tp.lower s.data.toList == Tp.lower t.data.toList)) ∧ Below w.heap.size w w' := by
  have D1 := Lib.hid (fun W => tok_lower s W hs)
  have D2 := Lib.hid (fun W => tok_lower t W ht)
  go_enter Tryd.func60, Tryd.ntmps60
  go_wp2_with fail
  refine (D1.out _).mono ?_
  rintro e w1 ⟨rfl, hb1⟩
  obtain ⟨x, hx⟩ : ∃ x : ByteArray, (⟨(Tp.lower s.data.toList).toArray⟩ : ByteArray) = x := ⟨_, rfl⟩
  rw [hx]
  have HX := Lib.hid hx
  clear hx
  go_wp2_with fail
  refine (D2.out _).mono ?_
  rintro e w2 ⟨rfl, hb2⟩
  obtain ⟨y, hy⟩ : ∃ y : ByteArray, (⟨(Tp.lower t.data.toList).toArray⟩ : ByteArray) = y := ⟨_, rfl⟩
  rw [hy]
  have HY := Lib.hid hy
  clear hy
  go_wp2_with fail
  go_ret
  refine ⟨ret_bool ?_, hb1.trans (hb2.mono hb1.size)⟩
  have h1 : x.toList = Tp.lower s.data.toList := by rw [← HX.out, ByteArray.toList_eq]
  have h2 : y.toList = Tp.lower t.data.toList := by rw [← HY.out, ByteArray.toList_eq]
  rw [← h1, ← h2]
theorem tok_some (s : ByteArray) (w : World) :
    Calls Tryd.prog 102 #[.string s] w fun e w' => e = .returned (.bool (Tp.some? s.data.toList)) ∧ w = w' := by
  go_enter Tryd.func102, Tryd.ntmps102
  go_wp2_with fail
  go_ret
  refine ⟨ret_bool ?_, rfl⟩
  unfold Tp.some?
  rw [ByteArray.toList_eq]
theorem below_drawn (B : Nat) (w : World) (n : Nat) : Below B w (w.drewN n) := ⟨rfl, rfl, rfl, Nat.le_refl _, fun _ _ => rfl⟩
theorem law_list (v1 v2 : Value) (L1 L2 : List (List UInt8)) (w : World) (h1 : StrRow w v1 L1) (h2 : StrRow w v2 L2) (hl1 : L1.length ≤ 1000) (hl2 : L2.length ≤ 1000) :
    Calls Tryd.prog 61 #[v1, v2] w fun e w' => e = .returned (.bool (L1 == L2)) ∧ Below w.heap.size w w' := by
  obtain ⟨p1, c1, rfl, h1⟩ := h1
  obtain ⟨p2, c2, rfl, h2⟩ := h2
  obtain ⟨n1, hn1⟩ : ∃ n, L1.length = n := ⟨_, rfl⟩
  obtain ⟨n2, hn2⟩ : ∃ n, L2.length = n := ⟨_, rfl⟩
  rw [hn1] at h1 hl1 ⊢
  rw [hn2] at h2 hl2 ⊢
  have HN1 := Lib.hid hn1
  have HN2 := Lib.hid hn2
  have H1 := Lib.hid h1
  have H2 := Lib.hid h2
  clear h1 h2 hn1 hn2
  by_cases hne : n1 = n2
  · subst hne
    clear hl2
    go_enter Tryd.func61, Tryd.ntmps61
    go_wp2_with fail
    go_loopw [5] (fun i wr => ∃ k : Nat, k ≤ n1 ∧ i = .int .i64 k ∧ L1.take k = L2.take k ∧ Below w.heap.size w wr) (fun i _ => n1 - (intOf i).toNat)
    case atStart => exact ⟨0, Nat.zero_le _, rfl, rfl, Below.refl _ _⟩
    case round =>
      obtain ⟨k, hk, rfl, htk, hb⟩ := hrel
      have HT := Lib.hid htk
      have HB := Lib.hid hb
      clear htk hb
      by_cases hlt : k < n1
      · obtain ⟨g1, rfl, hc1⟩ := H1.out.resolve_left (by omega)
        obtain ⟨g2, rfl, hc2⟩ := H2.out.resolve_left (by omega)
        have hx := cell_below HB.out (hc1 k hlt)
        have hy := cell_below HB.out (hc2 k hlt)
        obtain ⟨x, hxx⟩ : ∃ x, L1.getD k [] = x := ⟨_, rfl⟩
        obtain ⟨y, hyy⟩ : ∃ x, L2.getD k [] = x := ⟨_, rfl⟩
        rw [hxx] at hx
        rw [hyy] at hy
        have HX := Lib.hid hxx
        have HY := Lib.hid hyy
        clear hc1 hc2 hxx hyy H1 H2
        have ht1 : L1.take (k + 1) = L1.take k ++ [x] := by rw [List.take_succ_eq_append_getElem (by rw [HN1.out]; exact hlt), ← HX.out]; simp [List.getD_eq_getElem?_getD, List.getElem?_eq_getElem (show k < L1.length by rw [HN1.out]; exact hlt)]
        have ht2 : L2.take (k + 1) = L2.take k ++ [y] := by rw [List.take_succ_eq_append_getElem (by rw [HN2.out]; exact hlt), ← HY.out]; simp [List.getD_eq_getElem?_getD, List.getElem?_eq_getElem (show k < L2.length by rw [HN2.out]; exact hlt)]
        have H1 := Lib.hid ht1
        have H2 := Lib.hid ht2
        clear ht1 ht2
        unfold tx at hx hy
        obtain ⟨xb, hxb⟩ : ∃ z : ByteArray, (⟨x.toArray⟩ : ByteArray) = z := ⟨_, rfl⟩
        obtain ⟨yb, hyb⟩ : ∃ z : ByteArray, (⟨y.toArray⟩ : ByteArray) = z := ⟨_, rfl⟩
        rw [hxb] at hx
        rw [hyb] at hy
        have hq : (xb.toList == yb.toList) = (x == y) := by rw [← hxb, ← hyb, ByteArray.toList_eq, ByteArray.toList_eq]
        clear hxb hyb
        obtain ⟨d, hd⟩ : ∃ d, (x == y) = d := ⟨_, rfl⟩
        rw [hd] at hq
        have HD := Lib.hid hd
        clear hd
        cases d
        · go_wp2_with fail
          go_quiet (fail)
          go_wp2_with fail
          go_ret
          refine ⟨ret_bool (beq_eq_false_iff_ne.2 fun e => ?_).symm, HB.out.trans (below_drawn _ _ _)⟩
          have h1 := H1.out
          have h2 := H2.out
          rw [e, h2] at h1
          have h3 : [y] = [x] := List.append_cancel_left (h1.trans (by rw [← e, HT.out]))
          exact beq_eq_false_iff_ne.1 HD.out (by simpa using h3.symm)
        · go_wp2_with fail
          go_quiet (fail)
          go_wp2_with fail
          go_roundw
          case rel => exact ⟨k + 1, by omega, by go_num, by rw [H1.out, H2.out, HT.out, beq_iff_eq.1 HD.out], HB.out.trans (below_drawn _ _ _)⟩
          case measure => simp [intOf]; omega
      · have hk1 : k = n1 := by omega
        subst hk1
        have hL := HT.out
        rw [List.take_of_length_le (by rw [HN1.out]; exact Nat.le_refl _), List.take_of_length_le (by rw [HN2.out]; exact Nat.le_refl _)] at hL
        have HL := Lib.hid hL
        clear hL
        go_wp2_with fail
        go_ret
        exact ⟨ret_bool (beq_iff_eq.2 HL.out).symm, HB.out⟩
  · go_enter Tryd.func61, Tryd.ntmps61
    go_wp2_with fail
    go_ret
    refine ⟨ret_bool (beq_eq_false_iff_ne.2 fun e => hne ?_).symm, Below.refl _ _⟩
    rw [← HN1.out, ← HN2.out, e]
theorem own_ge {w : World} {B : Nat} {e : TypeId} {v : Value} {n : Nat} {xs : List Value} (h : w.ownsRow B e 1 v n xs) : ∀ k, v.ownBlock = some k → B ≤ k := by
  intro k hk
  rcases h.2 with ⟨rfl, _⟩ | ⟨g, cap, cur, rfl, hg, _⟩
  · simp [Value.ownBlock] at hk
  · have : g = k := by simpa [Value.ownBlock] using hk
    omega
theorem filter_le (L : List (List UInt8)) (k : Nat) : ((L.take k).filter Tp.some?).length ≤ L.length :=
  Nat.le_trans (List.length_filter_le _ _) (by rw [List.length_take]; omega)
set_option maxRecDepth 100000 in
/-- gathering: what is kept of the first k -/
theorem tok_sifted (B : Nat) (v : Value) (L : List (List UInt8)) (w : World) (hB : w.heap.size = B) (h : StrRow w v L) (hl : L.length ≤ 1000) :
    Calls Tryd.prog 101 #[.func (.func 102) #[] #[], v] w fun e w' => ∃ r, e = .returned r ∧ w'.ownsRow B 9 1 r (L.filter Tp.some?).length ((L.filter Tp.some?).map tx) ∧ Below B w w' := by
  obtain ⟨p, c, rfl, h⟩ := h
  have H := Lib.hid h
  clear h
  obtain ⟨n, hn⟩ : ∃ n, L.length = n := ⟨_, rfl⟩
  rw [hn] at hl ⊢
  have HN := Lib.hid hn
  clear hn
  obtain ⟨i0, hi, hz0, hz1, hz2⟩ := info_parts (show (Tryd.prog.info? 9).map (fun i => (i.zero, i.size, i.bytes)) = some (some (.string ByteArray.empty), 1, 16) by kernel_rfl)
  go_enter Tryd.func101, Tryd.ntmps101
  go_wp2_with fail
  go_loopw [4, 6, 9] (fun v _ i wr => ∃ k : Nat, k ≤ n ∧ i = .int .i64 k ∧ wr.ownsRow B 9 1 v ((L.take k).filter Tp.some?).length (((L.take k).filter Tp.some?).map tx) ∧ Below B w wr) (fun _ _ i _ => n - (intOf i).toNat)
  case atStart => exact ⟨0, Nat.zero_le _, rfl, World.ownsRow_nil _ _ _ _, Below.refl _ _⟩
  case round =>
    obtain ⟨k, hk, rfl, hown, hb⟩ := hrel
    have HO := Lib.hid hown
    have HB := Lib.hid hb
    clear hown hb
    by_cases hlt : k < n
    · obtain ⟨g, rfl, hc⟩ := H.out.resolve_left (by rw [HN.out]; omega)
      have hb0 : Below w.heap.size w wr := by rw [hB]; exact HB.out
      have hx := cell_below hb0 (hc k (by rw [HN.out]; exact hlt))
      clear hb0
      have ht : L.take (k + 1) = L.take k ++ [L.getD k []] := by rw [List.take_succ_eq_append_getElem (by rw [HN.out]; exact hlt)]; simp [List.getD_eq_getElem?_getD, List.getElem?_eq_getElem (show k < L.length by rw [HN.out]; exact hlt)]
      obtain ⟨x, hxx⟩ : ∃ x, L.getD k [] = x := ⟨_, rfl⟩
      rw [hxx] at hx ht
      have HT := Lib.hid ht
      clear hc hxx ht
      obtain ⟨xb, hxb⟩ : ∃ z : ByteArray, (⟨x.toArray⟩ : ByteArray) = z := ⟨_, rfl⟩
      have hxd : xb.data.toList = x := by rw [← hxb]
      have HX := Lib.hid hxb
      unfold tx at hx
      rw [hxb] at hx
      have K := Lib.hid (tok_some xb wr)
      rw [hxd] at K
      clear hxb hxd
      go_wp2_with fail
      refine K.out.mono ?_
      rintro e w' ⟨rfl, rfl⟩
      obtain ⟨d, hd⟩ : ∃ d, Tp.some? x = d := ⟨_, rfl⟩
      rw [hd]
      have HD := Lib.hid hd
      clear hd
      cases d
      · go_wp2_with fail
        go_roundw
        case rel => exact ⟨k + 1, by omega, by go_num, by rw [HT.out, List.filter_append, show [x].filter Tp.some? = [] by simp [HD.out], List.append_nil]; exact HO.out, HB.out⟩
        case measure => simp [intOf]; omega
      · go_wp2_with (first
          | (at_builtin; refine wpList_append_own _ rfl _ _ 68 rfl B 9 i0 (.string ByteArray.empty) 1 16 Tryd.underlying68 hi hz0 hz1 hz2 rfl (by decide) _ _ _ rfl (HO.out.alloc _) ⟨wr.heap.size, 0, none⟩ 1 1 [.string xb] rfl rfl ?c1 ?c2 ?c3 ?c4 ?c5 ?_)
          | go_in)
        case c1 =>
          intro j u hj
          match j, hj with
          | 0, hj => simp at hj; subst hj; simp [Addr.add]
        case c2 => intro u hu; simp at hu; subst hu; rfl
        case c3 => have := filter_le L k; rw [HN.out] at this; unfold maxLen; omega
        case c4 => have := filter_le L k; rw [HN.out] at this; omega
        case c5 => have := HB.out.size; simp; omega
        intro v' w1 hown' hgrow _
        have hb1 : Below B w w1 := Below.grown (HB.out.alloc (by have := HB.out.size; omega) _) hgrow (by have := HB.out.size; simp; omega) (own_ge HO.out)
        have HB1 := Lib.hid hb1
        have hf : (L.take (k + 1)).filter Tp.some? = (L.take k).filter Tp.some? ++ [x] := by rw [HT.out, List.filter_append, show [x].filter Tp.some? = [x] by simp [HD.out]]
        have ho : w1.ownsRow B 9 1 v' ((L.take (k + 1)).filter Tp.some?).length (((L.take (k + 1)).filter Tp.some?).map tx) := by
          rw [hf, List.map_append, List.length_append]
          have : tx x = .string xb := by unfold tx; rw [HX.out]
          show w1.ownsRow B 9 1 v' _ (_ ++ [tx x])
          rw [this]
          exact hown'
        have HO1 := Lib.hid ho
        clear ho hf hb1 hgrow hown'
        go_wp2
        go_roundw
        case rel => exact ⟨k + 1, by omega, by go_num, HO1.out, HB1.out⟩
        case measure => simp [intOf]; omega
    · have hk1 : k = n := by omega
      subst hk1
      have hL := HO.out
      rw [List.take_of_length_le (by rw [HN.out]; exact Nat.le_refl _)] at hL
      have HL := Lib.hid hL
      clear hL
      go_wp2_with fail
      go_ret
      exact ⟨_, rfl, HL.out, HB.out⟩
end Go.Proofs.YtlefgkiembokeaaDoor
