/- A list's items, the reference's: those of the text Ti. -/
import Derived.Test.YtlefgkiembokeaaDoorTw7
namespace Go.Proofs.YtlefgkiembokeaaDoor
set_option linter.unusedVariables false
set_option linter.unusedSimpArgs false
open Go.RowKit Go.Shelf
set_option maxHeartbeats 1000000
theorem itm_nil (cur : List UInt8) : Tp.itm cur [] = [Tp.trim cur].filter Tp.some? := rfl
theorem itm_comma (cur l : List UInt8) : Tp.itm cur (44 :: l) = [Tp.trim cur].filter Tp.some? ++ Tp.itm [] l := by
  unfold Tp.itm
  rw [Tp.parts, if_pos rfl, List.map_cons, ← List.singleton_append, List.filter_append]
theorem itm_more (cur l : List UInt8) (c : UInt8) (h : c ≠ 44) : Tp.itm cur (c :: l) = Tp.itm (cur ++ [c]) l := by
  unfold Tp.itm
  rw [Tp.parts, if_neg h]
theorem cut_snoc (l : List UInt8) (a k : Nat) (h : a ≤ k) (hk : k < l.length) : (l.drop a).take (k - a) ++ [l[k]] = (l.drop a).take (k + 1 - a) := by
  rw [show k + 1 - a = (k - a) + 1 by omega, List.take_succ_eq_append_getElem (by rw [List.length_drop]; omega), List.getElem_drop]
  congr 3
  omega
theorem drop_here (l : List UInt8) (k : Nat) (hk : k < l.length) : l.drop k = l[k] :: l.drop (k + 1) := List.drop_eq_getElem_cons hk
/-- the reference's place in the text: what is gathered, and where the part began -/
def ItAt (l : List UInt8) (L : List (List UInt8)) (a k : Nat) : Prop :=
  L.length ≤ k ∧ ((k ≤ l.length ∧ a ≤ k ∧ L ++ Tp.itm ((l.drop a).take (k - a)) (l.drop k) = Tp.items l) ∨ (k = l.length + 1 ∧ L = Tp.items l))
theorem itAt_start (l : List UInt8) : ItAt l [] 0 0 := ⟨Nat.le_refl _, .inl ⟨Nat.zero_le _, Nat.le_refl _, rfl⟩⟩
theorem itAt_more {l : List UInt8} {L : List (List UInt8)} {a k : Nat} (h : ItAt l L a k) (hk : k < l.length) (hc : l[k] ≠ 44) : ItAt l L a (k + 1) := by
  obtain ⟨h1, h2⟩ := h
  rcases h2 with ⟨_, ha, h2⟩ | ⟨h2, _⟩
  · refine ⟨by omega, .inl ⟨by omega, by omega, ?_⟩⟩
    rw [drop_here l k hk, itm_more _ _ _ hc, cut_snoc l a k ha hk] at h2
    exact h2
  · omega
theorem itAt_cut {l : List UInt8} {L : List (List UInt8)} {a k : Nat} (h : ItAt l L a k) (hk : k ≤ l.length) (hc : ∀ h : k < l.length, l[k] = 44) : ItAt l (L ++ [Tp.trim ((l.drop a).take (k - a))].filter Tp.some?) (k + 1) (k + 1) := by
  obtain ⟨h1, h2⟩ := h
  rcases h2 with ⟨_, ha, h2⟩ | ⟨h2, _⟩
  · refine ⟨?_, ?_⟩
    · have := List.length_filter_le Tp.some? [Tp.trim ((l.drop a).take (k - a))]
      rw [List.length_append]
      simp only [List.length_singleton] at this
      omega
    · by_cases hlt : k < l.length
      · refine .inl ⟨hlt, Nat.le_refl _, ?_⟩
        rw [drop_here l k hlt, hc hlt, itm_comma] at h2
        rw [Nat.sub_self, List.take_zero, List.append_assoc]
        exact h2
      · refine .inr ⟨by omega, ?_⟩
        have : k = l.length := by omega
        rw [this, List.drop_length, itm_nil] at h2
        rw [this]
        exact h2
  · omega
theorem slice_mid (u : ByteArray) (w : World) (a k : Nat) (h : a ≤ k) (hk : k ≤ u.size) (hu : u.size ≤ 9223372036854775807) : (Instr.slice 9 (.string u) (some (.int .i64 (a : Int))) (some (.int .i64 (k : Int))) none).run Tryd.prog w = .ok (.string (u.extract a k)) w := by
  have h1 : (a : Int) ≤ k := by omega
  have h2 : (k : Int) ≤ u.size := by omega
  simp [go_sem, Tryd.underlying9, h1, h2]
theorem index_at (u : ByteArray) (w : World) (k : Nat) (h : k < u.size) : (Instr.index 9 (.string u) (.int .i64 (k : Int))).run Tryd.prog w = .ok (.int .u8 ((u[k]).toNat : Int)) w := by
  have hi : (0 : Int) ≤ (k : Int) ∧ (k : Int) < u.size := by omega
  rw [run_index_string w 9 u .i64 _ Tryd.underlying9, dif_pos hi]
  simp only [Int.toNat_natCast]
set_option maxRecDepth 100000 in
theorem rtk_items (s : ByteArray) (w : World) (hs : s.size ≤ 500) :
    Calls Tryd.prog 63 #[.string s] w fun e w' => ∃ r, e = .returned r ∧ StrRow w' r (Tp.items s.data.toList) ∧ Below w.heap.size w w' := by
  obtain ⟨i0, hi, hz0, hz1, hz2⟩ := info_parts (show (Tryd.prog.info? 9).map (fun i => (i.zero, i.size, i.bytes)) = some (some (.string ByteArray.empty), 1, 16) by kernel_rfl)
  obtain ⟨B, hB⟩ : ∃ B, w.heap.size = B := ⟨_, rfl⟩
  rw [hB]
  have HSL := Lib.hid (fun a k h1 h2 W => slice_mid s W a k h1 h2 (by omega))
  have HIX := Lib.hid (fun k h W => index_at s W k h)
  go_enter Tryd.func63, Tryd.ntmps63
  go_wp2_with fail
  go_loopw [3, 4, 5, 6] (fun v f i _ wr => ∃ (k a : Nat) (L : List (List UInt8)), k ≤ s.size + 1 ∧ i = .int .i64 k ∧ f = .int .i64 a ∧ ItAt s.data.toList L a k ∧ wr.ownsRow B 9 1 v L.length (L.map tx) ∧ Below B w wr) (fun _ _ i _ _ => s.size + 1 - (intOf i).toNat)
  case atStart => exact ⟨0, 0, [], Nat.zero_le _, rfl, rfl, itAt_start _, World.ownsRow_nil _ _ _ _, Below.refl _ _⟩
  case round =>
    obtain ⟨k, a, L, hk, rfl, rfl, hat, hown, hb⟩ := hrel
    have HA := Lib.hid hat
    have HO := Lib.hid hown
    have HB := Lib.hid hb
    clear hat hown hb
    by_cases hlt : k < s.size
    · have hix := HIX.out k hlt
      have hcl : s.data.toList[k]'(by simpa using hlt) = s[k] := rfl
      obtain ⟨x, hx⟩ : ∃ x : Int, ((s[k]).toNat : Int) = x := ⟨_, rfl⟩
      rw [hx] at hix
      have HX := Lib.hid hx
      clear hx
      by_cases hc : x = 44
      · have hc1 : (x == 44) = true := beq_iff_eq.2 hc
        have HM := Lib.hid (itAt_cut HA.out (by simp; omega) (fun hh => UInt8.toNat_inj.1 (by have := HX.out; rw [hc] at this; show (s[k]).toNat = 44; omega)))
        clear hc hcl
        have ha : a ≤ k := by rcases HA.out.2 with ⟨_, h, _⟩ | ⟨h, _⟩; exact h; simp at h; omega
        have hsl := HSL.out a k ha (by omega)
        obtain ⟨z, hz⟩ : ∃ z, s.extract a k = z := ⟨_, rfl⟩
        have hzl : z.size ≤ 9223372036854775807 := by rw [← hz, ByteArray.size_extract]; omega
        have hzd : (s.data.toList.drop a).take (k - a) = z.data.toList := by rw [← hz, Lib.extract_data]
        rw [hzd] at HM
        rw [hz] at hsl
        have K := Lib.hid (rtk_trim z wr hzl)
        clear hzd hzl hz
        obtain ⟨y, hy⟩ : ∃ y, Tp.trim z.data.toList = y := ⟨_, rfl⟩
        rw [hy] at HM K
        clear hy
        go_wp2_with (first | simp only [hix] | simp only [hsl])
        refine K.out.mono ?_
        rintro e w' ⟨rfl, rfl⟩
        obtain ⟨yb, hyb⟩ : ∃ z : ByteArray, (⟨y.toArray⟩ : ByteArray) = z := ⟨_, rfl⟩
        rw [hyb]
        have HTY := Lib.hid (show tx y = .string yb by unfold tx; rw [hyb])
        obtain ⟨d, hd⟩ : ∃ d, y.isEmpty = d := ⟨_, rfl⟩
        have hq : yb.toList.isEmpty = d := by rw [← hyb, ByteArray.toList_eq]; exact hd
        have hso : Tp.some? y = !d := by unfold Tp.some?; rw [hd]
        clear hyb hd
        cases d
        · rw [show [y].filter Tp.some? = [y] by simp [hso]] at HM
          clear hso
          go_wp2_with (first
            | (at_builtin; refine wpList_append_own _ rfl _ _ 68 rfl B 9 i0 (.string ByteArray.empty) 1 16 Tryd.underlying68 hi hz0 hz1 hz2 rfl (by decide) _ _ _ rfl (HO.out.alloc _) ⟨wr.heap.size, 0, none⟩ 1 1 [.string yb] rfl rfl ?c1 ?c2 ?c3 ?c4 ?c5 ?_)
            | go_in)
          case c1 =>
            intro j u hj
            match j, hj with
            | 0, hj => simp at hj; subst hj; simp [Addr.add]
          case c2 => intro u hu; simp at hu; subst hu; rfl
          case c3 => have := HA.out.1; unfold maxLen; omega
          case c4 => have := HA.out.1; omega
          case c5 => have := HB.out.size; simp; omega
          intro v' w1 hown' hgrow _
          have hb1 : Below B w w1 := Below.grown (HB.out.alloc (by have := HB.out.size; omega) _) hgrow (by have := HB.out.size; simp; omega) (own_ge HO.out)
          have HB1 := Lib.hid hb1
          have ho : w1.ownsRow B 9 1 v' (L ++ [y]).length ((L ++ [y]).map tx) := by
            rw [List.map_append, List.length_append]
            show w1.ownsRow B 9 1 v' _ (_ ++ [tx y])
            rw [HTY.out]
            exact hown'
          have HO1 := Lib.hid ho
          clear ho hb1 hgrow hown'
          go_wp2
          go_roundw
          case rel => exact ⟨k + 1, k + 1, L ++ [y], by omega, by go_num, by go_num, HM.out, HO1.out, HB1.out⟩
          case measure => simp [intOf]; omega
        · rw [show [y].filter Tp.some? = [] by simp [hso], List.append_nil] at HM
          clear hso
          go_wp2
          go_roundw
          case rel => exact ⟨k + 1, k + 1, L, by omega, by go_num, by go_num, HM.out, HO.out, HB.out⟩
          case measure => simp [intOf]; omega
      · have hc1 : (x == 44) = false := beq_eq_false_iff_ne.2 hc
        have HM := Lib.hid (itAt_more HA.out (by simpa using hlt) (by intro e; apply hc; rw [← HX.out, ← hcl, e]; rfl))
        clear hc hcl
        go_wp2_with (simp only [hix])
        go_roundw
        case rel => exact ⟨k + 1, a, L, by omega, by go_num, rfl, HM.out, HO.out, HB.out⟩
        case measure => simp [intOf]; omega
    · by_cases hlt2 : k = s.size
      · have HM := Lib.hid (itAt_cut HA.out (by simp; omega) (fun hh => absurd (show k < s.size by simpa using hh) hlt))
        have ha : a ≤ k := by rcases HA.out.2 with ⟨_, h, _⟩ | ⟨h, _⟩; exact h; simp at h; omega
        have hsl := HSL.out a k ha (by omega)
        obtain ⟨z, hz⟩ : ∃ z, s.extract a k = z := ⟨_, rfl⟩
        have hzl : z.size ≤ 9223372036854775807 := by rw [← hz, ByteArray.size_extract]; omega
        have hzd : (s.data.toList.drop a).take (k - a) = z.data.toList := by rw [← hz, Lib.extract_data]
        rw [hzd] at HM
        rw [hz] at hsl
        have K := Lib.hid (rtk_trim z wr hzl)
        clear hzd hzl hz
        obtain ⟨y, hy⟩ : ∃ y, Tp.trim z.data.toList = y := ⟨_, rfl⟩
        rw [hy] at HM K
        clear hy
        have hle : k ≤ s.size := by omega
        clear hlt2
        go_wp2_with (simp only [hsl])
        refine K.out.mono ?_
        rintro e w' ⟨rfl, rfl⟩
        obtain ⟨yb, hyb⟩ : ∃ z : ByteArray, (⟨y.toArray⟩ : ByteArray) = z := ⟨_, rfl⟩
        rw [hyb]
        have HTY := Lib.hid (show tx y = .string yb by unfold tx; rw [hyb])
        obtain ⟨d, hd⟩ : ∃ d, y.isEmpty = d := ⟨_, rfl⟩
        have hq : yb.toList.isEmpty = d := by rw [← hyb, ByteArray.toList_eq]; exact hd
        have hso : Tp.some? y = !d := by unfold Tp.some?; rw [hd]
        clear hyb hd
        cases d
        · rw [show [y].filter Tp.some? = [y] by simp [hso]] at HM
          clear hso
          go_wp2_with (first
            | (at_builtin; refine wpList_append_own _ rfl _ _ 68 rfl B 9 i0 (.string ByteArray.empty) 1 16 Tryd.underlying68 hi hz0 hz1 hz2 rfl (by decide) _ _ _ rfl (HO.out.alloc _) ⟨wr.heap.size, 0, none⟩ 1 1 [.string yb] rfl rfl ?c1 ?c2 ?c3 ?c4 ?c5 ?_)
            | go_in)
          case c1 =>
            intro j u hj
            match j, hj with
            | 0, hj => simp at hj; subst hj; simp [Addr.add]
          case c2 => intro u hu; simp at hu; subst hu; rfl
          case c3 => have := HA.out.1; unfold maxLen; omega
          case c4 => have := HA.out.1; omega
          case c5 => have := HB.out.size; simp; omega
          intro v' w1 hown' hgrow _
          have hb1 : Below B w w1 := Below.grown (HB.out.alloc (by have := HB.out.size; omega) _) hgrow (by have := HB.out.size; simp; omega) (own_ge HO.out)
          have HB1 := Lib.hid hb1
          have ho : w1.ownsRow B 9 1 v' (L ++ [y]).length ((L ++ [y]).map tx) := by
            rw [List.map_append, List.length_append]
            show w1.ownsRow B 9 1 v' _ (_ ++ [tx y])
            rw [HTY.out]
            exact hown'
          have HO1 := Lib.hid ho
          clear ho hb1 hgrow hown'
          go_wp2
          go_roundw
          case rel => exact ⟨k + 1, k + 1, L ++ [y], by omega, by go_num, by go_num, HM.out, HO1.out, HB1.out⟩
          case measure => simp [intOf]; omega
        · rw [show [y].filter Tp.some? = [] by simp [hso], List.append_nil] at HM
          clear hso
          go_wp2
          go_roundw
          case rel => exact ⟨k + 1, k + 1, L, by omega, by go_num, by go_num, HM.out, HO.out, HB.out⟩
          case measure => simp [intOf]; omega
      · have hk2 : k = s.size + 1 := by omega
        have hL : L = Tp.items s.data.toList := by
          rcases HA.out.2 with ⟨h, _⟩ | ⟨_, h⟩
          · simp at h; omega
          · exact h
        have hle : ¬ k ≤ s.size := by omega
        have HL := Lib.hid hL
        clear hk2 hlt2 hL
        go_wp2
        go_ret
        exact ⟨_, rfl, strRow_own (by rw [← HL.out]; exact HO.out), HB.out⟩
end Go.Proofs.YtlefgkiembokeaaDoor
