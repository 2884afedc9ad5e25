/- The reference's pieces; the program's chunks of all pieces. -/
import Derived.Test.YtoidopdpnnogaaaDoorCk9
import Derived.Test.YtoidopdpnnogaaaDoorCkB
namespace Go.Proofs.YtoidopdpnnogaaaDoor
set_option linter.unusedVariables false
set_option linter.unusedSimpArgs false
open Go.RowKit Go.Shelf
set_option maxHeartbeats 2000000
theorem ck_min (ts : Array TypeId) (t : TypeId) (a b : Int) (w : World) : (Builtin.min_ ts t #[.int .i64 a, .int .i64 b]).run Tryd.prog w = .ok (.int .i64 (if b < a then b else a)) w := by
  simp [Builtin.min_, Builtin.min2, go_sem]
theorem ck_max (ts : Array TypeId) (t : TypeId) (a b : Int) (w : World) : (Builtin.max_ ts t #[.int .i64 a, .int .i64 b]).run Tryd.prog w = .ok (.int .i64 (if b > a then b else a)) w := by
  simp [Builtin.max_, Builtin.max2, go_sem]
theorem brow_sub {W : World} {g o n cap : Nat} {l : List UInt8} (h : BRow W (.slice (some ⟨g, o, none⟩) n cap) l) (i e c : Nat) (he : i + e ≤ n) (hc : e ≤ c) (m : Nat) (hm : e = min m (n - i)) : BRow W (.slice (some ⟨g, o + i, none⟩) e c) ((l.drop i).take m) := by
  obtain ⟨ao, c', h1, _, h⟩ := brow_piece h i e he m hm
  have hl : ((l.drop i).take m).length = e := by injection h1 with _ h2 _; exact h2.symm
  refine ⟨some ⟨g, o + i, none⟩, c, by rw [hl], by rw [hl]; exact hc, ?_⟩
  rcases h with ⟨h, _⟩ | ⟨g', o', h2, h⟩
  · subst h; cases h1
  · subst h2
    cases h1
    exact .inr ⟨_, _, rfl, h⟩
set_option maxRecDepth 100000 in
theorem rch_cut_wrong (v : Value) (most : Int) (w : World) (hm : most < 1) :
    Calls Tryd.prog 14 #[v, .int .i64 most] w fun e w' => e = .returned (.tuple #[.slice none 0 0, .int .i64 2]) ∧ w = w' := by
  go_enter Tryd.func14, Tryd.ntmps14
  go_wp2
  exact bodyPost_ret (v := .tuple #[.slice none 0 0, .int .i64 2]) (by simp [results, Tryd.results14, go_sem]) rfl ⟨rfl, rfl⟩
theorem min_cut {most : Int} {n M x : Nat} (hM : min most ((n : Int) + 1) = (M : Int)) (hx : x ≤ n) : (if (x : Int) < most then (x : Int) else most) = ((min M x : Nat) : Int) := by
  split <;> omega
set_option maxRecDepth 100000 in
theorem rch_cut (ao : Option Addr) (n cap M N : Nat) (l : List UInt8) (most : Int) (w : World) (h : BRow w (.slice ao n cap) l) (hl : n ≤ 1000) (hm : ¬ most < 1) (hM : min most ((n : Int) + 1) = (M : Int)) (hN : PieN n M N) :
    Calls Tryd.prog 14 #[.slice ao n cap, .int .i64 most] w fun e w' => ∃ r, e = .returned (.tuple #[r, .int .i64 0]) ∧ BRows w' r (pies M N l) ∧ Below w.heap.size w w' := by
  have hcap : n ≤ cap := by obtain ⟨_, _, e, h1, _⟩ := h; cases e; exact h1
  have hM1 : 1 ≤ M := by omega
  have hH := Lib.hid h
  have hPN := Lib.hid hN
  have HMM := Lib.hid hM
  obtain ⟨ao', c', e1, _, hh⟩ := h
  have hln : l.length = n := by cases e1; rfl
  rcases hh with ⟨rfl, rfl, rfl⟩ | ⟨g, o, rfl, _⟩
  · have hao : ao = none := by cases e1; rfl
    have hn0 : n = 0 := by cases e1; rfl
    have hc0 : cap = 0 := by cases e1; rfl
    subst hao hn0 hc0
    have hN0 : N = 0 := by
      have h2 : ¬ 0 < N := fun h => absurd ((hN 0).2 h) (by simp)
      omega
    subst hN0
    clear hN hM e1
    go_enter Tryd.func14, Tryd.ntmps14
    go_wp2_with fail
    go_loopw [0, 6, 7] (fun b v _ wr => b = .slice none 0 0 ∧ v = .slice none 0 0 ∧ wr = w) (fun _ _ _ _ => 0)
    case atStart => exact ⟨rfl, rfl, rfl⟩
    case round =>
      obtain ⟨rfl, rfl, rfl⟩ := hrel
      go_wp2
      exact bodyPost_ret (v := .tuple #[.slice none 0 0, .int .i64 0]) (by simp [results, Tryd.results14, go_sem]) rfl ⟨_, rfl, brows_none _, Below.refl _ _⟩
  · have hao : ao = some ⟨g, o, none⟩ := by cases e1; rfl
    subst hao
    clear e1 hN hM
    obtain ⟨i0, hi, hz0, hz1, hz2⟩ := info_parts info8s
    obtain ⟨B, hB⟩ : ∃ B, w.heap.size = B := ⟨_, rfl⟩
    rw [hB]
    have HBW := Lib.hid hB
    clear hB
    go_enter Tryd.func14, Tryd.ntmps14
    go_wp2_with fail
    go_loopw [0, 6, 7] (fun b v _ wr => ∃ (k : Nat) (xs : List Value) (o' : Nat), k ≤ N ∧ k * M ≤ n + M ∧ b = .slice (some ⟨g, o', none⟩) (n - k * M) (cap - min (k * M) n) ∧ (k * M < n → o' = o + k * M) ∧ wr.ownsRow B 22 1 v k xs ∧ (∀ j, j < k → BRow w (xs.getD j (.slice none 0 0)) ((pies M N l).getD j [])) ∧ Below B w wr) (fun b _ _ _ => match b with | .slice _ m _ => m | _ => 0)
    case atStart => exact ⟨0, [], o, Nat.zero_le _, by omega, by simp, fun _ => by simp, World.ownsRow_nil _ _ _ _, fun j hj => absurd hj (by omega), Below.refl _ _⟩
    case round =>
      obtain ⟨k, xs, o', hk, hkm, rfl, ho', hown, hel, hb⟩ := hrel
      have HO := Lib.hid hown
      have HB := Lib.hid hb
      have HEL := Lib.hid hel
      clear hown hb hel
      have HK := Lib.hid (hPN.out k)
      by_cases hlt : k < N
      · have hkn : k * M < n := HK.out.2 hlt
        obtain rfl := ho' hkn
        clear ho'
        obtain ⟨q, hq⟩ : ∃ q, k * M = q := ⟨_, rfl⟩
        have HQ := Lib.hid hq
        rw [hq] at hkn hkm
        rw [show min (k * M) n = k * M by omega, hq]
        obtain ⟨x, hx⟩ : ∃ x, n - q = x := ⟨_, rfl⟩
        have HX := Lib.hid hx
        obtain ⟨e, he⟩ : ∃ e, min M x = e := ⟨_, rfl⟩
        have HE := Lib.hid he
        have hmin := min_cut (x := x) HMM.out (by omega)
        rw [he] at hmin
        have hmn : ∀ W, (Builtin.min_ #[3, 3] 3 #[.int .i64 most, .int .i64 (x : Int)]).run Tryd.prog W = .ok (.int .i64 (e : Int)) W := fun W => by rw [ck_min, hmin]
        have hBR := Lib.hid (brow_sub hH.out q e (cap - q) (by omega) (by omega) M (by omega))
        have hx0 : (0 : Int) < (x : Int) := by omega
        have hex : e ≤ x := by omega
        have hec : e ≤ cap - q := by omega
        have he0 : 0 < e := by omega
        have hxc : x ≤ cap - q := by omega
        rw [hx]
        clear hq hx he hmin HK
        go_wp2_with (first
          | (at_builtin; refine wpList_append_own _ rfl _ _ 24 rfl B 22 i0 (.slice none 0 0) 1 24 Tryd.underlying24 hi hz0 hz1 hz2 rfl (by decide) _ _ _ rfl (HO.out.alloc _) ⟨wr.heap.size, 0, none⟩ 1 1 [.slice (some ⟨g, o + q, none⟩) e (cap - q)] rfl rfl ?c1 ?c2 ?c3 ?c4 ?c5 ?_)
          | simp only [hmn])
        case c1 => exact fun j u hj => cell_one_any _ _ j u hj
        case c2 => intro u hu; simp at hu; subst hu; rfl
        case c3 => have := HO.out.1; have : k ≤ k * M := Nat.le_mul_of_pos_right k (by omega); have := HQ.out; unfold maxLen; omega
        case c4 => have : k ≤ k * M := Nat.le_mul_of_pos_right k (by omega); have := HQ.out; omega
        case c5 => have := HB.out.size; have := HBW.out; simp; omega
        intro v' w1 hown' hgrow _
        have hs0 : B ≤ wr.heap.size := by have := HB.out.size; have := HBW.out; omega
        have HB1 := Lib.hid (show Below B w w1 from Below.grown (HB.out.alloc hs0 _) hgrow (by simp; omega) (own8_ge HO.out))
        have HO1 := Lib.hid hown'
        have HEL1 : Hid (∀ j, j < k + 1 → BRow w ((xs ++ [Value.slice (some ⟨g, o + q, none⟩) e (cap - q)]).getD j (.slice none 0 0)) ((pies M N l).getD j [])) := Lib.hid (fun j hj => by
          have hxl : xs.length = k := by have := HO.out.1; omega
          by_cases hjk : j < k
          · rw [List.getD_eq_getElem?_getD, List.getElem?_append_left (by omega), ← List.getD_eq_getElem?_getD]
            exact HEL.out j hjk
          · obtain rfl : j = k := by omega
            rw [List.getD_eq_getElem?_getD, List.getElem?_append_right (by omega), hxl, Nat.sub_self, pies_get _ _ _ _ hlt, HQ.out]
            exact hBR.out)
        clear hgrow hown' hBR
        go_wp2
        go_roundw
        case rel =>
          have hq := HQ.out
          have hx := HX.out
          have he := HE.out
          refine ⟨k + 1, _, if cap - q = e then o + q else o + q + e, by omega, by rw [Nat.add_mul]; omega, ?_, ?_, HO1.out, HEL1.out, HB1.out⟩
          · rw [Nat.add_mul, Nat.one_mul, hq]
            have e3 : x - e = n - (q + M) := by omega
            have e4 : cap - q - e = cap - min (q + M) n := by omega
            rw [← e3, ← e4]
            split <;> rfl
          · rw [Nat.add_mul, Nat.one_mul, hq]
            intro hlt2
            rw [if_neg (by omega)]
            omega
        case measure => simp; omega
      · obtain rfl : k = N := by omega
        have hkn : n ≤ k * M := by
          have h1 := HK.out
          have h3 : ¬ k * M < n := fun h => hlt (h1.1 h)
          omega
        obtain ⟨q, hq⟩ : ∃ q, k * M = q := ⟨_, rfl⟩
        rw [hq] at hkn ⊢
        rw [show n - q = 0 by omega]
        clear hq hkm HK ho'
        go_wp2
        refine bodyPost_ret (v := .tuple #[_, .int .i64 0]) (by simp [results, Tryd.results14, go_sem]; rfl) rfl ⟨_, rfl, ?_, HB.out⟩
        exact brows_own HO.out (pies_len _ _ _) (fun j hj => (HEL.out j hj).below (by rw [HBW.out]; exact HB.out))
/-! a piece's chunk, and all of them -/
theorem ck_one (x : Value) (l : List UInt8) (w : World) (h : BRow w x l) (hl : l.length ≤ 10000) (ht : Tabs w) :
    Calls Tryd.prog 56 #[x] w fun e w' => ∃ r, e = .returned r ∧ BRow w' r (enc l) ∧ Below w.heap.size w w' := by
  have HT := Lib.hid ht
  have HH := Lib.hid h
  obtain ⟨ao, cap, rfl, _, _⟩ := h
  obtain ⟨n, hn⟩ : ∃ n, l.length = n := ⟨_, rfl⟩
  rw [hn] at HH ⊢
  obtain ⟨W1, hW1⟩ : ∃ W1, w.alloc (.cells #[.slice ao n cap] 22) = W1 := ⟨_, rfl⟩
  have hb1 : Below w.heap.size w W1 := by rw [← hW1]; exact (Below.refl _ w).alloc (Nat.le_refl _) _
  have K := Lib.hid (ck_encode (.slice (some ⟨w.heap.size, 0, none⟩) 1 1) [l] W1 (by rw [← hW1]; exact brows_one HH.out rfl) (by simp [cat]; omega) (by simp) (HT.out.below hb1))
  have HB1 := Lib.hid hb1
  clear hb1 hn ht
  go_enter Tryd.func56, Tryd.ntmps56
  go_wp2_with fail
  clear hW1
  refine K.out.mono ?_
  rintro e w2 ⟨r, rfl, hr, hb2⟩
  have HR := Lib.hid hr
  have HB2 := Lib.hid hb2
  clear hr hb2
  go_wp2_with fail
  go_ret
  refine ⟨_, rfl, ?_, HB1.out.trans (HB2.out.mono HB1.out.size)⟩
  have h := HR.out
  rw [show cat [l] = l by simp [cat]] at h
  exact h
theorem enc_len (l : List UInt8) (h : l.length < 1000000) : (enc l).length ≤ l.length + 20 := by
  unfold enc
  split
  · simp
  · have := Dp.digs_length_le (b := 16) (by omega) 16 l.length (by omega) (by omega)
    simp only [List.length_append, List.length_cons, List.length_nil]
    omega
/-- all chunks -/
def encs (L : List (List UInt8)) : List UInt8 := cat (L.map enc)
theorem encs_take (L : List (List UInt8)) (k : Nat) (h : k < L.length) : encs (L.take (k + 1)) = encs (L.take k) ++ enc (L.getD k []) := by
  unfold encs
  rw [List.map_take, cat_take _ k (by simpa using h), List.map_take]
  congr 1
  rw [List.getD_eq_getElem?_getD, List.getElem?_map, List.getD_eq_getElem?_getD, List.getElem?_eq_getElem h]
  rfl
theorem encs_len : ∀ (L : List (List UInt8)), (∀ l ∈ L, l.length < 1000000) → (encs L).length ≤ (cat L).length + 20 * L.length
  | [], _ => by simp [encs, cat]
  | l :: L, h => by
    have h1 := encs_len L fun x hx => h x (List.mem_cons_of_mem _ hx)
    have h2 := enc_len l (h l List.mem_cons_self)
    simp only [encs, cat, List.map_cons, List.flatten_cons, List.length_append, List.length_cons] at h1 ⊢
    omega
theorem encs_take_len (L : List (List UInt8)) (k : Nat) (h : ∀ l ∈ L, l.length < 1000000) (hk : k ≤ L.length) : (encs (L.take k)).length ≤ (cat L).length + 20 * L.length := by
  have h1 := encs_len (L.take k) fun x hx => h x (List.mem_of_mem_take hx)
  have h2 := cat_len L k
  rw [List.length_take] at h1
  omega
set_option maxRecDepth 100000 in
theorem ck_joined (v : Value) (L : List (List UInt8)) (w : World) (h : BRows w v L) (hl : (cat L).length ≤ 1000) (hL : L.length ≤ 1000) (hne : ∀ l ∈ L, l.length ≤ 1000) (ht : Tabs w) :
    Calls Tryd.prog 55 #[v, .func (.func 56) #[] #[]] w fun e w' => ∃ r, e = .returned r ∧ w'.ownsRow w.heap.size 5 1 r (encs L).length ((encs L).map by8) ∧ Below w.heap.size w w' := by
  obtain ⟨i0, hi, hz0, hz1, hz2⟩ := info_parts info8
  obtain ⟨p, c, rfl, hc, h⟩ := h
  obtain ⟨n, hn⟩ : ∃ n, L.length = n := ⟨_, rfl⟩
  rw [hn] at h hL ⊢
  have H := Lib.hid h
  have HN := Lib.hid hn
  have HT := Lib.hid ht
  have HLEN := Lib.hid (fun k hk => encs_take_len L k (fun l hl => by have := hne l hl; omega) hk)
  have HNE := Lib.hid hne
  have HCL := Lib.hid hl
  clear h hn ht hne hl
  go_enter Tryd.func55, Tryd.ntmps55
  go_wp2_with fail
  go_loopw [4, 9] (fun s i wr => ∃ k : Nat, k ≤ n ∧ i = .int .i64 k ∧ wr.ownsRow w.heap.size 5 1 s (encs (L.take k)).length ((encs (L.take k)).map by8) ∧ Below w.heap.size w wr) (fun _ i _ => n - (intOf i).toNat)
  case atStart => exact ⟨0, Nat.zero_le _, rfl, World.ownsRow_nil _ _ _ _, Below.refl _ _⟩
  case round =>
    obtain ⟨k, hk, rfl, hown, hb⟩ := hrel
    have HO := Lib.hid hown
    have HB := Lib.hid hb
    clear hown hb
    by_cases hlt : k < n
    · obtain ⟨g, o, rfl, hcell⟩ := H.out.resolve_left (by rintro ⟨_, e, _⟩; have := HN.out; rw [e] at this; simp at this; omega)
      obtain ⟨x, hx, hbx⟩ := hcell k hlt
      have hx := cell_below HB.out hx
      have hbx := hbx.below HB.out
      obtain ⟨l, hll⟩ : ∃ l, L.getD k [] = l := ⟨_, rfl⟩
      have HT1 := Lib.hid (encs_take L k (by rw [HN.out]; exact hlt))
      rw [hll] at hbx HT1
      have hmem : l ∈ L := by
        have hkL : k < L.length := by rw [HN.out]; exact hlt
        rw [← hll, List.getD_eq_getElem?_getD, List.getElem?_eq_getElem hkL]
        exact List.getElem_mem hkL
      have hlen := HLEN.out (k + 1) (by rw [HN.out]; omega)
      rw [HT1.out, List.length_append] at hlen
      have HLN := Lib.hid hlen
      have K := Lib.hid (ck_one x l wr hbx (by have := HNE.out l hmem; omega) (HT.out.below HB.out))
      clear hcell hll hlen hmem
      obtain ⟨ao, cp, rfl, _, _⟩ := hbx
      go_wp2_with fail
      refine K.out.mono ?_
      rintro e w1 ⟨r, rfl, hr, hb1⟩
      have HR := Lib.hid hr
      have HB1 := Lib.hid hb1
      clear hr hb1 K hx
      go_wp2_with (at_builtin; refine wpList_append_brow _ rfl _ _ rfl w.heap.size _ _ _ rfl (own_below HO.out HB1.out) _ (enc l) rfl HR.out ?c1 ?c2 ?_)
      case c1 => have := HLN.out; have := HCL.out; have := HN.out; omega
      case c2 => exact Nat.le_trans HB.out.size HB1.out.size
      intro v' w2 hown2 hgr2
      have hB1 : Below w.heap.size w w1 := HB.out.trans (HB1.out.mono HB.out.size)
      have HB2 := Lib.hid (show Below w.heap.size w w2 from hB1.grown hgr2 hB1.size (own8_ge HO.out))
      have HO2 : Hid (w2.ownsRow w.heap.size 5 1 v' (encs (L.take (k + 1))).length ((encs (L.take (k + 1))).map by8)) := Lib.hid (by rw [HT1.out, List.length_append, List.map_append]; exact hown2)
      clear hown2 hgr2 hB1
      go_wp2
      go_roundw
      case rel => exact ⟨k + 1, by omega, by go_num, HO2.out, HB2.out⟩
      case measure => simp [intOf]; omega
    · obtain rfl : k = n := by omega
      have hTL : L.take k = L := List.take_of_length_le (by rw [HN.out]; exact Nat.le_refl _)
      have HOF := HO.out
      rw [hTL] at HOF
      have HF := Lib.hid HOF
      clear HOF hTL
      go_wp2_with fail
      go_ret
      exact ⟨_, rfl, HF.out, HB.out⟩
set_option maxRecDepth 100000 in
theorem ck_all_wrong (v : Value) (most : Int) (w : World) (hm : most < 1) :
    Calls Tryd.prog 15 #[v, .int .i64 most] w fun e w' => e = .returned (.tuple #[.slice none 0 0, .int .i64 2]) ∧ Below w.heap.size w w' := by
  go_enter Tryd.func15, Tryd.ntmps15
  go_wp2_with fail
  refine (ck_cut_wrong v most w hm).mono ?_
  rintro e w1 ⟨rfl, hb1⟩
  go_wp2
  exact bodyPost_ret (v := .tuple #[.slice none 0 0, .int .i64 2]) (by simp [results, Tryd.results15, go_sem]) rfl ⟨rfl, hb1⟩
set_option maxRecDepth 100000 in
theorem ck_all (ao : Option Addr) (n cap M N : Nat) (l : List UInt8) (most : Int) (w : World) (h : BRow w (.slice ao n cap) l) (hl : n ≤ 300) (hm : ¬ most < 1) (hM : min most ((n : Int) + 1) = (M : Int)) (hN : PieN n M N) (hcat : (cat (pies M N l)).length ≤ 300) (hNl : N ≤ 300) (hea : ∀ p ∈ pies M N l, p.length ≤ 300) (ht : Tabs w) :
    Calls Tryd.prog 15 #[.slice ao n cap, .int .i64 most] w fun e w' => ∃ r, e = .returned (.tuple #[r, .int .i64 0]) ∧ BRow w' r (encs (pies M N l) ++ [48, 13, 10, 13, 10]) ∧ Below w.heap.size w w' := by
  have K := Lib.hid (ck_cut ao n cap M N l most w h (by omega) hm hM hN)
  have HT := Lib.hid ht
  have HC := Lib.hid hcat
  have HE := Lib.hid hea
  clear h hm hM hN ht hcat hea
  go_enter Tryd.func15, Tryd.ntmps15
  go_wp2_with fail
  refine K.out.mono ?_
  rintro e w1 ⟨r, rfl, hr, hb1⟩
  have HB1 := Lib.hid hb1
  have J := Lib.hid (ck_joined r (pies M N l) w1 hr (by have := HC.out; omega) (by rw [pies_len]; omega) (fun p hp => by have := HE.out p hp; omega) (HT.out.below hb1))
  obtain ⟨p, c, rfl, _, _⟩ := hr
  clear hb1 K
  go_wp2_with fail
  refine J.out.mono ?_
  rintro e w2 ⟨r2, rfl, hr2, hb2⟩
  have HO2 := Lib.hid hr2
  have HB2 := Lib.hid hb2
  clear hr2 hb2 J
  go_wp2_with fail
  refine (ck_last _).mono ?_
  rintro e w3 ⟨r3, rfl, hr3, hb3⟩
  have HR3 := Lib.hid hr3
  have HB3 := Lib.hid hb3
  clear hr3 hb3
  go_wp2_with (at_builtin; refine wpList_append_brow _ rfl _ _ rfl w1.heap.size _ _ _ rfl (own_below HO2.out HB3.out) _ [48, 13, 10, 13, 10] rfl HR3.out ?c1 ?c2 ?_)
  case c1 =>
    have h1 := encs_len (pies M N l) (fun x hx => by have := HE.out x hx; omega)
    have h2 := HC.out
    rw [pies_len] at h1
    simp only [List.length_cons, List.length_nil]
    omega
  case c2 => exact Nat.le_trans HB2.out.size HB3.out.size
  intro v' w4 hown4 hgr4
  have hB3 : Below w1.heap.size w1 w3 := HB2.out.trans (HB3.out.mono HB2.out.size)
  have HB4 := Lib.hid (show Below w1.heap.size w1 w4 from hB3.grown hgr4 hB3.size (own8_ge HO2.out))
  have HR4 := Lib.hid (BRow.of_own (show w4.ownsRow w1.heap.size 5 1 v' _ ((encs (pies M N l) ++ [48, 13, 10, 13, 10]).map by8) by rw [List.map_append]; exact hown4))
  clear hown4 hgr4 hB3
  go_wp2
  refine bodyPost_ret (v := .tuple #[_, .int .i64 0]) (by simp [results, Tryd.results15, go_sem]) rfl ⟨_, rfl, HR4.out, HB1.out.trans (HB4.out.mono HB1.out.size)⟩
end Go.Proofs.YtoidopdpnnogaaaDoor
