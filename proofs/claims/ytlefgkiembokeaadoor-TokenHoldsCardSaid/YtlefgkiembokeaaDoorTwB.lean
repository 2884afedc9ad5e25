/- A quoted text, the reference's: that of the text Tk. -/
import Derived.Test.YtlefgkiembokeaaDoorTw8
import Derived.Test.YtlefgkiembokeaaDoorTk
namespace Go.Proofs.YtlefgkiembokeaaDoor
set_option linter.unusedVariables false
set_option linter.unusedSimpArgs false
open Go.RowKit Go.Shelf
set_option maxHeartbeats 1000000
namespace Tp
theorem qr_end (acc : List UInt8) : qr acc [34] = some acc := rfl
theorem qr_quote (acc : List UInt8) (d : UInt8) (l : List UInt8) : qr acc (34 :: d :: l) = none := by rw [qr, if_pos rfl]
theorem qr_one (acc : List UInt8) (c : UInt8) (h : c ≠ 34) : qr acc [c] = none := by rw [qr, if_neg h]
theorem qr_back (acc : List UInt8) (d : UInt8) (l : List UInt8) : qr acc (92 :: d :: l) = if valB d.toNat then qr (acc ++ [d]) l else none := by rw [qr, if_neg (by decide), if_pos rfl]
theorem qr_nil (acc : List UInt8) : qr acc [] = none := by unfold qr; rfl
theorem qr_more (acc : List UInt8) (c : UInt8) (l : List UInt8) (h : c ≠ 34) (h2 : c ≠ 92) : qr acc (c :: l) = if valB c.toNat then qr (acc ++ [c]) l else none := by
  cases l with
  | nil => rw [qr_one _ _ h, qr_nil]; split <;> rfl
  | cons d l => rw [qr, if_neg h, if_neg h2]
theorem qs_none {l : List UInt8} (h : quoted l = none) : quotedS l = [] ∧ quotedE l = 110 := by unfold quotedS quotedE; rw [h]; exact ⟨rfl, rfl⟩
theorem qs_some {l a : List UInt8} (h : quoted l = some a) : quotedS l = a ∧ quotedE l = 0 := by unfold quotedS quotedE; rw [h]; exact ⟨rfl, rfl⟩
/-- the reference's place: k bytes read, 'acc' gathered -/
def QAt (l acc : List UInt8) (k : Nat) : Prop := acc.length ≤ k ∧ qr acc (l.drop k) = quoted l
theorem qAt_end {l acc : List UInt8} {k : Nat} (h : QAt l acc k) (hk : l.length ≤ k) : quoted l = none := by
  rw [← h.2, List.drop_eq_nil_of_le hk, qr_nil]
theorem qAt_last {l acc : List UInt8} {k : Nat} (h : QAt l acc k) (hk : k < l.length) (hc : l[k] = 34) (hl : k + 1 = l.length) : quoted l = some acc := by
  rw [← h.2, drop_here l k hk, hc, hl, List.drop_length, qr_end]
theorem qAt_mid {l acc : List UInt8} {k : Nat} (h : QAt l acc k) (hk : k < l.length) (hc : l[k] = 34) (hl : k + 1 < l.length) : quoted l = none := by
  rw [← h.2, drop_here l k hk, hc, drop_here l (k + 1) hl, qr_quote]
theorem qAt_back_end {l acc : List UInt8} {k : Nat} (h : QAt l acc k) (hk : k < l.length) (hc : l[k] = 92) (hl : l.length ≤ k + 1) : quoted l = none := by
  rw [← h.2, drop_here l k hk, List.drop_eq_nil_of_le hl, hc, qr_one _ _ (by decide)]
theorem qAt_back_bad {l acc : List UInt8} {k : Nat} (h : QAt l acc k) (hk : k < l.length) (hc : l[k] = 92) (hl : k + 1 < l.length) (hv : valB (l[k + 1].toNat : Int) = false) : quoted l = none := by
  rw [← h.2, drop_here l k hk, hc, drop_here l (k + 1) hl, qr_back, hv]; rfl
theorem qAt_back {l acc : List UInt8} {k : Nat} (h : QAt l acc k) (hk : k < l.length) (hc : l[k] = 92) (hl : k + 1 < l.length) (hv : valB (l[k + 1].toNat : Int) = true) : QAt l (acc ++ [l[k + 1]]) (k + 2) := by
  refine ⟨by rw [List.length_append]; have := h.1; simp; omega, ?_⟩
  rw [← h.2, drop_here l k hk, hc, drop_here l (k + 1) hl, qr_back, hv]; rfl
theorem qAt_bad {l acc : List UInt8} {k : Nat} (h : QAt l acc k) (hk : k < l.length) (h1 : l[k] ≠ 34) (h2 : l[k] ≠ 92) (hv : valB (l[k].toNat : Int) = false) : quoted l = none := by
  rw [← h.2, drop_here l k hk, qr_more _ _ _ h1 h2, hv]; rfl
theorem qAt_more {l acc : List UInt8} {k : Nat} (h : QAt l acc k) (hk : k < l.length) (h1 : l[k] ≠ 34) (h2 : l[k] ≠ 92) (hv : valB (l[k].toNat : Int) = true) : QAt l (acc ++ [l[k]]) (k + 1) := by
  refine ⟨by rw [List.length_append]; have := h.1; simp; omega, ?_⟩
  rw [← h.2, drop_here l k hk, qr_more _ _ _ h1 h2, hv]; rfl
end Tp
def bv (b : UInt8) : Value := .int .u8 b.toNat
theorem conv_own {w : World} {B : Nat} {v : Value} {l : List UInt8} (h : w.ownsRow B 5 1 v l.length (l.map bv)) : (convert 41 9 v).run Tryd.prog w = .ok (.string ⟨l.toArray⟩) w := by
  rcases h.2 with ⟨rfl, h0⟩ | ⟨g, cap, cur, rfl, _, hg, hc, _, hs, ht⟩
  · have : l = [] := List.length_eq_zero_iff.1 h0
    subst this
    rw [run_convert_bytes_string w 41 9 5 none 0 0 Tryd.underlying41 Tryd.underlying5 Tryd.underlying9]
    rfl
  · refine run_convert_bytes_back w 41 9 5 ⟨g, 0, none⟩ cap l Tryd.underlying41 Tryd.underlying5 Tryd.underlying9 (fun j hj => ?_)
    rw [Lib.add_plain, Nat.zero_add]
    unfold World.cell?
    rw [show (⟨g, j, none⟩ : Addr).block = g from rfl, hg]
    show (if (none : Option _).isSome then none else cur[j]?) = _
    have h1 : (cur.toList.take (l.length * 1))[j]? = (l.map bv)[j]? := by rw [ht]
    rw [List.getElem?_take_of_lt (by omega)] at h1
    rw [if_neg (by simp), ← Array.getElem?_toList, h1, List.getElem?_map, List.getElem?_eq_getElem hj]
    rfl
theorem app_own {w1 : World} {B : Nat} {v' : Value} {acc : List UInt8} {d : UInt8} {y : Int} (hy : (d.toNat : Int) = y) (h : w1.ownsRow B 5 1 v' (acc.length + 1) (acc.map bv ++ [.int .u8 y])) : w1.ownsRow B 5 1 v' (acc ++ [d]).length ((acc ++ [d]).map bv) := by
  subst hy
  rw [List.length_append, List.map_append]
  exact h
set_option maxRecDepth 100000 in
theorem rtk_quoted (s : ByteArray) (w : World) (hs : s.size ≤ 1000000) :
    Calls Tryd.prog 50 #[.string s] w fun e w' => e = .returned (.tuple #[.string ⟨(Tp.quotedS s.data.toList).toArray⟩, .int .i64 (Tp.quotedE s.data.toList)]) ∧ Below w.heap.size w w' := by
  obtain ⟨i0, hi, hz0, hz1, hz2⟩ := info_parts (show (Tryd.prog.info? 5).map (fun i => (i.zero, i.size, i.bytes)) = some (some (.int .u8 0), 1, 1) by kernel_rfl)
  have HIX := Lib.hid (fun k h W => index_at s W k h)
  have hbad : ∀ w', Below w.heap.size w w' → Tp.quoted s.data.toList = none → (Ending.returned (.tuple #[.string ⟨#[]⟩, .int .i64 110]) = .returned (.tuple #[.string ⟨(Tp.quotedS s.data.toList).toArray⟩, .int .i64 (Tp.quotedE s.data.toList)]) ∧ Below w.heap.size w w') := by
    intro w' hb hq
    obtain ⟨h1, h2⟩ := Tp.qs_none hq
    rw [h1, h2]
    exact ⟨rfl, hb⟩
  have HBAD := Lib.hid hbad
  clear hbad
  by_cases h2 : s.size < 2
  · have hq : Tp.quoted s.data.toList = none := by
      have hl : s.data.toList.length < 2 := by simpa using h2
      match hd : s.data.toList, hl with
      | [], _ => rfl
      | [c], _ => rw [Tp.quoted_cons, Tp.qr_nil]; split <;> rfl
      | c :: d :: l, hl => simp at hl; omega
    have HQ := Lib.hid hq
    clear hq
    go_enter Tryd.func50, Tryd.ntmps50
    go_wp2_with fail
    exact bodyPost_ret (v := .tuple #[.string ⟨#[]⟩, .int .i64 110]) (by simp [results, Tryd.results50, go_sem]) rfl (HBAD.out _ (Below.refl _ _) HQ.out)
  · have hix0 := HIX.out 0 (by omega)
    have hl0 : 0 < s.data.toList.length := by simp; omega
    obtain ⟨x, hx⟩ : ∃ x : Int, ((s[0]).toNat : Int) = x := ⟨_, rfl⟩
    rw [hx] at hix0
    have HX := Lib.hid hx
    clear hx
    simp only [Int.natCast_zero] at hix0
    have hdd : decide ((s.size : Int) < 2) = false := decide_eq_false (by omega)
    have hd0 : s.data.toList = s.data.toList[0] :: s.data.toList.drop 1 := (List.drop_zero (l := s.data.toList)).symm.trans (drop_here _ 0 hl0)
    have HD0 := Lib.hid hd0
    clear hd0
    by_cases hc : x = 34
    · have hc1 : (x == 34) = true := beq_iff_eq.2 hc
      have h34 : s.data.toList[0] = 34 := UInt8.toNat_inj.1 (by have := HX.out; show (s[0]).toNat = 34; omega)
      have HQ0 := Lib.hid (show Tp.QAt s.data.toList [] 1 from ⟨Nat.zero_le _, by conv => rhs; rw [HD0.out, Tp.quoted_cons, if_pos h34]⟩)
      clear h34
      go_enter Tryd.func50, Tryd.ntmps50
      go_wp2_with (simp only [hix0])
      clear hc
      go_loopw [4, 5, 6] (fun v i _ wr => ∃ (k : Nat) (acc : List UInt8), 1 ≤ k ∧ k ≤ s.size ∧ i = .int .i64 k ∧ Tp.QAt s.data.toList acc k ∧ wr.ownsRow w.heap.size 5 1 v acc.length (acc.map bv) ∧ Below w.heap.size w wr) (fun _ i _ _ => s.size - (intOf i).toNat)
      case atStart => exact ⟨1, [], Nat.le_refl _, by omega, rfl, HQ0.out, World.ownsRow_nil _ _ _ _, Below.refl _ _⟩
      case round =>
        clear HQ0 hix0 hdd HD0 HX hc1
        clear hl0
        clear x
        obtain ⟨k, acc, hk1, hk, rfl, hq, hown, hb⟩ := hrel
        have HQ := Lib.hid hq
        have HO := Lib.hid hown
        have HB := Lib.hid hb
        clear hq hown hb
        by_cases hlt : k < s.size
        · have HKL := Lib.hid (show k < s.data.toList.length by simpa using hlt)
          have hix := HIX.out k hlt
          obtain ⟨c, hcc⟩ : ∃ c, s[k]'hlt = c := ⟨_, rfl⟩
          rw [hcc] at hix
          have HCL := Lib.hid (show s.data.toList[k]'HKL.out = c from hcc)
          obtain ⟨x, hx⟩ : ∃ x : Int, (c.toNat : Int) = x := ⟨_, rfl⟩
          rw [hx] at hix
          have HX := Lib.hid hx
          have hr1 : (0 : Int) ≤ x := by omega
          have hr2 : x < 256 := by have := c.toNat_lt; omega
          clear hx hcc
          by_cases h34 : x = 34
          · have e1 : (x == 34) = true := beq_iff_eq.2 h34
            have HC34 := Lib.hid (show c = 34 from UInt8.toNat_inj.1 (by have := HX.out; show c.toNat = 34; omega))
            clear h34
            by_cases hlast : (k : Int) < (s.size : Int) - 1
            · have HN := Lib.hid (Tp.qAt_mid HQ.out HKL.out (HCL.out.trans HC34.out) (by have : s.data.toList.length = s.size := rfl; omega))
              go_wp2_with (simp only [hix])
              exact bodyPost_ret (v := .tuple #[.string ⟨#[]⟩, .int .i64 110]) (by simp [results, Tryd.results50, go_sem]) rfl (HBAD.out _ HB.out HN.out)
            · have HS := Lib.hid (Tp.qs_some (Tp.qAt_last HQ.out HKL.out (HCL.out.trans HC34.out) (by have : s.data.toList.length = s.size := rfl; omega)))
              have hcv := conv_own (l := acc) HO.out
              go_wp2_with (first | simp only [hix] | simp only [hcv])
              refine bodyPost_ret (v := .tuple #[.string ⟨acc.toArray⟩, .int .i64 0]) (by simp [results, Tryd.results50, go_sem]) rfl ⟨?_, HB.out⟩
              rw [HS.out.1, HS.out.2]
          · have e1 : (x == 34) = false := beq_eq_false_iff_ne.2 h34
            have HC34 := Lib.hid (show c ≠ 34 from fun e => h34 (by rw [← HX.out, e]; rfl))
            clear h34
            by_cases h92 : x = 92
            · have e2 : (x == 92) = true := beq_iff_eq.2 h92
              have HC92 := Lib.hid (show c = 92 from UInt8.toNat_inj.1 (by have := HX.out; show c.toNat = 92; omega))
              clear h92
              by_cases hlt2 : k + 1 < s.size
              · have HKL2 := Lib.hid (show k + 1 < s.data.toList.length by simpa using hlt2)
                have hix2 := HIX.out (k + 1) hlt2
                obtain ⟨d, hdd⟩ : ∃ c, s[k + 1]'hlt2 = c := ⟨_, rfl⟩
                rw [hdd] at hix2
                have hdl : s.data.toList[k + 1]'HKL2.out = d := hdd
                have HM0 := Lib.hid (fun h => Tp.qAt_back HQ.out HKL.out (HCL.out.trans HC92.out) HKL2.out h)
                have HN0 := Lib.hid (fun h => Tp.qAt_back_bad HQ.out HKL.out (HCL.out.trans HC92.out) HKL2.out h)
                rw [hdl] at HM0 HN0
                obtain ⟨y, hy⟩ : ∃ x : Int, (d.toNat : Int) = x := ⟨_, rfl⟩
                rw [hy] at hix2 HM0 HN0
                have HY := Lib.hid hy
                have hr3 : (0 : Int) ≤ y := by omega
                have hr4 : y < 256 := by have := d.toNat_lt; omega
                have K := Lib.hid (rtk_byteOf y wr hr3 hr4)
                clear hy hdl hdd
                obtain ⟨r, hr⟩ : ∃ r, Tp.valB y = r := ⟨_, rfl⟩
                rw [hr] at K HM0 HN0
                clear hr
                simp only [Int.natCast_add, Int.natCast_one] at hix2
                have hn2 : ¬ ((s.size : Int) ≤ (k : Int) + 1) := by omega
                cases r
                · have HN := Lib.hid (HN0.out rfl)
                  clear HM0 HN0
                  go_wp2_with (first | simp only [hix] | simp only [hix2])
                  refine K.out.mono ?_
                  rintro e w' ⟨rfl, rfl⟩
                  go_wp2
                  exact bodyPost_ret (v := .tuple #[.string ⟨#[]⟩, .int .i64 110]) (by simp [results, Tryd.results50, go_sem]) rfl (HBAD.out _ HB.out HN.out)
                · have HM := Lib.hid (HM0.out rfl)
                  clear HM0 HN0
                  go_wp2_with (first | simp only [hix] | simp only [hix2])
                  refine K.out.mono ?_
                  rintro e w' ⟨rfl, rfl⟩
                  go_wp2_with (first
                    | (at_builtin; refine wpList_append_own _ rfl _ _ 41 rfl w.heap.size 5 i0 (.int .u8 0) 1 1 Tryd.underlying41 hi hz0 hz1 hz2 rfl (by decide) _ _ _ rfl (HO.out.alloc _) ⟨wr.heap.size, 0, none⟩ 1 1 [.int .u8 y] rfl rfl ?c1 ?c2 ?c3 ?c4 ?c5 ?_)
                    | simp only [hix2])
                  case c1 =>
                    intro j u hj
                    match j, hj with
                    | 0, hj => simp at hj; subst hj; simp [Addr.add]
                  case c2 => intro u hu; simp at hu; subst hu; rfl
                  case c3 => have := HQ.out.1; unfold maxLen; omega
                  case c4 => have := HQ.out.1; omega
                  case c5 => have := HB.out.size; simp; omega
                  intro v' w1 hown' hgrow _
                  have HB1 := Lib.hid (show Below w.heap.size w w1 from Below.grown (HB.out.alloc (by have := HB.out.size; omega) _) hgrow (by have := HB.out.size; simp; omega) (own_ge HO.out))
                  have HO1 := Lib.hid (app_own HY.out hown')
                  clear hgrow hown'
                  go_wp2
                  go_roundw
                  case rel => exact ⟨k + 2, _, by omega, by omega, by go_num, HM.out, HO1.out, HB1.out⟩
                  case measure => simp [intOf]; omega
              · have HN := Lib.hid (Tp.qAt_back_end HQ.out HKL.out (HCL.out.trans HC92.out) (by have : s.data.toList.length = s.size := rfl; omega))
                have hn2 : (s.size : Int) ≤ (k : Int) + 1 := by omega
                go_wp2_with (simp only [hix])
                exact bodyPost_ret (v := .tuple #[.string ⟨#[]⟩, .int .i64 110]) (by simp [results, Tryd.results50, go_sem]) rfl (HBAD.out _ HB.out HN.out)
            · have e2 : (x == 92) = false := beq_eq_false_iff_ne.2 h92
              have HC92 := Lib.hid (show c ≠ 92 from fun e => h92 (by rw [← HX.out, e]; rfl))
              clear h92
              have HM0 := Lib.hid (fun h => Tp.qAt_more HQ.out HKL.out (by rw [HCL.out]; exact HC34.out) (by rw [HCL.out]; exact HC92.out) h)
              have HN0 := Lib.hid (fun h => Tp.qAt_bad HQ.out HKL.out (by rw [HCL.out]; exact HC34.out) (by rw [HCL.out]; exact HC92.out) h)
              rw [HCL.out, HX.out] at HM0 HN0
              have K := Lib.hid (rtk_byteOf x wr hr1 hr2)
              obtain ⟨r, hr⟩ : ∃ r, Tp.valB x = r := ⟨_, rfl⟩
              rw [hr] at K HM0 HN0
              clear hr
              cases r
              · have HN := Lib.hid (HN0.out rfl)
                clear HM0 HN0
                go_wp2_with (simp only [hix])
                refine K.out.mono ?_
                rintro e w' ⟨rfl, rfl⟩
                go_wp2
                exact bodyPost_ret (v := .tuple #[.string ⟨#[]⟩, .int .i64 110]) (by simp [results, Tryd.results50, go_sem]) rfl (HBAD.out _ HB.out HN.out)
              · have HM := Lib.hid (HM0.out rfl)
                clear HM0 HN0
                go_wp2_with (simp only [hix])
                refine K.out.mono ?_
                rintro e w' ⟨rfl, rfl⟩
                go_wp2_with (first
                  | (at_builtin; refine wpList_append_own _ rfl _ _ 41 rfl w.heap.size 5 i0 (.int .u8 0) 1 1 Tryd.underlying41 hi hz0 hz1 hz2 rfl (by decide) _ _ _ rfl (HO.out.alloc _) ⟨wr.heap.size, 0, none⟩ 1 1 [.int .u8 x] rfl rfl ?c1 ?c2 ?c3 ?c4 ?c5 ?_)
                  | simp only [hix])
                case c1 =>
                  intro j u hj
                  match j, hj with
                  | 0, hj => simp at hj; subst hj; simp [Addr.add]
                case c2 => intro u hu; simp at hu; subst hu; rfl
                case c3 => have := HQ.out.1; unfold maxLen; omega
                case c4 => have := HQ.out.1; omega
                case c5 => have := HB.out.size; simp; omega
                intro v' w1 hown' hgrow _
                have HB1 := Lib.hid (show Below w.heap.size w w1 from Below.grown (HB.out.alloc (by have := HB.out.size; omega) _) hgrow (by have := HB.out.size; simp; omega) (own_ge HO.out))
                have HO1 := Lib.hid (app_own HX.out hown')
                clear hgrow hown'
                go_wp2
                go_roundw
                case rel => exact ⟨k + 1, _, by omega, by omega, by go_num, HM.out, HO1.out, HB1.out⟩
                case measure => simp [intOf]; omega
        · have HN := Lib.hid (Tp.qAt_end HQ.out (by have : s.data.toList.length = s.size := rfl; omega))
          go_wp2
          exact bodyPost_ret (v := .tuple #[.string ⟨#[]⟩, .int .i64 110]) (by simp [results, Tryd.results50, go_sem]) rfl (HBAD.out _ HB.out HN.out)
    · have hc1 : (x == 34) = false := beq_eq_false_iff_ne.2 hc
      have HQ := Lib.hid (show Tp.quoted s.data.toList = none by rw [HD0.out, Tp.quoted_cons, if_neg (fun e => hc (by rw [← HX.out]; show ((s.data.toList[0]).toNat : Int) = 34; rw [e]; rfl))])
      clear hc
      go_enter Tryd.func50, Tryd.ntmps50
      go_wp2_with (simp only [hix0])
      exact bodyPost_ret (v := .tuple #[.string ⟨#[]⟩, .int .i64 110]) (by simp [results, Tryd.results50, go_sem]) rfl (HBAD.out _ (Below.refl _ _) HQ.out)
end Go.Proofs.YtlefgkiembokeaaDoor
