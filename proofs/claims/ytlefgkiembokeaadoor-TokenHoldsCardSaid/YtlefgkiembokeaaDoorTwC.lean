/- A quoted text, the program's: that of the text Tk. -/
import Derived.Test.YtlefgkiembokeaaDoorTwB
import Derived.Test.YtlefgkiembokeaaDoorTwA
import Derived.Test.YtlefgkiembokeaaDoorTb
import Derived.Lib.QuietBelow
import Derived.BigQuiet
namespace Go.Proofs.YtlefgkiembokeaaDoor
set_option linter.unusedVariables false
set_option linter.unusedSimpArgs false
open Go.RowKit Go.Shelf Go.Sort
set_option maxHeartbeats 1000000
theorem BD.alloc {w : World} {b base : Nat} {p : Value} {bs : List Value} (h : BD w b base p bs) (hb : b < w.heap.size) (o : Obj) : BD (w.alloc o) b base p bs := by
  obtain ⟨v, hv, hown⟩ := h
  exact ⟨v, (Below.heap_alloc w o b hb).trans hv, hown.alloc o⟩
theorem BD.touch {w w' : World} {b base g : Nat} {p : Value} {bs : List Value} (h : BD w b base p bs) (ht : Touch g w w') (hne : b ≠ g) (hg : g < base) : BD w' b base p bs := by
  obtain ⟨v, hv, hown⟩ := h
  rcases ht with rfl | ⟨i, x, rfl⟩
  · exact ⟨v, hv, hown⟩
  · exact ⟨v, (heap_setCell_other _ _ _ _ hne).trans hv, ownsRow_setCell_below hown hg _⟩
namespace Tp
/-- the program's place: k bytes taken -/
def PAt (l : List UInt8) (k : Nat) (q b : Bool) (acc : List UInt8) : Prop :=
  acc.length ≤ k ∧ ((k = 0 ∧ q = false ∧ b = false ∧ acc = []) ∨ (1 ≤ k ∧ q = true ∧ pq b acc (l.drop k) = quoted l))
theorem pAt_first {l : List UInt8} (h0 : 0 < l.length) (h : l[0] = 34) (ha : allT valB l = true) : PAt l 1 true false [] := by
  refine ⟨Nat.zero_le _, .inr ⟨Nat.le_refl _, rfl, ?_⟩⟩
  have hd : l = 34 :: l.drop 1 := by
    have := (List.drop_zero (l := l)).symm.trans (drop_here l 0 h0)
    rwa [h] at this
  rw [hd] at ha
  conv => rhs; rw [hd]
  rw [quoted_some ha]
theorem pAt_end {l acc : List UInt8} {k : Nat} {q b : Bool} (h : PAt l k q b acc) (h0 : 0 < k) (hk : l.length ≤ k) : quoted l = none := by
  rcases h.2 with ⟨h, _⟩ | ⟨_, _, h⟩
  · omega
  · rw [← h, List.drop_eq_nil_of_le hk, pq_nil]
theorem pAt_eq {l acc : List UInt8} {k : Nat} {q b : Bool} (h : PAt l k q b acc) (h0 : 0 < k) : q = true ∧ pq b acc (l.drop k) = quoted l := by
  rcases h.2 with ⟨h, _⟩ | ⟨_, h1, h2⟩
  · omega
  · exact ⟨h1, h2⟩
theorem pAt_b {l acc : List UInt8} {k : Nat} {q : Bool} (h : PAt l k q true acc) (h0 : 0 < k) (hk : k < l.length) : PAt l (k + 1) true false (acc ++ [l[k]]) := by
  refine ⟨by rw [List.length_append]; have := h.1; simp; omega, .inr ⟨by omega, rfl, ?_⟩⟩
  rw [← (pAt_eq h h0).2, drop_here l k hk, pq_b]
theorem pAt_last {l acc : List UInt8} {k : Nat} {q : Bool} (h : PAt l k q false acc) (h0 : 0 < k) (hk : k < l.length) (hc : l[k] = 34) (hl : k + 1 = l.length) : quoted l = some acc := by
  rw [← (pAt_eq h h0).2, drop_here l k hk, hc, hl, List.drop_length, pq_quote]; rfl
theorem pAt_mid {l acc : List UInt8} {k : Nat} {q : Bool} (h : PAt l k q false acc) (h0 : 0 < k) (hk : k < l.length) (hc : l[k] = 34) (hl : k + 1 < l.length) : quoted l = none := by
  rw [← (pAt_eq h h0).2, drop_here l k hk, hc, drop_here l (k + 1) hl, pq_quote]; rfl
theorem pAt_back {l acc : List UInt8} {k : Nat} {q : Bool} (h : PAt l k q false acc) (h0 : 0 < k) (hk : k < l.length) (hc : l[k] = 92) : PAt l (k + 1) true true acc := by
  refine ⟨by have := h.1; omega, .inr ⟨by omega, rfl, ?_⟩⟩
  rw [← (pAt_eq h h0).2, drop_here l k hk, hc, pq_back]
theorem pAt_more {l acc : List UInt8} {k : Nat} {q : Bool} (h : PAt l k q false acc) (h0 : 0 < k) (hk : k < l.length) (h1 : l[k] ≠ 34) (h2 : l[k] ≠ 92) : PAt l (k + 1) true false (acc ++ [l[k]]) := by
  refine ⟨by rw [List.length_append]; have := h.1; simp; omega, .inr ⟨by omega, rfl, ?_⟩⟩
  rw [← (pAt_eq h h0).2, drop_here l k hk, pq_more _ _ _ h1 h2]
end Tp
theorem bytes_snoc (acc : List UInt8) (c : UInt8) : Lib.byteCells (acc ++ [c]) = Lib.byteCells acc ++ [.int .u8 (c.toNat : Int)] := by unfold Lib.byteCells; rw [List.map_append]; rfl
set_option maxRecDepth 100000 in
set_option maxHeartbeats 4000000 in
theorem tok_quoted (s : ByteArray) (w : World) (hs : s.size ≤ 1000000) :
    Calls Tryd.prog 49 #[.string s] w fun e w' => e = .returned (.tuple #[.string ⟨(Tp.quotedS s.data.toList).toArray⟩, .int .i64 (Tp.quotedE s.data.toList)]) ∧ Below w.heap.size w w' := by
  have hbad : ∀ w', Below w.heap.size w w' → Tp.quoted s.data.toList = none → (Ending.returned (.tuple #[.string ⟨#[]⟩, .int .i64 110]) = .returned (.tuple #[.string ⟨(Tp.quotedS s.data.toList).toArray⟩, .int .i64 (Tp.quotedE s.data.toList)]) ∧ Below w.heap.size w w') := by
    intro w' hb hq
    obtain ⟨h1, h2⟩ := Tp.qs_none hq
    rw [h1, h2]
    exact ⟨rfl, hb⟩
  have HBAD := Lib.hid hbad
  clear hbad
  obtain ⟨W2, hW2⟩ : ∃ W, (w.alloc (.cells #[.pointer none, .slice none 0 0] 112)).alloc (.cells #[.string s, .bool false, .bool false] 117) = W := ⟨_, rfl⟩
  have HB2 := Lib.hid (show Below w.heap.size w W2 by rw [← hW2]; exact ((Below.refl _ _).alloc (Nat.le_refl _) _).alloc (by simp) _)
  have HR2 := Lib.hid (show RS W2 (w.heap.size + 1) s false false by rw [← hW2]; simp only [RS, World.alloc]; rw [show w.heap.size + 1 = (w.heap.push (.cells #[.pointer none, .slice none 0 0] 112 (0, 0))).size by simp]; exact Array.getElem?_push_size)
  have HD2 := Lib.hid (show W2.heap[w.heap.size]? = some (.cells #[.pointer none, .slice none 0 0] 112 (0, 0)) by rw [← hW2]; simp [World.alloc, -World.alloc_eq, Array.getElem?_push])
  have HS2 := Lib.hid (show W2.heap.size = w.heap.size + 2 by rw [← hW2]; simp)
  have HW2 := Lib.hid hW2
  clear hW2
  have HBG := Lib.hid (fun d os => HB2.out.trans ((below_regrown W2 d os).mono HB2.out.size))
  by_cases h0 : s.size = 0
  · have he : s.toList.isEmpty = true := by rw [ByteArray.toList_eq, isEmpty_size, decide_eq_true h0]
    have HQ := Lib.hid (show Tp.quoted s.data.toList = none by rw [List.length_eq_zero_iff.1 (show s.data.toList.length = 0 from h0)]; rfl)
    go_enter Tryd.func49, Tryd.ntmps49
    go_wp2_with fail
    refine wp_scope_fwd 0 rfl ?_
    go_wp2_with fail
    rw [HW2.out]
    refine wp_region_quiet_below (by kernel_rfl) (by kernel_rfl) ?_
    repeat (go_big_quiet_step (fail))
    refine wpQuiet_nil ?_
    intro _ hw'
    obtain ⟨⟨dq, osq⟩, hw''⟩ := hw'
    subst hw''
    go_wp2_with fail
    go_step3
    simp only [Exit.then]
    refine onGoto_goto ?_
    go_wp2
    rw [Exit.noGoto_ret]
    exact bodyPost_ret (v := .tuple #[.string ⟨#[]⟩, .int .i64 110]) (by simp [results, Tryd.results49, go_sem]) rfl (HBAD.out _ (HBG.out _ _) HQ.out)
  · have he : s.toList.isEmpty = false := by rw [ByteArray.toList_eq, isEmpty_size, decide_eq_false h0]
    have HL0 := Lib.hid (show 0 < s.data.toList.length from (by have : s.data.toList.length = s.size := rfl; omega))
    have hp : 0 < s.size := by omega
    obtain ⟨x, hx⟩ : ∃ x : Int, ((s[0]'hp).toNat : Int) = x := ⟨_, rfl⟩
    have HX := Lib.hid (show ((s.data.toList[0]'HL0.out).toNat : Int) = x from hx)
    by_cases hc : x = 34
    · have hc1 : (x == 34) = true := beq_iff_eq.2 hc
      have hc2 : (x != 34) = false := by unfold bne; rw [hc1]; rfl
      have H34 := Lib.hid (show s.data.toList[0]'HL0.out = 34 from UInt8.toNat_inj.1 (by have := HX.out; show (s.data.toList[0]'HL0.out).toNat = 34; omega))
      clear hc
      have c0 : ∀ d os, (grow (redrawn W2 d) os).cell? ⟨w.heap.size + 1, 0, none⟩ = some (.string s) := fun d os => cell_regrown HR2.out.c0 d os
      have C1 := Lib.hid (fun d os => Calls.regrown_of (tok_classes (grow (redrawn W2 d) os)))
      have C2 := Lib.hid (fun d os => Calls.regrown_of (tok_all 123 Tp.valB (.inr rfl) cls1 s (grow (redrawn W2 d) os) (by omega)))
      have i1 := classes_1
      obtain ⟨al, hal⟩ : ∃ a, Tp.allT Tp.valB s.data.toList = a := ⟨_, rfl⟩
      rw [hal] at C2
      have HAL := Lib.hid hal
      clear hal
      cases al
      · have HQ := Lib.hid (Tp.quoted_bad HAL.out)
        go_enter Tryd.func49, Tryd.ntmps49
        go_wp2_with fail
        refine wp_scope_fwd 0 rfl ?_
        go_wp2_with fail
        rw [HW2.out]
        refine wp_region_quiet_below (by kernel_rfl) (by kernel_rfl) ?_
        repeat (go_big_quiet_step (first | exact C1.out _ _ | exact C2.out _ _))
        refine wpQuiet_nil ?_
        intro _ hw'
        obtain ⟨⟨dq, osq⟩, hw''⟩ := hw'
        subst hw''
        go_wp2_with fail
        go_step3
        simp only [Exit.then]
        refine onGoto_goto ?_
        go_wp2
        rw [Exit.noGoto_ret]
        exact bodyPost_ret (v := .tuple #[.string ⟨#[]⟩, .int .i64 110]) (by simp [results, Tryd.results49, go_sem]) rfl (HBAD.out _ (HBG.out _ _) HQ.out)
      · go_enter Tryd.func49, Tryd.ntmps49
        have hcv := fun (W : World) (s : ByteArray) => Lib.run_convert_string_bytes (P := Tryd.prog) W 9 41 5 s Tryd.underlying9 Tryd.underlying41 Tryd.underlying5
        go_wp2_with fail
        refine wp_scope_fwd 0 rfl ?_
        go_wp2_with fail
        rw [HW2.out]
        refine wp_region_quiet_below (by kernel_rfl) (by kernel_rfl) ?_
        repeat (go_big_quiet_step (first | exact C1.out _ _ | exact C2.out _ _))
        refine wpQuiet_nil ?_
        intro _ hw'
        obtain ⟨⟨dq, osq⟩, hw''⟩ := hw'
        subst hw''
        have HB3 := Lib.hid (HBG.out dq osq)
        have HR3 := Lib.hid (HR2.out.below (below_regrown W2 dq osq) (by rw [HS2.out]; omega))
        have HD3 := Lib.hid (((below_regrown W2 dq osq).block w.heap.size (by rw [HS2.out]; omega)).trans HD2.out)
        have HS3 := Lib.hid (show w.heap.size + 2 ≤ (grow (redrawn W2 dq) osq).heap.size by rw [← HS2.out]; exact (below_regrown W2 dq osq).size)
        obtain ⟨W3, hW3⟩ : ∃ W, grow (redrawn W2 dq) osq = W := ⟨_, rfl⟩
        rw [hW3] at HB3 HR3 HD3 HS3 ⊢
        clear hW3 HBG C1 C2 c0 i1 hc1 hc2 hx HX hp he h0
        go_wp2_with fail
        clear hcv
        have HB4 := Lib.hid (HB3.out.trans (below_bytesWorld w.heap.size W3 5 s (by have := HS3.out; omega)))
        have HY4 := Lib.hid (fun (k : Nat) (h : k < s.size) => Lib.bytesWorld_cell W3 5 s k h)
        have HS4 := Lib.hid (Lib.bytesWorld_size W3 5 s)
        have HR4 := Lib.hid (show RS (Lib.bytesWorld W3 5 s) (w.heap.size + 1) s false false from (Lib.bytesWorld_at_old W3 5 s (w.heap.size + 1) (by have := HS3.out; omega)).trans HR3.out)
        have HD4 := Lib.hid (show (Lib.bytesWorld W3 5 s).heap[w.heap.size]? = _ from (Lib.bytesWorld_at_old W3 5 s w.heap.size (by have := HS3.out; omega)).trans HD3.out)
        obtain ⟨G, hG⟩ : ∃ G, W3.heap.size = G := ⟨_, rfl⟩
        obtain ⟨W4, hW4⟩ : ∃ W, Lib.bytesWorld W3 5 s = W := ⟨_, rfl⟩
        obtain ⟨cap, hcap⟩ : ∃ c, grownCap W3 s.size 0 5 = c := ⟨_, rfl⟩
        rw [hG] at HS3 HY4 HS4
        rw [hW4] at HB4 HY4 HS4 HR4 HD4
        simp only [hG, hW4, hcap]
        clear hcap hW4 hG HB3 HR3 HD3
        go_loopw [33] (fun i wr => ∃ (k : Nat) (q b : Bool) (acc : List UInt8) (p : Value), k ≤ s.size ∧ i = .int .i64 k ∧ Tp.PAt s.data.toList k q b acc ∧ RS wr (w.heap.size + 1) s q b ∧ BD wr w.heap.size (G + 1) p (Lib.byteCells acc) ∧ (p = .pointer none ∨ p = .pointer (some ⟨w.heap.size, 0, none⟩)) ∧ wr.heap[G]? = W4.heap[G]? ∧ Below w.heap.size w wr ∧ G + 1 ≤ wr.heap.size) (fun i _ => s.size - (intOf i).toNat)
        case atStart => exact ⟨0, false, false, [], .pointer none, Nat.zero_le _, rfl, ⟨Nat.le_refl _, .inl ⟨rfl, rfl, rfl, rfl⟩⟩, HR4.out, ⟨_, HD4.out, World.ownsRow_nil _ _ _ _⟩, .inl rfl, rfl, HB4.out, by rw [HS4.out]; exact Nat.le_refl _⟩
        case round =>
          obtain ⟨k, q, b, acc, p, hk, rfl, hpat, hrs, hbd, hpp, hgb, hbl, hsz⟩ := hrel
          have HP := Lib.hid hpat
          have HRS := Lib.hid hrs
          have HBD := Lib.hid hbd
          have HPP := Lib.hid hpp
          have HGB := Lib.hid hgb
          have HBL := Lib.hid hbl
          have HSZ := Lib.hid hsz
          clear hpat hrs hbd hpp hgb hbl hsz HB4 HR4 HD4 HS4
          by_cases hlt : k < s.size
          · have HKL := Lib.hid (show k < s.data.toList.length from hlt)
            have hcG : wr.cell? ⟨G, k, none⟩ = some (.int .u8 ((s.data.toList.getD k 0).toNat : Int)) := (World.cell?_of_block (w := W4) HGB.out).trans (HY4.out k hlt)
            rw [show s.data.toList.getD k 0 = s.data.toList[k]'HKL.out by simp [List.getD_eq_getElem?_getD, List.getElem?_eq_getElem HKL.out]] at hcG
            obtain ⟨c, hcc⟩ : ∃ c, s.data.toList[k]'HKL.out = c := ⟨_, rfl⟩
            rw [hcc] at hcG
            have HC := Lib.hid hcc
            clear hcc
            obtain ⟨x, hx⟩ : ∃ x : Int, (c.toNat : Int) = x := ⟨_, rfl⟩
            rw [hx] at hcG
            have HX := Lib.hid hx
            have hr1 : (0 : Int) ≤ x := by omega
            have hr2 : x < 256 := by have := c.toNat_lt; omega
            clear hx
            have K := Lib.hid (tok_open (w.heap.size + 1) s q b x (wr.alloc (.cells #[.string s, .bool q, .bool b] 117)) hr1 hr2 (HRS.out.below ((Below.refl _ _).alloc (Nat.le_refl _) _) (by have := HS3.out; have := HSZ.out; omega)))
            have h0 := HRS.out.c0
            have h1 := HRS.out.c1
            have h2 := HRS.out.c2
            go_wp2_with fail
            refine K.out.mono ?_
            rintro e w2 ⟨rfl, hrs2, htc⟩
            obtain ⟨r, hr⟩ : ∃ r, Tp.stR q b x = r := ⟨_, rfl⟩
            rw [hr]
            clear hr hcG h0 h1 h2 K
            have hwas : w2.cell? ⟨wr.heap.size, 2, none⟩ = some (.bool b) := by
              have e1 : (wr.alloc (.cells #[.string s, .bool q, .bool b] 117)).cell? ⟨wr.heap.size, 2, none⟩ = some (.bool b) := by simp
              rw [← e1]
              exact World.cell?_of_block (htc.heap wr.heap.size (by have := HS3.out; have := HSZ.out; omega))
            have HBD2 := Lib.hid ((HBD.out.alloc (by have := HS3.out; have := HSZ.out; omega) (.cells #[.string s, .bool q, .bool b] 117)).touch htc (by omega) (by have := HS3.out; omega))
            have HGB2 := Lib.hid ((htc.heap G (by have := HS3.out; omega)).trans ((Below.heap_alloc wr _ G (by have := HSZ.out; omega)).trans HGB.out))
            have HBL2 := Lib.hid ((HBL.out.alloc (by have := HS3.out; have := HSZ.out; omega) (.cells #[.string s, .bool q, .bool b] 117)).trans (htc.below (Nat.le_succ _)))
            have HSZ2 := Lib.hid (show G + 1 ≤ w2.heap.size by rw [htc.size]; simp; have := HSZ.out; omega)
            clear htc HBD HGB HBL HSZ HRS
            by_cases hk0 : k = 0
            · subst hk0
              obtain ⟨rfl, rfl, rfl⟩ : q = false ∧ b = false ∧ acc = [] := by
                rcases HP.out.2 with ⟨_, h⟩ | ⟨h, _⟩
                · exact h
                · omega
              have e1 : (x == 34) = true := beq_iff_eq.2 (by rw [← HX.out, ← HC.out, H34.out]; rfl)
              have HNEXT := Lib.hid (Tp.pAt_first HL0.out H34.out HAL.out)
              have HRS2 := Lib.hid (show RS w2 (w.heap.size + 1) s true false by simpa [Tp.stQ, Tp.stB, e1] using hrs2)
              have hcb := HRS2.out.c2
              clear hrs2
              go_wp2_with fail
              go_roundw
              case rel => exact ⟨1, true, false, [], p, by omega, by go_num, HNEXT.out, HRS2.out, HBD2.out, HPP.out, HGB2.out, HBL2.out, HSZ2.out⟩
              case measure => simp [intOf]; omega
            · have hk1 : 0 < k := by omega
              obtain ⟨rfl, _⟩ := Tp.pAt_eq HP.out hk1
              have hkk : (0 : Int) < (k : Int) := by omega
              cases b
              · by_cases h34 : x = 34
                · have e1 : (x == 34) = true := beq_iff_eq.2 h34
                  have e2 : (x == 92) = false := beq_eq_false_iff_ne.2 (by omega)
                  have HC34 := Lib.hid (show c = 34 from UInt8.toNat_inj.1 (by have := HX.out; show c.toNat = 34; omega))
                  have HRS2 := Lib.hid (show RS w2 (w.heap.size + 1) s false false by simpa [Tp.stQ, Tp.stB, e1, e2] using hrs2)
                  have hcb := HRS2.out.c2
                  clear hrs2 h34
                  by_cases hlast : (k : Int) = (s.size : Int) - 1
                  · have HS := Lib.hid (Tp.qs_some (Tp.pAt_last HP.out hk1 HKL.out (HC.out.trans HC34.out) (by have : s.data.toList.length = s.size := rfl; omega)))
                    have hl1 : ((k : Int) == (s.size : Int) - 1) = true := beq_iff_eq.2 hlast
                    have K2 := Lib.hid (builder_string w.heap.size (G + 1) p acc w2 HPP.out HBD2.out (by have := HS3.out; omega) HSZ2.out)
                    clear hlast
                    go_wp2_with fail
                    refine K2.out.mono ?_
                    rintro e w3 ⟨rfl, hb3⟩
                    go_wp2
                    rw [onGoto_ret]
                    refine bodyPost_ret (v := .tuple #[.string ⟨acc.toArray⟩, .int .i64 0]) (by simp [results, Tryd.results49, go_sem]) rfl ⟨?_, HBL2.out.trans hb3⟩
                    rw [HS.out.1, HS.out.2]
                  · have HN := Lib.hid (Tp.pAt_mid HP.out hk1 HKL.out (HC.out.trans HC34.out) (by have : s.data.toList.length = s.size := rfl; omega))
                    have hl1 : ((k : Int) == (s.size : Int) - 1) = false := beq_eq_false_iff_ne.2 hlast
                    clear hlast
                    go_wp2_with fail
                    go_step3
                    try simp only [Exit.then]
                    refine onGoto_goto (Q := fun _ _ _ => False) ?_
                    go_wp2
                    rw [Exit.noGoto_ret]
                    exact bodyPost_ret (v := .tuple #[.string ⟨#[]⟩, .int .i64 110]) (by simp [results, Tryd.results49, go_sem]) rfl (HBAD.out _ HBL2.out HN.out)
                · have e1 : (x == 34) = false := beq_eq_false_iff_ne.2 h34
                  have HC34 := Lib.hid (show c ≠ 34 from fun e => h34 (by rw [← HX.out, e]; rfl))
                  clear h34
                  by_cases h92 : x = 92
                  · have e2 : (x == 92) = true := beq_iff_eq.2 h92
                    have HC92 := Lib.hid (show c = 92 from UInt8.toNat_inj.1 (by have := HX.out; show c.toNat = 92; omega))
                    clear h92
                    have HNEXT := Lib.hid (Tp.pAt_back HP.out hk1 HKL.out (HC.out.trans HC92.out))
                    have HRS2 := Lib.hid (show RS w2 (w.heap.size + 1) s true true by simpa [Tp.stQ, Tp.stB, e1, e2] using hrs2)
                    have hcb := HRS2.out.c2
                    clear hrs2
                    go_wp2_with fail
                    go_roundw
                    case rel => exact ⟨k + 1, true, true, acc, p, by omega, by go_num, HNEXT.out, HRS2.out, HBD2.out, HPP.out, HGB2.out, HBL2.out, HSZ2.out⟩
                    case measure => simp [intOf]; omega
                  · have e2 : (x == 92) = false := beq_eq_false_iff_ne.2 h92
                    have HC92 := Lib.hid (show c ≠ 92 from fun e => h92 (by rw [← HX.out, e]; rfl))
                    clear h92
                    have HNEXT0 := Lib.hid (Tp.pAt_more HP.out hk1 HKL.out (by rw [HC.out]; exact HC34.out) (by rw [HC.out]; exact HC92.out))
                    rw [HC.out] at HNEXT0
                    have HNEXT := HNEXT0
                    clear HNEXT0
                    have HRS2 := Lib.hid (show RS w2 (w.heap.size + 1) s true false by simpa [Tp.stQ, Tp.stB, e1, e2] using hrs2)
                    have hcb := HRS2.out.c2
                    clear hrs2
                    have K2 := Lib.hid (builder_byte w.heap.size (G + 1) p (Lib.byteCells acc) x w2 HPP.out HBD2.out (by have := HS3.out; omega) HSZ2.out (by rw [Lib.byteCells_length]; have := HP.out.1; omega))
                    go_wp2_with fail
                    refine K2.out.mono ?_
                    rintro e w3 ⟨rfl, hbd3, hfr⟩
                    have HBD3 := Lib.hid (show BD w3 w.heap.size (G + 1) (.pointer (some ⟨w.heap.size, 0, none⟩)) (Lib.byteCells (acc ++ [c])) by rw [bytes_snoc, HX.out]; exact hbd3)
                    have HRS3 := Lib.hid (show RS w3 (w.heap.size + 1) s true false from (hfr.block (w.heap.size + 1) (by have := HS3.out; omega) (by omega)).trans HRS2.out)
                    have HGB3 := Lib.hid ((hfr.block G (by omega) (by have := HS3.out; omega)).trans HGB2.out)
                    have HBL3 := Lib.hid (HBL2.out.trans (hfr.below (Nat.le_refl _) (by have := HS3.out; omega)))
                    have HSZ3 := Lib.hid (Nat.le_trans HSZ2.out hfr.size)
                    clear hbd3 hfr
                    go_wp2
                    go_roundw
                    case rel => exact ⟨k + 1, true, false, acc ++ [c], _, by omega, by go_num, HNEXT.out, HRS3.out, HBD3.out, .inr rfl, HGB3.out, HBL3.out, HSZ3.out⟩
                    case measure => simp [intOf]; omega
              · have HNEXT0 := Lib.hid (Tp.pAt_b HP.out hk1 HKL.out)
                rw [HC.out] at HNEXT0
                have HNEXT := HNEXT0
                clear HNEXT0
                have HRS2 := Lib.hid (show RS w2 (w.heap.size + 1) s true false by simpa [Tp.stQ, Tp.stB] using hrs2)
                have hcb := HRS2.out.c2
                clear hrs2
                have K2 := Lib.hid (builder_byte w.heap.size (G + 1) p (Lib.byteCells acc) x w2 HPP.out HBD2.out (by have := HS3.out; omega) HSZ2.out (by rw [Lib.byteCells_length]; have := HP.out.1; omega))
                go_wp2_with fail
                refine K2.out.mono ?_
                rintro e w3 ⟨rfl, hbd3, hfr⟩
                have HBD3 := Lib.hid (show BD w3 w.heap.size (G + 1) (.pointer (some ⟨w.heap.size, 0, none⟩)) (Lib.byteCells (acc ++ [c])) by rw [bytes_snoc, HX.out]; exact hbd3)
                have HRS3 := Lib.hid (show RS w3 (w.heap.size + 1) s true false from (hfr.block (w.heap.size + 1) (by have := HS3.out; omega) (by omega)).trans HRS2.out)
                have HGB3 := Lib.hid ((hfr.block G (by omega) (by have := HS3.out; omega)).trans HGB2.out)
                have HBL3 := Lib.hid (HBL2.out.trans (hfr.below (Nat.le_refl _) (by have := HS3.out; omega)))
                have HSZ3 := Lib.hid (Nat.le_trans HSZ2.out hfr.size)
                clear hbd3 hfr
                go_wp2
                go_roundw
                case rel => exact ⟨k + 1, true, false, acc ++ [c], _, by omega, by go_num, HNEXT.out, HRS3.out, HBD3.out, .inr rfl, HGB3.out, HBL3.out, HSZ3.out⟩
                case measure => simp [intOf]; omega
          · have HN := Lib.hid (Tp.pAt_end HP.out (by have := HL0.out; have : s.data.toList.length = s.size := rfl; omega) (by have : s.data.toList.length = s.size := rfl; omega))
            have HBL2 := HBL
            go_wp2_with fail
            go_step3
            go_wp2
            rw [onGoto_ret]
            exact bodyPost_ret (v := .tuple #[.string ⟨#[]⟩, .int .i64 110]) (by simp [results, Tryd.results49, go_sem]) rfl (HBAD.out _ HBL2.out HN.out)
    · have hc1 : (x == 34) = false := beq_eq_false_iff_ne.2 hc
      have hc2 : (x != 34) = true := by unfold bne; rw [hc1]; rfl
      have HQ := Lib.hid (show Tp.quoted s.data.toList = none from Tp.quoted_none (fun c t h e => hc (by rw [← HX.out]; simp only [h]; show (c.toNat : Int) = 34; rw [e]; rfl)))
      clear hc
      go_enter Tryd.func49, Tryd.ntmps49
      go_wp2_with fail
      refine wp_scope_fwd 0 rfl ?_
      go_wp2_with fail
      rw [HW2.out]
      refine wp_region_quiet_below (by kernel_rfl) (by kernel_rfl) ?_
      repeat (go_big_quiet_step (fail))
      refine wpQuiet_nil ?_
      intro _ hw'
      obtain ⟨⟨dq, osq⟩, hw''⟩ := hw'
      subst hw''
      go_wp2_with fail
      go_step3
      simp only [Exit.then]
      refine onGoto_goto ?_
      go_wp2
      rw [Exit.noGoto_ret]
      exact bodyPost_ret (v := .tuple #[.string ⟨#[]⟩, .int .i64 110]) (by simp [results, Tryd.results49, go_sem]) rfl (HBAD.out _ (HBG.out _ _) HQ.out)
end Go.Proofs.YtlefgkiembokeaaDoor
