/- Texts of this claim, one behind the other: LHD, Qu, Qp, LHO. -/
import Derived.Test.YtheaichiglfmjaaGreatDoorQtm4
import Derived.Test.YtheaichiglfmjaaGreatDoorQtm3
import Derived.Test.YtheaichiglfmjaaGreatDoorQtm1
/- ResponseHead returns true for any reply and any todo: the walk. The tables of the library, and its cell of a bound, read as they are laid. -/
namespace Go.Proofs.YtheaichiglfmjaaGreatDoor
set_option linter.unusedVariables false
set_option linter.unusedSimpArgs false
open Go.RowKit Go.Shelf
set_option maxHeartbeats 8000000
set_option maxRecDepth 100000
structure KX (w : World) : Prop where
  kr : KR w
  tabs : Tabs w
theorem KX.of {w : World} (h : ML w) (t : Tabs w) : KX w := ⟨⟨h, by obtain ⟨m, hm⟩ := h; exact lt_of_cell hm⟩, t⟩
theorem KX.below {w w' : World} (h : KX w) (hb : Below w.heap.size w w') : KX w' := ⟨h.kr.below hb, h.tabs.below hb⟩
theorem HdO.one {o : Option (List UInt8 × List Hp.Hd)} {e : Ending} {w : World} (h : HdO o e w) : ∃ v, e = .returned (.tuple #[.agg #[Hp.sx (o.getD ([], [])).1, v], .int .i64 (if o.isSome then 0 else 2)]) ∧ HS w v (o.getD ([], [])).2 := by
  match o, h with
  | some (F, fs), h => exact h
  | none, h => exact ⟨_, h, .inl ⟨rfl, rfl⟩⟩
theorem head_few (r : Rs.Rep) : ((Rs.head r).getD ([], [])).2.length ≤ 3 := by
  unfold Rs.head
  split
  · unfold Rs.flds
    simp only [Option.getD_some, List.length_append]
    have h : ∀ (b : Bool) (x : Hp.Hd), (if b = true then [x] else []).length ≤ 1 := fun b x => by cases b <;> simp
    have h1 := h r.2.1 (Hp.ct, Hp.es)
    have h2 := h r.2.2.1 (Hp.te, Hp.ch)
    have h3 := h r.2.2.2.1 (Hp.cl, Dp.digs 10 r.2.2.2.2.toNat)
    omega
  · simp
theorem name_str (k : Int) : ∃ nb, Rs.name k = .string nb := by
  unfold Rs.name
  split
  · exact ⟨_, rfl⟩
  · split
    · exact ⟨_, rfl⟩
    · split <;> exact ⟨_, rfl⟩
theorem walkHD (st : Int) (ev ck sz : Bool) (ln : Nat) (k : Int) (w : World) (hst : -9223372036854775808 ≤ st ∧ st ≤ 9223372036854775807) (hln : ln < 18446744073709551616) (hw : (Lit.int .i64 k).wf = true) (hk : KX w) :
    Calls Tryz.prog 5 #[repV (st, ev, ck, sz, (ln : Int)), .int .i64 k] w fun e w' => e = .returned (.bool true) ∧ Below w.heap.size w w' := by
  have HK := Lib.hid hk
  have HST := Lib.hid hst
  have HLN := Lib.hid hln
  have KN := Lib.hid rs_num
  have KW := Lib.hid rs_works
  clear hk hw hst hln
  obtain ⟨W1, hW1⟩ : ∃ z, w.alloc (repC (st, ev, ck, sz, (ln : Int))) = z := ⟨_, rfl⟩
  obtain ⟨A, hA⟩ : ∃ z, w.heap.size = z := ⟨_, rfl⟩
  have HB := Lib.hid (show Below w.heap.size w W1 by rw [← hW1]; exact (Below.refl _ _).alloc (Nat.le_refl _) _)
  have HR := Lib.hid (show W1.heap[A]? = some (repC (st, ev, ck, sz, (ln : Int))) by rw [← hW1, ← hA]; exact World.alloc_heap_new _ _)
  have HW1 := Lib.hid hW1
  have HA := Lib.hid hA
  unfold repC at HW1
  clear hW1 hA
  have K1 := Lib.hid (fun W (h : Tabs W) => rs_Head st ev ck sz ln W HST.out HLN.out h)
  have K2 := Lib.hid (fun W => rf_Head15 st ev ck sz ln W HST.out HLN.out)
  have HF := Lib.hid (head_few (st, ev, ck, sz, (ln : Int)))
  obtain ⟨o, ho⟩ : ∃ z, Rs.head (st, ev, ck, sz, (ln : Int)) = z := ⟨_, rfl⟩
  rw [ho] at K1 K2 HF
  clear ho
  obtain ⟨a0, a1, a2, a3, a4⟩ := rep_cell HR.out
  unfold repV at K1 K2 ⊢
  go_enter Tryz.func5, Tryz.ntmps5
  go_upto_region 1 with (fail)
  simp only at HW1
  rw [HA.out, HW1.out]
  go_wp2_with fail
  refine (K1.out W1 (HK.out.below HB.out).tabs).mono ?_
  rintro e w2 ⟨hd, hb⟩
  obtain ⟨v1, rfl, hv1⟩ := hd.one
  have HV1 := Lib.hid hv1
  have HR := Lib.hid (rep_load HR.out hb)
  have HB := Lib.hid (HB.out.trans (hb.mono HB.out.size))
  clear hd hb hv1 a0 a1 a2 a3 a4
  obtain ⟨F, fs, no, hF, hfs, hno⟩ : ∃ F fs no, (o.getD ([], [])).1 = F ∧ (o.getD ([], [])).2 = fs ∧ (if o.isSome then (0 : Int) else 2) = no := ⟨_, _, _, rfl, rfl, rfl⟩
  have hF2 := hF
  have hfs2 := hfs
  have hno2 := hno
  rw [hF, hno]
  rw [hfs] at HV1 HF
  obtain ⟨p1, c1, rfl⟩ := HV1.out.slice
  obtain ⟨n, hn⟩ : ∃ n, fs.length = n := ⟨_, rfl⟩
  have HN := Lib.hid hn
  obtain ⟨fb, hfb⟩ : ∃ z : ByteArray, (⟨F.toArray⟩ : ByteArray) = z := ⟨_, rfl⟩
  have HSX := Lib.hid (show Hp.sx F = .string fb by rw [← hfb]; rfl)
  rw [hn] at HV1 ⊢
  rw [HSX.out]
  clear hfb hn hF hfs hno
  go_upto_region 2 with (fail)
  obtain ⟨D, hD⟩ : ∃ z, w2.heap.size = z := ⟨_, rfl⟩
  obtain ⟨w3, hw3⟩ : ∃ z, w2.alloc (.cells #[.string fb, .slice p1 n c1] 28) = z := ⟨_, rfl⟩
  have hb : Below w2.heap.size w2 w3 := by rw [← hw3]; exact (Below.refl _ _).alloc (Nat.le_refl _) _
  have HD := Lib.hid (show w3.heap[D]? = some (.cells #[.string fb, .slice p1 n c1] 28 (0, 0)) by rw [← hw3, ← hD]; exact World.alloc_heap_new _ _)
  rw [hD, hw3]
  have HV1 := Lib.hid (HV1.out.below hb)
  have HR := Lib.hid (rep_load HR.out hb)
  have HB := Lib.hid (HB.out.trans (hb.mono HB.out.size))
  clear hb hD hw3
  obtain ⟨a0, a1, a2, a3, a4⟩ := rep_cell HR.out
  go_wp2_with fail
  refine (K2.out w3).mono ?_
  rintro e w4 ⟨hd, hb⟩
  obtain ⟨v2, rfl, hv2⟩ := hd.one
  have HD := Lib.hid ((hb.block _ (Array.getElem?_eq_some_iff.1 HD.out).1).trans HD.out)
  have HV1 := Lib.hid (HV1.out.below hb)
  have HB := Lib.hid (HB.out.trans (hb.mono HB.out.size))
  clear hd hb a0 a1 a2 a3 a4
  rw [hF2, hno2]
  rw [hfs2] at hv2
  have HV2 := Lib.hid hv2
  obtain ⟨p2, c2, rfl⟩ := hv2.slice
  clear hv2
  rw [HN.out] at HV2 ⊢
  rw [HSX.out]
  go_upto_region 3 with (fail)
  obtain ⟨D2, hD⟩ : ∃ z, w4.heap.size = z := ⟨_, rfl⟩
  obtain ⟨w5, hw5⟩ : ∃ z, w4.alloc (.cells #[.string fb, .slice p2 n c2] 28) = z := ⟨_, rfl⟩
  have hb : Below w4.heap.size w4 w5 := by rw [← hw5]; exact (Below.refl _ _).alloc (Nat.le_refl _) _
  have HD2 := Lib.hid (show w5.heap[D2]? = some (.cells #[.string fb, .slice p2 n c2] 28 (0, 0)) by rw [← hw5, ← hD]; exact World.alloc_heap_new _ _)
  rw [hD, hw5]
  have HV1 := Lib.hid (HV1.out.below hb)
  have HV2 := Lib.hid (HV2.out.below hb)
  have HD := Lib.hid ((hb.block _ (Array.getElem?_eq_some_iff.1 HD.out).1).trans HD.out)
  have HB := Lib.hid (HB.out.trans (hb.mono HB.out.size))
  clear hb hD hw5
  have d0 : w5.cell? ⟨D, 0, none⟩ = some (.string fb) := by simp [World.cell?, HD.out]
  have d1 : w5.cell? ⟨D, 1, none⟩ = some (.slice p1 n c1) := by simp [World.cell?, HD.out]
  have d2 : w5.cell? ⟨D2, 0, none⟩ = some (.string fb) := by simp [World.cell?, HD2.out]
  have d3 : w5.cell? ⟨D2, 1, none⟩ = some (.slice p2 n c2) := by simp [World.cell?, HD2.out]
  have K3 := Lib.hid (rf_Same F _ _ fs w5 HV1.out HV2.out (by have := HF.out; omega))
  rw [HSX.out] at K3
  have e1 : (no == no) = true := beq_self_eq_true _
  go_wp2_with fail
  refine K3.out.mono ?_
  rintro e w6 ⟨rfl, hb⟩
  have HB := Lib.hid (HB.out.trans (hb.mono HB.out.size))
  clear hb d0 d1 d2 d3 K3
  go_wp2_with fail
  refine (KN.out _ _).mono ?_
  rintro e w' ⟨rfl, hw⟩
  subst w'
  obtain ⟨nb, hnb⟩ := name_str k
  have K4 := Lib.hid (rs_Name k w6)
  rw [hnb] at K4
  have e2 : (nb.toList == nb.toList) = true := beq_self_eq_true _
  go_wp2_with fail
  refine K4.out.mono ?_
  rintro e w7 ⟨rfl, hb⟩
  have HB := Lib.hid (HB.out.trans (hb.mono HB.out.size))
  have K5 := Lib.hid (ref_Name15 k w7)
  rw [hnb] at K5
  clear hb K4
  go_wp2_with fail
  refine K5.out.mono ?_
  rintro e w8 ⟨rfl, hb⟩
  have HB := Lib.hid (HB.out.trans (hb.mono HB.out.size))
  clear hb K5
  go_wp2_with fail
  refine (KW.out w8 (HK.out.below HB.out).kr).mono ?_
  rintro e w9 ⟨rfl, hb⟩
  have HB := Lib.hid (HB.out.trans (hb.mono HB.out.size))
  clear hb
  go_wp2_with fail
  go_ret
  exact ⟨rfl, HB.out⟩
end Go.Proofs.YtheaichiglfmjaaGreatDoor

/- The reference's heads: Right, of any head. -/
namespace Go.Proofs.YtheaichiglfmjaaGreatDoor
set_option linter.unusedVariables false
set_option linter.unusedSimpArgs false
open Go.RowKit Go.Shelf
set_option maxHeartbeats 8000000
set_option maxRecDepth 100000
namespace Hr
def fldB (f : Hp.Hd) : Bool := Tp.isTok f.1 && (Tp.lower f.1 == f.1) && Tp.isVal f.2
/-- may a head be? -/
def okB (F : List UInt8) (fs : List Hp.Hd) : Bool := (match F with | [] => false | c :: _ => !(decide ((c.toNat : Int) = 9) || decide ((c.toNat : Int) = 32))) && Tp.isVal (120 :: F ++ [120]) && fs.all fldB
theorem okB_of {F : List UInt8} {fs : List Hp.Hd} (h : Hp.HOk F fs) : okB F fs = true := by
  obtain ⟨h1, h2, h3, h4⟩ := h
  unfold okB
  rw [h3, Bool.and_true, Bool.and_eq_true, List.all_eq_true]
  refine ⟨?_, fun f hf => ?_⟩
  · match F, h1, h2 with
    | c :: l, _, h2 =>
      have h5 : Tp.trim [c] ≠ [] := h2
      by_cases h : (c.toNat : Int) = 9 ∨ (c.toNat : Int) = 32
      · exfalso
        apply h5
        have : c = 9 ∨ c = 32 := h.imp (fun h => UInt8.toNat_inj.1 (by have : (9 : UInt8).toNat = 9 := rfl; omega)) (fun h => UInt8.toNat_inj.1 (by have : (32 : UInt8).toNat = 32 := rfl; omega))
        rcases this with rfl | rfl <;> decide
      · rw [not_or] at h
        simp [h.1, h.2]
  · obtain ⟨a, b, c⟩ := h4 f hf
    unfold fldB
    rw [a, b, c]
    simp
theorem hok_of {F : List UInt8} {fs : List Hp.Hd} (h : okB F fs = true) : Hp.HOk F fs := by
  unfold okB at h
  rw [Bool.and_eq_true, Bool.and_eq_true, List.all_eq_true] at h
  obtain ⟨⟨h1, h2⟩, h3⟩ := h
  match F, h1 with
  | c :: l, h1 =>
    refine ⟨by simp, ?_, h2, fun f hf => ?_⟩
    · show Tp.trim [c] ≠ []
      simp at h1
      have hb : Tp.blankB c = false := by
        unfold Tp.blankB Tp.blank
        simp
        omega
      unfold Tp.trim
      rw [Hp.trimL_no hb, show [c] = [] ++ [c] from rfl, Hp.trimR_no hb]
      simp
    · have := h3 f hf
      unfold fldB at this
      simp at this
      exact ⟨this.1.1, this.1.2, this.2⟩
end Hr
def rrA (C : Nat) (nb vb lb : ByteArray) (q3 : Bool) : Nat → World → Value → Prop
  | 0, _, v => v = .pointer (some ⟨C, 0, none⟩)
  | 1, _, v => v = .string nb
  | 2, _, v => v = .bool false
  | 3, _, v => v = .bool true
  | 4, _, v => v = .bool true
  | 5, _, v => v = undef
  | 6, _, v => v = undef
  | 7, _, v => v = undef
  | 8, _, v => v = undef
  | 9, _, v => v = undef
  | 10, _, v => v = undef
  | 11, _, v => v = .bool true
  | 12, _, v => v = .bool true
  | 13, _, v => v = undef
  | 14, _, v => v = undef
  | 15, _, v => v = undef
  | 16, _, v => v = undef
  | 17, _, v => v = .bool true
  | _, _, _ => False
def rrB (C : Nat) (nb vb lb : ByteArray) (q3 : Bool) : Nat → World → Value → Prop
  | 0, _, v => v = .pointer (some ⟨C, 0, none⟩)
  | 1, _, v => v = .string nb
  | 2, _, v => v = .bool true
  | 3, _, v => v = .bool false
  | 4, _, v => v = .bool false
  | 5, _, v => v = .pointer (some ⟨C, 0, none⟩)
  | 6, _, v => v = .string nb
  | 7, _, v => v = .string lb
  | 8, _, v => v = .pointer (some ⟨C, 0, none⟩)
  | 9, _, v => v = .string nb
  | 10, _, v => v = .bool true
  | 11, _, v => v = .bool true
  | 12, _, v => v = .bool true
  | 13, _, v => v = undef
  | 14, _, v => v = undef
  | 15, _, v => v = undef
  | 16, _, v => v = undef
  | 17, _, v => v = .bool true
  | _, _, _ => False
def rrC (C : Nat) (nb vb lb : ByteArray) (q3 : Bool) : Nat → World → Value → Prop
  | 0, _, v => v = .pointer (some ⟨C, 0, none⟩)
  | 1, _, v => v = .string nb
  | 2, _, v => v = .bool true
  | 3, _, v => v = .bool false
  | 4, _, v => v = .bool false
  | 5, _, v => v = .pointer (some ⟨C, 0, none⟩)
  | 6, _, v => v = .string nb
  | 7, _, v => v = .string lb
  | 8, _, v => v = .pointer (some ⟨C, 0, none⟩)
  | 9, _, v => v = .string nb
  | 10, _, v => v = .bool false
  | 11, _, v => v = .bool false
  | 12, _, v => v = .bool false
  | 13, _, v => v = .pointer (some ⟨C, 1, none⟩)
  | 14, _, v => v = .string vb
  | 15, _, v => v = .bool q3
  | 16, _, v => v = .bool (!q3)
  | 17, _, v => v = .bool (!q3)
  | _, _, _ => False
theorem rf_Right (F : List UInt8) (V : Value) (fs : List Hp.Hd) (w : World) (hv : HS w V fs) (hF : F.length ≤ 100000) (hl : fs.length ≤ 1000) (hs : ∀ f ∈ fs, f.1.length ≤ 100000 ∧ f.2.length ≤ 100000) :
    Calls Tryz.prog 14 #[.agg #[Hp.sx F, V]] w fun e w' => e = .returned (.bool (Hr.okB F fs)) ∧ Below w.heap.size w w' := by
  obtain ⟨p, c, rfl⟩ := hv.slice
  obtain ⟨N, hN⟩ : ∃ N, fs.length = N := ⟨_, rfl⟩
  rw [hN] at hv hl ⊢
  unfold Hp.sx
  obtain ⟨fb, hfb⟩ : ∃ z : ByteArray, (⟨F.toArray⟩ : ByteArray) = z := ⟨_, rfl⟩
  rw [hfb]
  have hfs : fb.size ≤ 100000 := by rw [← hfb]; exact hF
  obtain ⟨H, hH⟩ : ∃ H, w.heap.size = H := ⟨_, rfl⟩
  obtain ⟨W1, hW1⟩ : ∃ Z, w.alloc (.cells #[.string fb, .slice p N c] 28) = Z := ⟨_, rfl⟩
  have HB1 := Lib.hid (show Below H w W1 by rw [← hW1, ← hH]; exact (Below.refl _ _).alloc (Nat.le_refl _) _)
  have HG1 := Lib.hid (show W1.heap[H]? = some (.cells #[.string fb, .slice p N c] 28 (0, 0)) by rw [← hW1, ← hH]; exact World.alloc_heap_new _ _)
  have hc0 : W1.cell? ⟨H, 0, none⟩ = some (.string fb) := by simp [World.cell?, HG1.out]
  have HC0 := Lib.hid hc0
  have HV := Lib.hid hv
  have HW1 := Lib.hid hW1
  have HHH := Lib.hid hH
  have HNN := Lib.hid hN
  have HSZ := Lib.hid hs
  have HFB := Lib.hid hfb
  clear hv hs hN hfb hH hW1 hc0
  by_cases h0 : fb.size = 0
  · have hF0 : F = [] := by rw [← List.length_eq_zero_iff]; rw [← HFB.out] at h0; exact h0
    subst hF0
    have hf0 : fb = ⟨#[]⟩ := HFB.out.symm
    subst hf0
    have hc0 := HC0.out
    go_enter Tryz.func14, Tryz.ntmps14
    go_wp2_with fail
    rw [HHH.out, HW1.out]
    go_wp2_with fail
    go_ret
    exact ⟨rfl, HB1.out⟩
  · have hpos : 0 < fb.size := Nat.pos_of_ne_zero h0
    obtain ⟨c0, F', hFF⟩ : ∃ c0 F', F = c0 :: F' := by
      match F, HFB.out with
      | [], h => exfalso; apply h0; rw [← h]; rfl
      | c0 :: F', _ => exact ⟨c0, F', rfl⟩
    have hc : (fb[0]).toNat = c0.toNat := by
      have h := HFB.out
      subst h
      subst hFF
      rfl
    have HOB := Lib.hid (show Hr.okB F fs = (!(decide (((fb[0]).toNat : Int) = 9) || decide (((fb[0]).toNat : Int) = 32)) && Tp.isVal (120 :: F ++ [120]) && fs.all Hr.fldB) by rw [hc, hFF]; rfl)
    have e0 : (fb.toList == []) = false := by
      rw [ByteArray.toList_eq, beq_eq_false_iff_ne]
      intro h
      apply h0
      show fb.data.size = 0
      rw [← Array.length_toList, h]; rfl
    clear hc hFF
    by_cases h9 : ((fb[0]).toNat : Int) = 9
    · have hc0 := HC0.out
      have HO2 := Lib.hid (show Hr.okB F fs = false by rw [HOB.out, decide_eq_true h9]; rfl)
      go_enter Tryz.func14, Tryz.ntmps14
      go_wp2_with fail
      rw [HHH.out, HW1.out]
      go_wp2_with fail
      go_ret
      exact ⟨by rw [HO2.out]; rfl, by first | exact HB1.out | (rw [HHH.out]; exact HB1.out)⟩
    · by_cases h32 : ((fb[0]).toNat : Int) = 32
      · have hc0 := HC0.out
        have HO2 := Lib.hid (show Hr.okB F fs = false by rw [HOB.out, decide_eq_true h32, Bool.or_true]; rfl)
        go_enter Tryz.func14, Tryz.ntmps14
        go_wp2_with fail
        rw [HHH.out, HW1.out]
        go_wp2_with fail
        go_ret
        exact ⟨by rw [HO2.out]; rfl, by first | exact HB1.out | (rw [HHH.out]; exact HB1.out)⟩
      · have HO2 := Lib.hid (show Hr.okB F fs = (Tp.isVal (120 :: F ++ [120]) && fs.all Hr.fldB) by rw [HOB.out, decide_eq_false h9, decide_eq_false h32]; rfl)
        have hc0 := HC0.out
        have K1 := rtk_value ((⟨#[120]⟩ : ByteArray) ++ fb ++ (⟨#[120]⟩ : ByteArray)) W1 (by rw [ByteArray.size_append, ByteArray.size_append]; have : (⟨#[120]⟩ : ByteArray).size = 1 := rfl; omega)
        rw [show ((⟨#[120]⟩ : ByteArray) ++ fb ++ (⟨#[120]⟩ : ByteArray)).data.toList = 120 :: F ++ [120] by rw [← HFB.out]; simp] at K1
        have K1 := Lib.hid K1
        obtain ⟨bv, hbv⟩ : ∃ z, Tp.isVal (120 :: F ++ [120]) = z := ⟨_, rfl⟩
        rw [hbv] at K1 HO2
        have h9b : (((fb[0]).toNat : Int) == 9) = false := by simpa using h9
        have h32b : (((fb[0]).toNat : Int) == 32) = false := by simpa using h32
        clear hbv HOB h9 h32
        go_enter Tryz.func14, Tryz.ntmps14
        go_wp2_with fail
        rw [HHH.out, HW1.out]
        go_wp2_with fail
        refine K1.out.mono ?_
        rintro e w1 ⟨rfl, hw⟩
        subst w1
        cases bv
        · go_wp2_with fail
          go_ret
          exact ⟨by rw [HO2.out]; rfl, by first | exact HB1.out | (rw [HHH.out]; exact HB1.out)⟩
        · go_wp2_with fail
          clear h9b h32b e0
          go_loopw [3] (fun i wr => ∃ k : Nat, k ≤ N ∧ i = .int .i64 k ∧ (fs.take k).all Hr.fldB = true ∧ wr.heap[H]? = some (.cells #[.string fb, .slice p N c] 28 (0, 0)) ∧ Below H w wr) (fun i _ => N - (intOf i).toNat)
          case atStart => exact ⟨0, Nat.zero_le _, rfl, rfl, HG1.out, HB1.out⟩
          case round =>
            obtain ⟨k, hk, rfl, hall, hg, hbl⟩ := hrel
            have HALL := Lib.hid hall
            have HG := Lib.hid hg
            have HBL := Lib.hid hbl
            have a1 : wr.cell? ⟨H, 1, none⟩ = some (.slice p N c) := by simp [World.cell?, hg]
            clear hall hg hbl
            by_cases hlt : k < N
            · have HTK := Lib.hid (show fs.take (k + 1) = fs.take k ++ [fs.getD k ([], [])] by
                rw [List.take_add_one, List.getElem?_eq_getElem (by rw [HNN.out]; exact hlt), List.getD_eq_getElem?_getD, List.getElem?_eq_getElem (by rw [HNN.out]; exact hlt)]; rfl)
              have HMM := Lib.hid (show fs.getD k ([], []) ∈ fs by rw [List.getD_eq_getElem?_getD, List.getElem?_eq_getElem (by rw [HNN.out]; exact hlt)]; exact List.getElem_mem _)
              have hszf := HSZ.out _ HMM.out
              have HVR := Lib.hid (HV.out.below (by rw [HHH.out]; exact HBL.out))
              obtain ⟨g1, o1, rfl, hc1⟩ := HVR.out.cells (k := k) (by rw [HNN.out]; exact hlt)
              obtain ⟨hx, hy⟩ := hc1 k (by rw [HNN.out]; exact hlt)
              obtain ⟨⟨n0, v0⟩, hf⟩ : ∃ x, fs.getD k ([], []) = x := ⟨_, rfl⟩
              rw [hf] at hx hy HTK HMM hszf
              simp only at hx hy hszf
              obtain ⟨nb, hnb⟩ : ∃ z : ByteArray, (⟨n0.toArray⟩ : ByteArray) = z := ⟨_, rfl⟩
              obtain ⟨vb, hvb⟩ : ∃ z : ByteArray, (⟨v0.toArray⟩ : ByteArray) = z := ⟨_, rfl⟩
              rw [show Hp.sx n0 = .string nb by rw [← hnb]; rfl] at hx
              rw [show Hp.sx v0 = .string vb by rw [← hvb]; rfl] at hy
              have hns : nb.size ≤ 100000 := by rw [← hnb]; exact hszf.1
              have hvs : vb.size ≤ 100000 := by rw [← hvb]; exact hszf.2
              have KT0 := fun W => rtk_token nb W (by omega)
              have KL0 := fun W => rtk_lower nb W (by omega)
              have KV0 := fun W => rtk_value vb W (by omega)
              rw [show nb.data.toList = n0 by rw [← hnb]] at KT0 KL0
              rw [show vb.data.toList = v0 by rw [← hvb]] at KV0
              obtain ⟨lb, hlb⟩ : ∃ z : ByteArray, (⟨(Tp.lower n0).toArray⟩ : ByteArray) = z := ⟨_, rfl⟩
              rw [hlb] at KL0
              have hq : (lb.toList == nb.toList) = (Tp.lower n0 == n0) := by
                rw [← hlb, ← hnb, ByteArray.toList_eq, ByteArray.toList_eq]
              obtain ⟨q1, hq1⟩ : ∃ z, Tp.isTok n0 = z := ⟨_, rfl⟩
              obtain ⟨q2, hq2⟩ : ∃ z, (Tp.lower n0 == n0) = z := ⟨_, rfl⟩
              obtain ⟨q3, hq3⟩ : ∃ z, Tp.isVal v0 = z := ⟨_, rfl⟩
              rw [hq1] at KT0
              rw [hq2] at hq
              rw [hq3] at KV0
              have HFB2 := Lib.hid (show Hr.fldB (n0, v0) = (q1 && q2 && q3) by rw [← hq1, ← hq2, ← hq3]; rfl)
              have KT := Lib.hid KT0
              have KL := Lib.hid KL0
              have KV := Lib.hid KV0
              have HQ := Lib.hid hq
              clear hc1 hf hszf hnb hvb KT0 KL0 KV0 hlb hq hq1 hq2 hq3 hns hvs
              go_upto_region 7 with (fail)
              obtain ⟨C, hC⟩ : ∃ z, wr.heap.size = z := ⟨_, rfl⟩
              obtain ⟨w0, hw0⟩ : ∃ z, wr.alloc (.cells #[.string nb, .string vb] 56) = z := ⟨_, rfl⟩
              have hb : Below wr.heap.size wr w0 := by rw [← hw0]; exact (Below.refl _ _).alloc (Nat.le_refl _) _
              have hh : w0.heap[C]? = some (.cells #[.string nb, .string vb] 56 (0, 0)) := by rw [← hw0, ← hC]; exact World.alloc_heap_new _ _
              have HCE := Lib.hid (show ∀ W, Below w0.heap.size w0 W → W.cell? ⟨C, 0, none⟩ = some (.string nb) ∧ W.cell? ⟨C, 1, none⟩ = some (.string vb) from fun W h => by
                have h2 := (h.block _ (Array.getElem?_eq_some_iff.1 hh).1).trans hh
                constructor <;> simp [World.cell?, h2])
              have HG := Lib.hid ((hb.block _ (Array.getElem?_eq_some_iff.1 HG.out).1).trans HG.out)
              have HB0 := Lib.hid (show Below H w w0 from HBL.out.trans (hb.mono (HHH.out ▸ HBL.out.size)))
              have HZ := Lib.hid (show H ≤ w0.heap.size from HHH.out ▸ HB0.out.size)
              rw [hC, hw0]
              clear hb hh hC hw0 a1 hx hy
              cases q1
              · refine region_slotsG (fun i => 40 + min i 17) (rrA C nb vb lb q3) (fun i => ([true, true, true, true, true, false, false, false, false, false, false, true, true, false, false, false, false, true] : List Bool).getD i true) (by kernel_rfl) (by kernel_rfl) (fun i => by show 40 + min i 17 < _; simp; omega) (fun i j hi hj h => by have hi : i < 18 := hi; have hj : j < 18 := hj; omega) ?mono ?dst ?gu ?ng ?skip ?step ?done
                case mono =>
                  intro i W W' v h hbw
                  match i, h with
                  | 0, h | 1, h | 2, h | 3, h | 4, h | 5, h | 6, h | 7, h | 8, h | 9, h | 10, h | 11, h | 12, h | 13, h | 14, h | 15, h | 16, h | 17, h => exact h
                  | n + 18, h => exact h.elim
                case dst =>
                  intro i o ho
                  match i, ho with
                  | 0, ho | 1, ho | 2, ho | 3, ho | 4, ho | 5, ho | 6, ho | 7, ho | 8, ho | 9, ho | 10, ho | 11, ho | 12, ho | 13, ho | 14, ho | 15, ho | 16, ho | 17, ho => cases ho; rfl
                  | n + 18, ho => exact absurd ho (by simp)
                case gu =>
                  intro i o g b ho hgd W v hv
                  match i, ho with
                  | 0, ho => cases ho; cases hgd
                  | 1, ho => cases ho; cases hgd
                  | 2, ho => cases ho; cases hgd
                  | 3, ho => cases ho; cases hgd
                  | 4, ho => cases ho; cases hgd
                  | 5, ho => cases ho; cases hgd; exact hv
                  | 6, ho => cases ho; cases hgd; exact hv
                  | 7, ho => cases ho; cases hgd; exact hv
                  | 8, ho => cases ho; cases hgd; exact hv
                  | 9, ho => cases ho; cases hgd; exact hv
                  | 10, ho => cases ho; cases hgd; exact hv
                  | 11, ho => cases ho; cases hgd
                  | 12, ho => cases ho; cases hgd
                  | 13, ho => cases ho; cases hgd; exact hv
                  | 14, ho => cases ho; cases hgd; exact hv
                  | 15, ho => cases ho; cases hgd; exact hv
                  | 16, ho => cases ho; cases hgd; exact hv
                  | 17, ho => cases ho; cases hgd
                  | n + 18, ho => exact absurd ho (by simp)
                case ng =>
                  intro i o ho hgd
                  match i, ho with
                  | 0, ho => cases ho; first | rfl | cases hgd
                  | 1, ho => cases ho; first | rfl | cases hgd
                  | 2, ho => cases ho; first | rfl | cases hgd
                  | 3, ho => cases ho; first | rfl | cases hgd
                  | 4, ho => cases ho; first | rfl | cases hgd
                  | 5, ho => cases ho; first | rfl | cases hgd
                  | 6, ho => cases ho; first | rfl | cases hgd
                  | 7, ho => cases ho; first | rfl | cases hgd
                  | 8, ho => cases ho; first | rfl | cases hgd
                  | 9, ho => cases ho; first | rfl | cases hgd
                  | 10, ho => cases ho; first | rfl | cases hgd
                  | 11, ho => cases ho; first | rfl | cases hgd
                  | 12, ho => cases ho; first | rfl | cases hgd
                  | 13, ho => cases ho; first | rfl | cases hgd
                  | 14, ho => cases ho; first | rfl | cases hgd
                  | 15, ho => cases ho; first | rfl | cases hgd
                  | 16, ho => cases ho; first | rfl | cases hgd
                  | 17, ho => cases ho; first | rfl | cases hgd
                  | n + 18, ho => exact absurd ho (by simp)
                case skip =>
                  intro i W hi hsel
                  match i, hi, hsel with
                  | 0, _, hsel => first | exact absurd hsel (by decide) | rfl
                  | 1, _, hsel => first | exact absurd hsel (by decide) | rfl
                  | 2, _, hsel => first | exact absurd hsel (by decide) | rfl
                  | 3, _, hsel => first | exact absurd hsel (by decide) | rfl
                  | 4, _, hsel => first | exact absurd hsel (by decide) | rfl
                  | 5, _, hsel => first | exact absurd hsel (by decide) | rfl
                  | 6, _, hsel => first | exact absurd hsel (by decide) | rfl
                  | 7, _, hsel => first | exact absurd hsel (by decide) | rfl
                  | 8, _, hsel => first | exact absurd hsel (by decide) | rfl
                  | 9, _, hsel => first | exact absurd hsel (by decide) | rfl
                  | 10, _, hsel => first | exact absurd hsel (by decide) | rfl
                  | 11, _, hsel => first | exact absurd hsel (by decide) | rfl
                  | 12, _, hsel => first | exact absurd hsel (by decide) | rfl
                  | 13, _, hsel => first | exact absurd hsel (by decide) | rfl
                  | 14, _, hsel => first | exact absurd hsel (by decide) | rfl
                  | 15, _, hsel => first | exact absurd hsel (by decide) | rfl
                  | 16, _, hsel => first | exact absurd hsel (by decide) | rfl
                  | 17, _, hsel => first | exact absurd hsel (by decide) | rfl
                  | n + 18, hi, _ => exact absurd hi (by simp)
                case step =>
                  intro f a' W i o ho hsel hpre hbel hrest
                  match i, ho, hsel with
                  | 0, ho, _ =>
                    cases ho
                    have q4 : a'.tmps.getD 4 undef = .pointer (some ⟨C, 0, none⟩) := (hrest 4 (by intro i hi; have hi : i < 18 := hi; show 40 + min i 17 ≠ _; omega))
                    have e4 := rg_ev q4
                    exact rg_same (.pointer (some ⟨C, 0, none⟩)) (by unfold Oper.wp execOp; go_simp; all_goals ((try simp only [e4]); (try go_simp); (try rw [if_pos (by omega)]); (try rw [if_neg (by omega)]); first | done | rfl | exact ⟨rfl, rfl⟩ | trivial)) rfl
                  | 1, ho, _ =>
                    cases ho
                    have q40 : a'.tmps.getD 40 undef = .pointer (some ⟨C, 0, none⟩) := (hpre { on := 0, ground := .data } (by simp) rfl)
                    have ce := HCE.out W hbel
                    have c0 := ce.1
                    have c1 := ce.2
                    have e40 := rg_ev q40
                    exact rg_same (.string nb) (by unfold Oper.wp execOp; go_simp; all_goals ((try simp only [e40]); (try go_simp); (try rw [if_pos (by omega)]); (try rw [if_neg (by omega)]); first | done | rfl | exact ⟨rfl, rfl⟩ | trivial)) rfl
                  | 2, ho, _ =>
                    cases ho
                    have q41 : a'.tmps.getD 41 undef = .string nb := (hpre { on := 1, ground := .data } (by simp) rfl)
                    exact rg_call 41 44 _ _ _ rfl q41 (enters_of Tryz.func44 (by kernel_rfl) rfl) (KT.out W) (fun e w' h => ⟨_, h.1, _, rfl, rfl, by rw [h.2]; exact Below.refl _ _⟩)
                  | 3, ho, _ =>
                    cases ho
                    have q42 : a'.tmps.getD 42 undef = .bool false := (hpre { on := 2, ground := .data } (by simp) rfl)
                    have e42 := rg_ev q42
                    exact rg_same (.bool true) (by unfold Oper.wp execOp; go_simp; all_goals ((try simp only [e42]); (try go_simp); (try rw [if_pos (by omega)]); (try rw [if_neg (by omega)]); first | done | rfl | exact ⟨rfl, rfl⟩ | trivial)) rfl
                  | 4, ho, _ =>
                    cases ho
                    have q43 : a'.tmps.getD 43 undef = .bool true := (hpre { on := 3, ground := .data } (by simp) rfl)
                    have e43 := rg_ev q43
                    exact rg_same (.bool true) (by unfold Oper.wp execOp; go_simp; all_goals ((try simp only [e43]); (try go_simp); (try rw [if_pos (by omega)]); (try rw [if_neg (by omega)]); first | done | rfl | exact ⟨rfl, rfl⟩ | trivial)) rfl
                  | 5, ho, hsel => exact absurd hsel (by decide)
                  | 6, ho, hsel => exact absurd hsel (by decide)
                  | 7, ho, hsel => exact absurd hsel (by decide)
                  | 8, ho, hsel => exact absurd hsel (by decide)
                  | 9, ho, hsel => exact absurd hsel (by decide)
                  | 10, ho, hsel => exact absurd hsel (by decide)
                  | 11, ho, _ =>
                    cases ho
                    have q44 : a'.tmps.getD 44 undef = .bool true := (hpre { on := 4, ground := .data } (by simp) rfl)
                    have q50 : a'.tmps.getD 50 undef = undef := (hpre { on := 10, ground := .data } (by simp) rfl)
                    have e44 := rg_ev q44
                    have e50 := rg_ev q50
                    exact rg_same (.bool true) (by unfold Oper.wp execOp; go_simp; all_goals ((try simp only [e44, e50]); (try go_simp); (try rw [if_pos (by omega)]); (try rw [if_neg (by omega)]); first | done | rfl | exact ⟨rfl, rfl⟩ | trivial)) rfl
                  | 12, ho, _ =>
                    cases ho
                    have q51 : a'.tmps.getD 51 undef = .bool true := (hpre { on := 11, ground := .data } (by simp) rfl)
                    have e51 := rg_ev q51
                    exact rg_same (.bool true) (by unfold Oper.wp execOp; go_simp; all_goals ((try simp only [e51]); (try go_simp); (try rw [if_pos (by omega)]); (try rw [if_neg (by omega)]); first | done | rfl | exact ⟨rfl, rfl⟩ | trivial)) rfl
                  | 13, ho, hsel => exact absurd hsel (by decide)
                  | 14, ho, hsel => exact absurd hsel (by decide)
                  | 15, ho, hsel => exact absurd hsel (by decide)
                  | 16, ho, hsel => exact absurd hsel (by decide)
                  | 17, ho, _ =>
                    cases ho
                    have q52 : a'.tmps.getD 52 undef = .bool true := (hpre { on := 12, ground := .data } (by simp) rfl)
                    have q56 : a'.tmps.getD 56 undef = undef := (hpre { on := 16, ground := .data } (by simp) rfl)
                    have e52 := rg_ev q52
                    have e56 := rg_ev q56
                    exact rg_same (.bool true) (by unfold Oper.wp execOp; go_simp; all_goals ((try simp only [e52, e56]); (try go_simp); (try rw [if_pos (by omega)]); (try rw [if_neg (by omega)]); first | done | rfl | exact ⟨rfl, rfl⟩ | trivial)) rfl
                  | n + 18, ho, _ => exact absurd ho (by simp)
                case done =>
                  intro vs W hbel hvs
                  have v0 : vs 0 = .pointer (some ⟨C, 0, none⟩) := hvs 0 (by decide)
                  have v1 : vs 1 = .string nb := hvs 1 (by decide)
                  have v2 : vs 2 = .bool false := hvs 2 (by decide)
                  have v3 : vs 3 = .bool true := hvs 3 (by decide)
                  have v4 : vs 4 = .bool true := hvs 4 (by decide)
                  have v5 : vs 5 = undef := hvs 5 (by decide)
                  have v6 : vs 6 = undef := hvs 6 (by decide)
                  have v7 : vs 7 = undef := hvs 7 (by decide)
                  have v8 : vs 8 = undef := hvs 8 (by decide)
                  have v9 : vs 9 = undef := hvs 9 (by decide)
                  have v10 : vs 10 = undef := hvs 10 (by decide)
                  have v11 : vs 11 = .bool true := hvs 11 (by decide)
                  have v12 : vs 12 = .bool true := hvs 12 (by decide)
                  have v13 : vs 13 = undef := hvs 13 (by decide)
                  have v14 : vs 14 = undef := hvs 14 (by decide)
                  have v15 : vs 15 = undef := hvs 15 (by decide)
                  have v16 : vs 16 = undef := hvs 16 (by decide)
                  have v17 : vs 17 = .bool true := hvs 17 (by decide)
                  have HBR := Lib.hid hbel
                  simp only [fillN, List.size_toArray, List.length_cons, List.length_nil, Nat.reduceAdd, show List.range 18 = [0, 1, 2, 3, 4, 5, 6, 7, 8, 9, 10, 11, 12, 13, 14, 15, 16, 17] from rfl, List.foldl_cons, List.foldl_nil, show 40 + min 0 17 = 40 from rfl, show 40 + min 1 17 = 41 from rfl, show 40 + min 2 17 = 42 from rfl, show 40 + min 3 17 = 43 from rfl, show 40 + min 4 17 = 44 from rfl, show 40 + min 5 17 = 45 from rfl, show 40 + min 6 17 = 46 from rfl, show 40 + min 7 17 = 47 from rfl, show 40 + min 8 17 = 48 from rfl, show 40 + min 9 17 = 49 from rfl, show 40 + min 10 17 = 50 from rfl, show 40 + min 11 17 = 51 from rfl, show 40 + min 12 17 = 52 from rfl, show 40 + min 13 17 = 53 from rfl, show 40 + min 14 17 = 54 from rfl, show 40 + min 15 17 = 55 from rfl, show 40 + min 16 17 = 56 from rfl, show 40 + min 17 17 = 57 from rfl, v0, v1, v2, v3, v4, v5, v6, v7, v8, v9, v10, v11, v12, v13, v14, v15, v16, v17]
                  clear v0 v1 v2 v3 v4 v5 v6 v7 v8 v9 v10 v11 v12 v13 v14 v15 v16 v17 hvs hbel
                  go_simp
                  go_wp2_with fail
                  go_ret
                  refine ⟨?_, ?_⟩
                  · rw [HO2.out, Bool.true_and, show fs.all Hr.fldB = false from List.all_eq_false.2 ⟨_, HMM.out, by rw [HFB2.out]; simp⟩]; rfl
                  · first | exact HB0.out.trans (HBR.out.mono HZ.out) | (rw [HHH.out]; exact HB0.out.trans (HBR.out.mono HZ.out))
              · cases q2
                · have hn : (lb.toList == nb.toList) = false := HQ.out
                  have hn2 : (lb.toList != nb.toList) = true := by simp [bne, hn]
                  refine region_slotsG (fun i => 40 + min i 17) (rrB C nb vb lb q3) (fun i => ([true, true, true, true, true, true, true, true, true, true, true, true, true, false, false, false, false, true] : List Bool).getD i true) (by kernel_rfl) (by kernel_rfl) (fun i => by show 40 + min i 17 < _; simp; omega) (fun i j hi hj h => by have hi : i < 18 := hi; have hj : j < 18 := hj; omega) ?mono ?dst ?gu ?ng ?skip ?step ?done
                  case mono =>
                    intro i W W' v h hbw
                    match i, h with
                    | 0, h | 1, h | 2, h | 3, h | 4, h | 5, h | 6, h | 7, h | 8, h | 9, h | 10, h | 11, h | 12, h | 13, h | 14, h | 15, h | 16, h | 17, h => exact h
                    | n + 18, h => exact h.elim
                  case dst =>
                    intro i o ho
                    match i, ho with
                    | 0, ho | 1, ho | 2, ho | 3, ho | 4, ho | 5, ho | 6, ho | 7, ho | 8, ho | 9, ho | 10, ho | 11, ho | 12, ho | 13, ho | 14, ho | 15, ho | 16, ho | 17, ho => cases ho; rfl
                    | n + 18, ho => exact absurd ho (by simp)
                  case gu =>
                    intro i o g b ho hgd W v hv
                    match i, ho with
                    | 0, ho => cases ho; cases hgd
                    | 1, ho => cases ho; cases hgd
                    | 2, ho => cases ho; cases hgd
                    | 3, ho => cases ho; cases hgd
                    | 4, ho => cases ho; cases hgd
                    | 5, ho => cases ho; cases hgd; exact hv
                    | 6, ho => cases ho; cases hgd; exact hv
                    | 7, ho => cases ho; cases hgd; exact hv
                    | 8, ho => cases ho; cases hgd; exact hv
                    | 9, ho => cases ho; cases hgd; exact hv
                    | 10, ho => cases ho; cases hgd; exact hv
                    | 11, ho => cases ho; cases hgd
                    | 12, ho => cases ho; cases hgd
                    | 13, ho => cases ho; cases hgd; exact hv
                    | 14, ho => cases ho; cases hgd; exact hv
                    | 15, ho => cases ho; cases hgd; exact hv
                    | 16, ho => cases ho; cases hgd; exact hv
                    | 17, ho => cases ho; cases hgd
                    | n + 18, ho => exact absurd ho (by simp)
                  case ng =>
                    intro i o ho hgd
                    match i, ho with
                    | 0, ho => cases ho; first | rfl | cases hgd
                    | 1, ho => cases ho; first | rfl | cases hgd
                    | 2, ho => cases ho; first | rfl | cases hgd
                    | 3, ho => cases ho; first | rfl | cases hgd
                    | 4, ho => cases ho; first | rfl | cases hgd
                    | 5, ho => cases ho; first | rfl | cases hgd
                    | 6, ho => cases ho; first | rfl | cases hgd
                    | 7, ho => cases ho; first | rfl | cases hgd
                    | 8, ho => cases ho; first | rfl | cases hgd
                    | 9, ho => cases ho; first | rfl | cases hgd
                    | 10, ho => cases ho; first | rfl | cases hgd
                    | 11, ho => cases ho; first | rfl | cases hgd
                    | 12, ho => cases ho; first | rfl | cases hgd
                    | 13, ho => cases ho; first | rfl | cases hgd
                    | 14, ho => cases ho; first | rfl | cases hgd
                    | 15, ho => cases ho; first | rfl | cases hgd
                    | 16, ho => cases ho; first | rfl | cases hgd
                    | 17, ho => cases ho; first | rfl | cases hgd
                    | n + 18, ho => exact absurd ho (by simp)
                  case skip =>
                    intro i W hi hsel
                    match i, hi, hsel with
                    | 0, _, hsel => first | exact absurd hsel (by decide) | rfl
                    | 1, _, hsel => first | exact absurd hsel (by decide) | rfl
                    | 2, _, hsel => first | exact absurd hsel (by decide) | rfl
                    | 3, _, hsel => first | exact absurd hsel (by decide) | rfl
                    | 4, _, hsel => first | exact absurd hsel (by decide) | rfl
                    | 5, _, hsel => first | exact absurd hsel (by decide) | rfl
                    | 6, _, hsel => first | exact absurd hsel (by decide) | rfl
                    | 7, _, hsel => first | exact absurd hsel (by decide) | rfl
                    | 8, _, hsel => first | exact absurd hsel (by decide) | rfl
                    | 9, _, hsel => first | exact absurd hsel (by decide) | rfl
                    | 10, _, hsel => first | exact absurd hsel (by decide) | rfl
                    | 11, _, hsel => first | exact absurd hsel (by decide) | rfl
                    | 12, _, hsel => first | exact absurd hsel (by decide) | rfl
                    | 13, _, hsel => first | exact absurd hsel (by decide) | rfl
                    | 14, _, hsel => first | exact absurd hsel (by decide) | rfl
                    | 15, _, hsel => first | exact absurd hsel (by decide) | rfl
                    | 16, _, hsel => first | exact absurd hsel (by decide) | rfl
                    | 17, _, hsel => first | exact absurd hsel (by decide) | rfl
                    | n + 18, hi, _ => exact absurd hi (by simp)
                  case step =>
                    intro f a' W i o ho hsel hpre hbel hrest
                    match i, ho, hsel with
                    | 0, ho, _ =>
                      cases ho
                      have q4 : a'.tmps.getD 4 undef = .pointer (some ⟨C, 0, none⟩) := (hrest 4 (by intro i hi; have hi : i < 18 := hi; show 40 + min i 17 ≠ _; omega))
                      have e4 := rg_ev q4
                      exact rg_same (.pointer (some ⟨C, 0, none⟩)) (by unfold Oper.wp execOp; go_simp; all_goals ((try simp only [e4]); (try go_simp); (try rw [if_pos (by omega)]); (try rw [if_neg (by omega)]); first | done | rfl | exact ⟨rfl, rfl⟩ | trivial)) rfl
                    | 1, ho, _ =>
                      cases ho
                      have q40 : a'.tmps.getD 40 undef = .pointer (some ⟨C, 0, none⟩) := (hpre { on := 0, ground := .data } (by simp) rfl)
                      have ce := HCE.out W hbel
                      have c0 := ce.1
                      have c1 := ce.2
                      have e40 := rg_ev q40
                      exact rg_same (.string nb) (by unfold Oper.wp execOp; go_simp; all_goals ((try simp only [e40]); (try go_simp); (try rw [if_pos (by omega)]); (try rw [if_neg (by omega)]); first | done | rfl | exact ⟨rfl, rfl⟩ | trivial)) rfl
                    | 2, ho, _ =>
                      cases ho
                      have q41 : a'.tmps.getD 41 undef = .string nb := (hpre { on := 1, ground := .data } (by simp) rfl)
                      exact rg_call 41 44 _ _ _ rfl q41 (enters_of Tryz.func44 (by kernel_rfl) rfl) (KT.out W) (fun e w' h => ⟨_, h.1, _, rfl, rfl, by rw [h.2]; exact Below.refl _ _⟩)
                    | 3, ho, _ =>
                      cases ho
                      have q42 : a'.tmps.getD 42 undef = .bool true := (hpre { on := 2, ground := .data } (by simp) rfl)
                      have e42 := rg_ev q42
                      exact rg_same (.bool false) (by unfold Oper.wp execOp; go_simp; all_goals ((try simp only [e42]); (try go_simp); (try rw [if_pos (by omega)]); (try rw [if_neg (by omega)]); first | done | rfl | exact ⟨rfl, rfl⟩ | trivial)) rfl
                    | 4, ho, _ =>
                      cases ho
                      have q43 : a'.tmps.getD 43 undef = .bool false := (hpre { on := 3, ground := .data } (by simp) rfl)
                      have e43 := rg_ev q43
                      exact rg_same (.bool false) (by unfold Oper.wp execOp; go_simp; all_goals ((try simp only [e43]); (try go_simp); (try rw [if_pos (by omega)]); (try rw [if_neg (by omega)]); first | done | rfl | exact ⟨rfl, rfl⟩ | trivial)) rfl
                    | 5, ho, _ =>
                      cases ho
                      have q4 : a'.tmps.getD 4 undef = .pointer (some ⟨C, 0, none⟩) := (hrest 4 (by intro i hi; have hi : i < 18 := hi; show 40 + min i 17 ≠ _; omega))
                      have e4 := rg_ev q4
                      exact rg_same (.pointer (some ⟨C, 0, none⟩)) (by unfold Oper.wp execOp; go_simp; all_goals ((try simp only [e4]); (try go_simp); (try rw [if_pos (by omega)]); (try rw [if_neg (by omega)]); first | done | rfl | exact ⟨rfl, rfl⟩ | trivial)) rfl
                    | 6, ho, _ =>
                      cases ho
                      have q45 : a'.tmps.getD 45 undef = .pointer (some ⟨C, 0, none⟩) := (hpre { on := 5, ground := .data } (by simp) rfl)
                      have ce := HCE.out W hbel
                      have c0 := ce.1
                      have c1 := ce.2
                      have e45 := rg_ev q45
                      exact rg_same (.string nb) (by unfold Oper.wp execOp; go_simp; all_goals ((try simp only [e45]); (try go_simp); (try rw [if_pos (by omega)]); (try rw [if_neg (by omega)]); first | done | rfl | exact ⟨rfl, rfl⟩ | trivial)) rfl
                    | 7, ho, _ =>
                      cases ho
                      have q46 : a'.tmps.getD 46 undef = .string nb := (hpre { on := 6, ground := .data } (by simp) rfl)
                      exact rg_call 46 24 _ _ _ rfl q46 (enters_of Tryz.func24 (by kernel_rfl) rfl) (KL.out W) (fun e w' h => ⟨_, h.1, _, rfl, rfl, h.2⟩)
                    | 8, ho, _ =>
                      cases ho
                      have q4 : a'.tmps.getD 4 undef = .pointer (some ⟨C, 0, none⟩) := (hrest 4 (by intro i hi; have hi : i < 18 := hi; show 40 + min i 17 ≠ _; omega))
                      have e4 := rg_ev q4
                      exact rg_same (.pointer (some ⟨C, 0, none⟩)) (by unfold Oper.wp execOp; go_simp; all_goals ((try simp only [e4]); (try go_simp); (try rw [if_pos (by omega)]); (try rw [if_neg (by omega)]); first | done | rfl | exact ⟨rfl, rfl⟩ | trivial)) rfl
                    | 9, ho, _ =>
                      cases ho
                      have q48 : a'.tmps.getD 48 undef = .pointer (some ⟨C, 0, none⟩) := (hpre { on := 8, ground := .data } (by simp) rfl)
                      have ce := HCE.out W hbel
                      have c0 := ce.1
                      have c1 := ce.2
                      have e48 := rg_ev q48
                      exact rg_same (.string nb) (by unfold Oper.wp execOp; go_simp; all_goals ((try simp only [e48]); (try go_simp); (try rw [if_pos (by omega)]); (try rw [if_neg (by omega)]); first | done | rfl | exact ⟨rfl, rfl⟩ | trivial)) rfl
                    | 10, ho, _ =>
                      cases ho
                      have q47 : a'.tmps.getD 47 undef = .string lb := (hpre { on := 7, ground := .data } (by simp) rfl)
                      have q49 : a'.tmps.getD 49 undef = .string nb := (hpre { on := 9, ground := .data } (by simp) rfl)
                      have e47 := rg_ev q47
                      have e49 := rg_ev q49
                      exact rg_same (.bool true) (by unfold Oper.wp execOp; go_simp; all_goals ((try simp only [e47, e49]); (try go_simp); (try rw [if_pos (by omega)]); (try rw [if_neg (by omega)]); first | done | rfl | exact ⟨rfl, rfl⟩ | trivial)) rfl
                    | 11, ho, _ =>
                      cases ho
                      have q44 : a'.tmps.getD 44 undef = .bool false := (hpre { on := 4, ground := .data } (by simp) rfl)
                      have q50 : a'.tmps.getD 50 undef = .bool true := (hpre { on := 10, ground := .data } (by simp) rfl)
                      have e44 := rg_ev q44
                      have e50 := rg_ev q50
                      exact rg_same (.bool true) (by unfold Oper.wp execOp; go_simp; all_goals ((try simp only [e44, e50]); (try go_simp); (try rw [if_pos (by omega)]); (try rw [if_neg (by omega)]); first | done | rfl | exact ⟨rfl, rfl⟩ | trivial)) rfl
                    | 12, ho, _ =>
                      cases ho
                      have q51 : a'.tmps.getD 51 undef = .bool true := (hpre { on := 11, ground := .data } (by simp) rfl)
                      have e51 := rg_ev q51
                      exact rg_same (.bool true) (by unfold Oper.wp execOp; go_simp; all_goals ((try simp only [e51]); (try go_simp); (try rw [if_pos (by omega)]); (try rw [if_neg (by omega)]); first | done | rfl | exact ⟨rfl, rfl⟩ | trivial)) rfl
                    | 13, ho, hsel => exact absurd hsel (by decide)
                    | 14, ho, hsel => exact absurd hsel (by decide)
                    | 15, ho, hsel => exact absurd hsel (by decide)
                    | 16, ho, hsel => exact absurd hsel (by decide)
                    | 17, ho, _ =>
                      cases ho
                      have q52 : a'.tmps.getD 52 undef = .bool true := (hpre { on := 12, ground := .data } (by simp) rfl)
                      have q56 : a'.tmps.getD 56 undef = undef := (hpre { on := 16, ground := .data } (by simp) rfl)
                      have e52 := rg_ev q52
                      have e56 := rg_ev q56
                      exact rg_same (.bool true) (by unfold Oper.wp execOp; go_simp; all_goals ((try simp only [e52, e56]); (try go_simp); (try rw [if_pos (by omega)]); (try rw [if_neg (by omega)]); first | done | rfl | exact ⟨rfl, rfl⟩ | trivial)) rfl
                    | n + 18, ho, _ => exact absurd ho (by simp)
                  case done =>
                    intro vs W hbel hvs
                    have v0 : vs 0 = .pointer (some ⟨C, 0, none⟩) := hvs 0 (by decide)
                    have v1 : vs 1 = .string nb := hvs 1 (by decide)
                    have v2 : vs 2 = .bool true := hvs 2 (by decide)
                    have v3 : vs 3 = .bool false := hvs 3 (by decide)
                    have v4 : vs 4 = .bool false := hvs 4 (by decide)
                    have v5 : vs 5 = .pointer (some ⟨C, 0, none⟩) := hvs 5 (by decide)
                    have v6 : vs 6 = .string nb := hvs 6 (by decide)
                    have v7 : vs 7 = .string lb := hvs 7 (by decide)
                    have v8 : vs 8 = .pointer (some ⟨C, 0, none⟩) := hvs 8 (by decide)
                    have v9 : vs 9 = .string nb := hvs 9 (by decide)
                    have v10 : vs 10 = .bool true := hvs 10 (by decide)
                    have v11 : vs 11 = .bool true := hvs 11 (by decide)
                    have v12 : vs 12 = .bool true := hvs 12 (by decide)
                    have v13 : vs 13 = undef := hvs 13 (by decide)
                    have v14 : vs 14 = undef := hvs 14 (by decide)
                    have v15 : vs 15 = undef := hvs 15 (by decide)
                    have v16 : vs 16 = undef := hvs 16 (by decide)
                    have v17 : vs 17 = .bool true := hvs 17 (by decide)
                    have HBR := Lib.hid hbel
                    simp only [fillN, List.size_toArray, List.length_cons, List.length_nil, Nat.reduceAdd, show List.range 18 = [0, 1, 2, 3, 4, 5, 6, 7, 8, 9, 10, 11, 12, 13, 14, 15, 16, 17] from rfl, List.foldl_cons, List.foldl_nil, show 40 + min 0 17 = 40 from rfl, show 40 + min 1 17 = 41 from rfl, show 40 + min 2 17 = 42 from rfl, show 40 + min 3 17 = 43 from rfl, show 40 + min 4 17 = 44 from rfl, show 40 + min 5 17 = 45 from rfl, show 40 + min 6 17 = 46 from rfl, show 40 + min 7 17 = 47 from rfl, show 40 + min 8 17 = 48 from rfl, show 40 + min 9 17 = 49 from rfl, show 40 + min 10 17 = 50 from rfl, show 40 + min 11 17 = 51 from rfl, show 40 + min 12 17 = 52 from rfl, show 40 + min 13 17 = 53 from rfl, show 40 + min 14 17 = 54 from rfl, show 40 + min 15 17 = 55 from rfl, show 40 + min 16 17 = 56 from rfl, show 40 + min 17 17 = 57 from rfl, v0, v1, v2, v3, v4, v5, v6, v7, v8, v9, v10, v11, v12, v13, v14, v15, v16, v17]
                    clear v0 v1 v2 v3 v4 v5 v6 v7 v8 v9 v10 v11 v12 v13 v14 v15 v16 v17 hvs hbel
                    go_simp
                    go_wp2_with fail
                    go_ret
                    refine ⟨?_, ?_⟩
                    · rw [HO2.out, Bool.true_and, show fs.all Hr.fldB = false from List.all_eq_false.2 ⟨_, HMM.out, by rw [HFB2.out]; simp⟩]; rfl
                    · first | exact HB0.out.trans (HBR.out.mono HZ.out) | (rw [HHH.out]; exact HB0.out.trans (HBR.out.mono HZ.out))
                · have hn : (lb.toList == nb.toList) = true := HQ.out
                  have hn2 : (lb.toList != nb.toList) = false := by simp [bne, hn]
                  refine region_slotsG (fun i => 40 + min i 17) (rrC C nb vb lb q3) (fun _ => true) (by kernel_rfl) (by kernel_rfl) (fun i => by show 40 + min i 17 < _; simp; omega) (fun i j hi hj h => by have hi : i < 18 := hi; have hj : j < 18 := hj; omega) ?mono ?dst ?gu ?ng ?skip ?step ?done
                  case mono =>
                    intro i W W' v h hbw
                    match i, h with
                    | 0, h | 1, h | 2, h | 3, h | 4, h | 5, h | 6, h | 7, h | 8, h | 9, h | 10, h | 11, h | 12, h | 13, h | 14, h | 15, h | 16, h | 17, h => exact h
                    | n + 18, h => exact h.elim
                  case dst =>
                    intro i o ho
                    match i, ho with
                    | 0, ho | 1, ho | 2, ho | 3, ho | 4, ho | 5, ho | 6, ho | 7, ho | 8, ho | 9, ho | 10, ho | 11, ho | 12, ho | 13, ho | 14, ho | 15, ho | 16, ho | 17, ho => cases ho; rfl
                    | n + 18, ho => exact absurd ho (by simp)
                  case gu =>
                    intro i o g b ho hgd W v hv
                    match i, ho with
                    | 0, ho => cases ho; cases hgd
                    | 1, ho => cases ho; cases hgd
                    | 2, ho => cases ho; cases hgd
                    | 3, ho => cases ho; cases hgd
                    | 4, ho => cases ho; cases hgd
                    | 5, ho => cases ho; cases hgd; exact hv
                    | 6, ho => cases ho; cases hgd; exact hv
                    | 7, ho => cases ho; cases hgd; exact hv
                    | 8, ho => cases ho; cases hgd; exact hv
                    | 9, ho => cases ho; cases hgd; exact hv
                    | 10, ho => cases ho; cases hgd; exact hv
                    | 11, ho => cases ho; cases hgd
                    | 12, ho => cases ho; cases hgd
                    | 13, ho => cases ho; cases hgd; exact hv
                    | 14, ho => cases ho; cases hgd; exact hv
                    | 15, ho => cases ho; cases hgd; exact hv
                    | 16, ho => cases ho; cases hgd; exact hv
                    | 17, ho => cases ho; cases hgd
                    | n + 18, ho => exact absurd ho (by simp)
                  case ng =>
                    intro i o ho hgd
                    match i, ho with
                    | 0, ho => cases ho; first | rfl | cases hgd
                    | 1, ho => cases ho; first | rfl | cases hgd
                    | 2, ho => cases ho; first | rfl | cases hgd
                    | 3, ho => cases ho; first | rfl | cases hgd
                    | 4, ho => cases ho; first | rfl | cases hgd
                    | 5, ho => cases ho; first | rfl | cases hgd
                    | 6, ho => cases ho; first | rfl | cases hgd
                    | 7, ho => cases ho; first | rfl | cases hgd
                    | 8, ho => cases ho; first | rfl | cases hgd
                    | 9, ho => cases ho; first | rfl | cases hgd
                    | 10, ho => cases ho; first | rfl | cases hgd
                    | 11, ho => cases ho; first | rfl | cases hgd
                    | 12, ho => cases ho; first | rfl | cases hgd
                    | 13, ho => cases ho; first | rfl | cases hgd
                    | 14, ho => cases ho; first | rfl | cases hgd
                    | 15, ho => cases ho; first | rfl | cases hgd
                    | 16, ho => cases ho; first | rfl | cases hgd
                    | 17, ho => cases ho; first | rfl | cases hgd
                    | n + 18, ho => exact absurd ho (by simp)
                  case skip =>
                    intro i W hi hsel
                    match i, hi, hsel with
                    | 0, _, hsel => first | exact absurd hsel (by decide) | rfl
                    | 1, _, hsel => first | exact absurd hsel (by decide) | rfl
                    | 2, _, hsel => first | exact absurd hsel (by decide) | rfl
                    | 3, _, hsel => first | exact absurd hsel (by decide) | rfl
                    | 4, _, hsel => first | exact absurd hsel (by decide) | rfl
                    | 5, _, hsel => first | exact absurd hsel (by decide) | rfl
                    | 6, _, hsel => first | exact absurd hsel (by decide) | rfl
                    | 7, _, hsel => first | exact absurd hsel (by decide) | rfl
                    | 8, _, hsel => first | exact absurd hsel (by decide) | rfl
                    | 9, _, hsel => first | exact absurd hsel (by decide) | rfl
                    | 10, _, hsel => first | exact absurd hsel (by decide) | rfl
                    | 11, _, hsel => first | exact absurd hsel (by decide) | rfl
                    | 12, _, hsel => first | exact absurd hsel (by decide) | rfl
                    | 13, _, hsel => first | exact absurd hsel (by decide) | rfl
                    | 14, _, hsel => first | exact absurd hsel (by decide) | rfl
                    | 15, _, hsel => first | exact absurd hsel (by decide) | rfl
                    | 16, _, hsel => first | exact absurd hsel (by decide) | rfl
                    | 17, _, hsel => first | exact absurd hsel (by decide) | rfl
                    | n + 18, hi, _ => exact absurd hi (by simp)
                  case step =>
                    intro f a' W i o ho hsel hpre hbel hrest
                    match i, ho, hsel with
                    | 0, ho, _ =>
                      cases ho
                      have q4 : a'.tmps.getD 4 undef = .pointer (some ⟨C, 0, none⟩) := (hrest 4 (by intro i hi; have hi : i < 18 := hi; show 40 + min i 17 ≠ _; omega))
                      have e4 := rg_ev q4
                      exact rg_same (.pointer (some ⟨C, 0, none⟩)) (by unfold Oper.wp execOp; go_simp; all_goals ((try simp only [e4]); (try go_simp); (try rw [if_pos (by omega)]); (try rw [if_neg (by omega)]); first | done | rfl | exact ⟨rfl, rfl⟩ | trivial)) rfl
                    | 1, ho, _ =>
                      cases ho
                      have q40 : a'.tmps.getD 40 undef = .pointer (some ⟨C, 0, none⟩) := (hpre { on := 0, ground := .data } (by simp) rfl)
                      have ce := HCE.out W hbel
                      have c0 := ce.1
                      have c1 := ce.2
                      have e40 := rg_ev q40
                      exact rg_same (.string nb) (by unfold Oper.wp execOp; go_simp; all_goals ((try simp only [e40]); (try go_simp); (try rw [if_pos (by omega)]); (try rw [if_neg (by omega)]); first | done | rfl | exact ⟨rfl, rfl⟩ | trivial)) rfl
                    | 2, ho, _ =>
                      cases ho
                      have q41 : a'.tmps.getD 41 undef = .string nb := (hpre { on := 1, ground := .data } (by simp) rfl)
                      exact rg_call 41 44 _ _ _ rfl q41 (enters_of Tryz.func44 (by kernel_rfl) rfl) (KT.out W) (fun e w' h => ⟨_, h.1, _, rfl, rfl, by rw [h.2]; exact Below.refl _ _⟩)
                    | 3, ho, _ =>
                      cases ho
                      have q42 : a'.tmps.getD 42 undef = .bool true := (hpre { on := 2, ground := .data } (by simp) rfl)
                      have e42 := rg_ev q42
                      exact rg_same (.bool false) (by unfold Oper.wp execOp; go_simp; all_goals ((try simp only [e42]); (try go_simp); (try rw [if_pos (by omega)]); (try rw [if_neg (by omega)]); first | done | rfl | exact ⟨rfl, rfl⟩ | trivial)) rfl
                    | 4, ho, _ =>
                      cases ho
                      have q43 : a'.tmps.getD 43 undef = .bool false := (hpre { on := 3, ground := .data } (by simp) rfl)
                      have e43 := rg_ev q43
                      exact rg_same (.bool false) (by unfold Oper.wp execOp; go_simp; all_goals ((try simp only [e43]); (try go_simp); (try rw [if_pos (by omega)]); (try rw [if_neg (by omega)]); first | done | rfl | exact ⟨rfl, rfl⟩ | trivial)) rfl
                    | 5, ho, _ =>
                      cases ho
                      have q4 : a'.tmps.getD 4 undef = .pointer (some ⟨C, 0, none⟩) := (hrest 4 (by intro i hi; have hi : i < 18 := hi; show 40 + min i 17 ≠ _; omega))
                      have e4 := rg_ev q4
                      exact rg_same (.pointer (some ⟨C, 0, none⟩)) (by unfold Oper.wp execOp; go_simp; all_goals ((try simp only [e4]); (try go_simp); (try rw [if_pos (by omega)]); (try rw [if_neg (by omega)]); first | done | rfl | exact ⟨rfl, rfl⟩ | trivial)) rfl
                    | 6, ho, _ =>
                      cases ho
                      have q45 : a'.tmps.getD 45 undef = .pointer (some ⟨C, 0, none⟩) := (hpre { on := 5, ground := .data } (by simp) rfl)
                      have ce := HCE.out W hbel
                      have c0 := ce.1
                      have c1 := ce.2
                      have e45 := rg_ev q45
                      exact rg_same (.string nb) (by unfold Oper.wp execOp; go_simp; all_goals ((try simp only [e45]); (try go_simp); (try rw [if_pos (by omega)]); (try rw [if_neg (by omega)]); first | done | rfl | exact ⟨rfl, rfl⟩ | trivial)) rfl
                    | 7, ho, _ =>
                      cases ho
                      have q46 : a'.tmps.getD 46 undef = .string nb := (hpre { on := 6, ground := .data } (by simp) rfl)
                      exact rg_call 46 24 _ _ _ rfl q46 (enters_of Tryz.func24 (by kernel_rfl) rfl) (KL.out W) (fun e w' h => ⟨_, h.1, _, rfl, rfl, h.2⟩)
                    | 8, ho, _ =>
                      cases ho
                      have q4 : a'.tmps.getD 4 undef = .pointer (some ⟨C, 0, none⟩) := (hrest 4 (by intro i hi; have hi : i < 18 := hi; show 40 + min i 17 ≠ _; omega))
                      have e4 := rg_ev q4
                      exact rg_same (.pointer (some ⟨C, 0, none⟩)) (by unfold Oper.wp execOp; go_simp; all_goals ((try simp only [e4]); (try go_simp); (try rw [if_pos (by omega)]); (try rw [if_neg (by omega)]); first | done | rfl | exact ⟨rfl, rfl⟩ | trivial)) rfl
                    | 9, ho, _ =>
                      cases ho
                      have q48 : a'.tmps.getD 48 undef = .pointer (some ⟨C, 0, none⟩) := (hpre { on := 8, ground := .data } (by simp) rfl)
                      have ce := HCE.out W hbel
                      have c0 := ce.1
                      have c1 := ce.2
                      have e48 := rg_ev q48
                      exact rg_same (.string nb) (by unfold Oper.wp execOp; go_simp; all_goals ((try simp only [e48]); (try go_simp); (try rw [if_pos (by omega)]); (try rw [if_neg (by omega)]); first | done | rfl | exact ⟨rfl, rfl⟩ | trivial)) rfl
                    | 10, ho, _ =>
                      cases ho
                      have q47 : a'.tmps.getD 47 undef = .string lb := (hpre { on := 7, ground := .data } (by simp) rfl)
                      have q49 : a'.tmps.getD 49 undef = .string nb := (hpre { on := 9, ground := .data } (by simp) rfl)
                      have e47 := rg_ev q47
                      have e49 := rg_ev q49
                      exact rg_same (.bool false) (by unfold Oper.wp execOp; go_simp; all_goals ((try simp only [e47, e49]); (try go_simp); (try rw [if_pos (by omega)]); (try rw [if_neg (by omega)]); first | done | rfl | exact ⟨rfl, rfl⟩ | trivial)) rfl
                    | 11, ho, _ =>
                      cases ho
                      have q44 : a'.tmps.getD 44 undef = .bool false := (hpre { on := 4, ground := .data } (by simp) rfl)
                      have q50 : a'.tmps.getD 50 undef = .bool false := (hpre { on := 10, ground := .data } (by simp) rfl)
                      have e44 := rg_ev q44
                      have e50 := rg_ev q50
                      exact rg_same (.bool false) (by unfold Oper.wp execOp; go_simp; all_goals ((try simp only [e44, e50]); (try go_simp); (try rw [if_pos (by omega)]); (try rw [if_neg (by omega)]); first | done | rfl | exact ⟨rfl, rfl⟩ | trivial)) rfl
                    | 12, ho, _ =>
                      cases ho
                      have q51 : a'.tmps.getD 51 undef = .bool false := (hpre { on := 11, ground := .data } (by simp) rfl)
                      have e51 := rg_ev q51
                      exact rg_same (.bool false) (by unfold Oper.wp execOp; go_simp; all_goals ((try simp only [e51]); (try go_simp); (try rw [if_pos (by omega)]); (try rw [if_neg (by omega)]); first | done | rfl | exact ⟨rfl, rfl⟩ | trivial)) rfl
                    | 13, ho, _ =>
                      cases ho
                      have q4 : a'.tmps.getD 4 undef = .pointer (some ⟨C, 0, none⟩) := (hrest 4 (by intro i hi; have hi : i < 18 := hi; show 40 + min i 17 ≠ _; omega))
                      have e4 := rg_ev q4
                      exact rg_same (.pointer (some ⟨C, 1, none⟩)) (by unfold Oper.wp execOp; go_simp; all_goals ((try simp only [e4]); (try go_simp); (try rw [if_pos (by omega)]); (try rw [if_neg (by omega)]); first | done | rfl | exact ⟨rfl, rfl⟩ | trivial)) rfl
                    | 14, ho, _ =>
                      cases ho
                      have q53 : a'.tmps.getD 53 undef = .pointer (some ⟨C, 1, none⟩) := (hpre { on := 13, ground := .data } (by simp) rfl)
                      have ce := HCE.out W hbel
                      have c0 := ce.1
                      have c1 := ce.2
                      have e53 := rg_ev q53
                      exact rg_same (.string vb) (by unfold Oper.wp execOp; go_simp; all_goals ((try simp only [e53]); (try go_simp); (try rw [if_pos (by omega)]); (try rw [if_neg (by omega)]); first | done | rfl | exact ⟨rfl, rfl⟩ | trivial)) rfl
                    | 15, ho, _ =>
                      cases ho
                      have q54 : a'.tmps.getD 54 undef = .string vb := (hpre { on := 14, ground := .data } (by simp) rfl)
                      exact rg_call 54 43 _ _ _ rfl q54 (enters_of Tryz.func43 (by kernel_rfl) rfl) (KV.out W) (fun e w' h => ⟨_, h.1, _, rfl, rfl, by rw [h.2]; exact Below.refl _ _⟩)
                    | 16, ho, _ =>
                      cases ho
                      have q55 : a'.tmps.getD 55 undef = .bool q3 := (hpre { on := 15, ground := .data } (by simp) rfl)
                      have e55 := rg_ev q55
                      exact rg_same (.bool (!q3)) (by unfold Oper.wp execOp; go_simp; all_goals ((try simp only [e55]); (try go_simp); (try rw [if_pos (by omega)]); (try rw [if_neg (by omega)]); first | done | rfl | exact ⟨rfl, rfl⟩ | trivial)) rfl
                    | 17, ho, _ =>
                      cases ho
                      have q52 : a'.tmps.getD 52 undef = .bool false := (hpre { on := 12, ground := .data } (by simp) rfl)
                      have q56 : a'.tmps.getD 56 undef = .bool (!q3) := (hpre { on := 16, ground := .data } (by simp) rfl)
                      have e52 := rg_ev q52
                      have e56 := rg_ev q56
                      exact rg_same (.bool (!q3)) (by unfold Oper.wp execOp; go_simp; all_goals ((try simp only [e52, e56]); (try go_simp); (try rw [if_pos (by omega)]); (try rw [if_neg (by omega)]); first | done | rfl | exact ⟨rfl, rfl⟩ | trivial)) rfl
                    | n + 18, ho, _ => exact absurd ho (by simp)
                  case done =>
                    intro vs W hbel hvs
                    have v0 : vs 0 = .pointer (some ⟨C, 0, none⟩) := hvs 0 (by decide)
                    have v1 : vs 1 = .string nb := hvs 1 (by decide)
                    have v2 : vs 2 = .bool true := hvs 2 (by decide)
                    have v3 : vs 3 = .bool false := hvs 3 (by decide)
                    have v4 : vs 4 = .bool false := hvs 4 (by decide)
                    have v5 : vs 5 = .pointer (some ⟨C, 0, none⟩) := hvs 5 (by decide)
                    have v6 : vs 6 = .string nb := hvs 6 (by decide)
                    have v7 : vs 7 = .string lb := hvs 7 (by decide)
                    have v8 : vs 8 = .pointer (some ⟨C, 0, none⟩) := hvs 8 (by decide)
                    have v9 : vs 9 = .string nb := hvs 9 (by decide)
                    have v10 : vs 10 = .bool false := hvs 10 (by decide)
                    have v11 : vs 11 = .bool false := hvs 11 (by decide)
                    have v12 : vs 12 = .bool false := hvs 12 (by decide)
                    have v13 : vs 13 = .pointer (some ⟨C, 1, none⟩) := hvs 13 (by decide)
                    have v14 : vs 14 = .string vb := hvs 14 (by decide)
                    have v15 : vs 15 = .bool q3 := hvs 15 (by decide)
                    have v16 : vs 16 = .bool (!q3) := hvs 16 (by decide)
                    have v17 : vs 17 = .bool (!q3) := hvs 17 (by decide)
                    have HBR := Lib.hid hbel
                    simp only [fillN, List.size_toArray, List.length_cons, List.length_nil, Nat.reduceAdd, show List.range 18 = [0, 1, 2, 3, 4, 5, 6, 7, 8, 9, 10, 11, 12, 13, 14, 15, 16, 17] from rfl, List.foldl_cons, List.foldl_nil, show 40 + min 0 17 = 40 from rfl, show 40 + min 1 17 = 41 from rfl, show 40 + min 2 17 = 42 from rfl, show 40 + min 3 17 = 43 from rfl, show 40 + min 4 17 = 44 from rfl, show 40 + min 5 17 = 45 from rfl, show 40 + min 6 17 = 46 from rfl, show 40 + min 7 17 = 47 from rfl, show 40 + min 8 17 = 48 from rfl, show 40 + min 9 17 = 49 from rfl, show 40 + min 10 17 = 50 from rfl, show 40 + min 11 17 = 51 from rfl, show 40 + min 12 17 = 52 from rfl, show 40 + min 13 17 = 53 from rfl, show 40 + min 14 17 = 54 from rfl, show 40 + min 15 17 = 55 from rfl, show 40 + min 16 17 = 56 from rfl, show 40 + min 17 17 = 57 from rfl, v0, v1, v2, v3, v4, v5, v6, v7, v8, v9, v10, v11, v12, v13, v14, v15, v16, v17]
                    clear v0 v1 v2 v3 v4 v5 v6 v7 v8 v9 v10 v11 v12 v13 v14 v15 v16 v17 hvs hbel
                    go_simp
                    cases q3
                    · go_wp2_with fail
                      go_ret
                      refine ⟨?_, ?_⟩
                      · rw [HO2.out, Bool.true_and, show fs.all Hr.fldB = false from List.all_eq_false.2 ⟨_, HMM.out, by rw [HFB2.out]; simp⟩]; rfl
                      · first | exact HB0.out.trans (HBR.out.mono HZ.out) | (rw [HHH.out]; exact HB0.out.trans (HBR.out.mono HZ.out))
                    · go_wp2_with fail
                      go_roundw
                      case rel =>
                        refine ⟨k + 1, hlt, by go_num, ?_, (HBR.out.block _ (Array.getElem?_eq_some_iff.1 HG.out).1).trans HG.out, HB0.out.trans (HBR.out.mono HZ.out)⟩
                        rw [HTK.out, List.all_append, HALL.out, List.all_cons, HFB2.out]; rfl
                      case measure => simp [intOf]; omega
            · obtain rfl : k = N := by omega
              go_wp2_with fail
              go_ret
              refine ⟨?_, ?_⟩
              · have h := HALL.out
                rw [List.take_of_length_le (by rw [HNN.out]; omega)] at h
                rw [HO2.out, h]; rfl
              · first | exact HBL.out | (rw [HHH.out]; exact HBL.out)
end Go.Proofs.YtheaichiglfmjaaGreatDoor

/- response, plain: a reply's head, looked at, tells that reply. No program in sight. -/
namespace Go.Proofs.YtheaichiglfmjaaGreatDoor
set_option linter.unusedVariables false
set_option linter.unusedSimpArgs false
open Go.RowKit Go.Shelf
set_option maxHeartbeats 4000000
set_option maxRecDepth 100000
namespace Rs
theorem digs3 {n : Nat} (h1 : 100 ≤ n) (h2 : n ≤ 999) : Dp.digs 10 n = [Dp.dg (n / 100), Dp.dg (n / 10 % 10), Dp.dg (n % 10)] := by
  rw [Dp.digs_ge (by omega) (by omega), Dp.digs_ge (by omega) (by omega), Dp.digs_lt (by omega), Nat.div_div_eq_div_mul]
  rfl
theorem status3 : ∀ i : Fin 500, status (Hp.http ++ [Dp.dg ((i.val + 100) / 100), Dp.dg ((i.val + 100) / 10 % 10), Dp.dg ((i.val + 100) % 10)] ++ [32, 120]) = some ((i.val + 100 : Nat) : Int) := by decide +kernel
theorem status_line (n : Nat) (ev ck sz : Bool) (l : Int) (h1 : 100 ≤ n) (h2 : n ≤ 599) : status (line ((n : Int), ev, ck, sz, l)) = some (n : Int) := by
  have h := status3 ⟨n - 100, by omega⟩
  simp only [show n - 100 + 100 = n by omega] at h
  unfold line
  show status (Hp.http ++ Dp.digs 10 n ++ [32, 120]) = _
  rw [digs3 h1 (by omega)]
  exact h
theorem vals_ct (n : Int) (ev ck sz : Bool) (l : Int) : Hg.vals Hp.ct (flds (n, ev, ck, sz, l)) = if ev then [Hp.es] else [] := by
  cases ev <;> cases ck <;> cases sz <;> rfl
theorem vals_te (n : Int) (ev ck sz : Bool) (l : Int) : Hg.vals Hp.te (flds (n, ev, ck, sz, l)) = if ck then [Hp.ch] else [] := by
  cases ev <;> cases ck <;> cases sz <;> rfl
theorem vals_cl (n : Int) (ev ck sz : Bool) (l : Int) : Hg.vals Hp.cl (flds (n, ev, ck, sz, l)) = if sz then [Dp.digs 10 l.toNat] else [] := by
  cases ev <;> cases ck <;> cases sz <;> rfl
theorem es_cut : (Tp.lower (Tp.cut Hp.es 59).1 == Hp.es) = true := by decide +kernel
theorem ch_items : Tp.items Hp.ch = [Hp.ch] := by decide +kernel
theorem ch_lower : Tp.lower Hp.ch = Hp.ch := by decide +kernel
theorem of_head (n ln : Nat) (ev ck sz : Bool) (hl : ln < 18446744073709551616) (hok : okR ((n : Int), ev, ck, sz, (ln : Int))) : of (line ((n : Int), ev, ck, sz, (ln : Int))) (flds ((n : Int), ev, ck, sz, (ln : Int))) = some ((n : Int), ev, ck, sz, (ln : Int)) := by
  obtain ⟨⟨h1, h2⟩, h3, h4⟩ := hok
  simp only at h1 h2 h3 h4
  unfold of
  rw [status_line n ev ck sz _ (by omega) (by omega)]
  show ofK (n : Int) _ = _
  have hev : isEv (flds ((n : Int), ev, ck, sz, (ln : Int))) = ev := by
    unfold isEv joined
    rw [vals_ct]
    cases ev with
    | false => rfl
    | true => simp only [if_true, List.length_singleton, Lib.join_one, es_cut]; rfl
  obtain ⟨g1, g2⟩ := Dp.num_digs (b := 10) (by omega) (by omega) ln hl
  unfold ofK
  rw [hev]
  unfold joined
  rw [vals_te, vals_cl]
  cases ck with
  | true =>
    cases sz with
    | true => exact absurd ⟨rfl, rfl⟩ h3
    | false =>
      have h0 : ln = 0 := by
        rcases Nat.eq_zero_or_pos ln with h | h
        · exact h
        · exact absurd ⟨by omega, rfl⟩ h4
      subst h0
      simp [Lib.join_one, ch_items, ch_lower]
  | false =>
    cases sz with
    | true => simp [Lib.join_one]; exact ⟨g2, g1⟩
    | false =>
      have h0 : ln = 0 := by
        rcases Nat.eq_zero_or_pos ln with h | h
        · exact h
        · exact absurd ⟨by omega, rfl⟩ h4
      subst h0
      simp
end Rs
end Go.Proofs.YtheaichiglfmjaaGreatDoor

/- ResponseHolds returns true for any reply: the walk. The tables of the library, and its cell of a bound, read as they are laid. -/
namespace Go.Proofs.YtheaichiglfmjaaGreatDoor
set_option linter.unusedVariables false
set_option linter.unusedSimpArgs false
open Go.RowKit Go.Shelf
set_option maxHeartbeats 8000000
set_option maxRecDepth 100000
theorem rep_eq (st : Int) (ev ck sz : Bool) (ln : Int) (W : World) : (binOp .eql 31 (.agg #[.int .i64 st, .bool ev, .bool ck, .bool sz, .int .u64 ln]) (.agg #[.int .i64 st, .bool ev, .bool ck, .bool sz, .int .u64 ln])).run Tryz.prog W = .ok (.bool true) W := by
  have hS : Tryz.prog.underlying 31 = some (.struct (Tryz.prog.fieldsOf 31)) := by kernel_rfl
  have hp : Tryz.prog.stoodInHeld 31 = false := by kernel_rfl
  have u3 := Tryz.underlying3
  have u4 := Tryz.underlying4
  have u9 := Tryz.underlying29
  rw [run_eql_struct, show (10000 : Nat) = 9999 + 1 from rfl, run_equalIn_agg W 9999 31 _ _ hS hp]
  simp only [Program.fieldsOf, Tryz.underlying31]
  go_simp
theorem okR_line (n ln : Nat) (ev ck sz : Bool) (h : n ≤ 599) (hl : ln < 18446744073709551616) : (Rs.line ((n : Int), ev, ck, sz, (ln : Int))).length ≤ 100 ∧ (∀ f ∈ Rs.flds ((n : Int), ev, ck, sz, (ln : Int)), f.1.length ≤ 100 ∧ f.2.length ≤ 100) ∧
    (Rs.joined Hp.ct (Rs.flds ((n : Int), ev, ck, sz, (ln : Int)))).length ≤ 500 ∧ (Rs.joined Hp.te (Rs.flds ((n : Int), ev, ck, sz, (ln : Int)))).length ≤ 500 ∧ (Rs.joined Hp.cl (Rs.flds ((n : Int), ev, ck, sz, (ln : Int)))).length ≤ 500 := by
  have d1 := Dp.digs_length_le (b := 10) (by omega) 20 n (by omega) (by omega)
  have d2 := Dp.digs_length_le (b := 10) (by omega) 20 ln (by omega) (by omega)
  refine ⟨?_, fun f hf => ?_, ?_, ?_, ?_⟩
  · unfold Rs.line
    simp only [List.length_append, Int.toNat_natCast]
    have : Hp.http.length = 9 := rfl
    have : ([32, 120] : List UInt8).length = 2 := rfl
    omega
  · unfold Rs.flds at hf
    rcases List.mem_append.1 hf with hf | hf
    · rcases List.mem_append.1 hf with hf | hf
      · cases ev
        · cases hf
        · rw [if_pos rfl, List.mem_singleton] at hf; subst hf; decide
      · cases ck
        · cases hf
        · rw [if_pos rfl, List.mem_singleton] at hf; subst hf; decide
    · cases sz
      · cases hf
      · rw [if_pos rfl, List.mem_singleton] at hf
        subst hf
        exact ⟨by show Hp.cl.length ≤ 100; decide, Nat.le_trans (show (Dp.digs 10 ln).length ≤ 20 from d2) (by omega)⟩
  · unfold Rs.joined
    rw [Rs.vals_ct]
    cases ev <;> decide
  · unfold Rs.joined
    rw [Rs.vals_te]
    cases ck <;> decide
  · unfold Rs.joined
    rw [Rs.vals_cl]
    cases sz
    · exact Nat.zero_le _
    · rw [if_pos rfl, Lib.join_one]
      exact Nat.le_trans (show (Dp.digs 10 ln).length ≤ 20 from d2) (by omega)
theorem what_ev (st : Int) (ev ck sz : Bool) (ln : Int) (h : 100 ≤ st ∧ st ≤ 599) : (Rs.what (st, ev, ck, sz, ln) == 1) = (decide (st = 200) && ev) := by
  unfold Rs.what
  rw [if_pos h]
  by_cases h2 : st = 200
  · cases ev
    · simp [h2]
    · simp [h2]
  · have h3 : ¬ (st = 200 ∧ ev = true) := fun h => h2 h.1
    rw [if_neg h3, decide_eq_false h2, Bool.false_and]
    split <;> rfl
def RepAt (W : World) (E : Nat) (m : Int) (ev ck sz : Bool) (ln : Nat) : Prop := W.cell? ⟨E, 0, none⟩ = some (.int .i64 m) ∧ W.cell? ⟨E, 1, none⟩ = some (.bool ev) ∧ W.cell? ⟨E, 2, none⟩ = some (.bool ck) ∧ W.cell? ⟨E, 3, none⟩ = some (.bool sz) ∧ W.cell? ⟨E, 4, none⟩ = some (.int .u64 (ln : Int))
theorem rg_call0 {P : Program} {o : Oper} {a : Act} {w : World} {K : Act → World → Prop} {Q : Exit → Act → World → Prop} (k : Nat) (ty : Array TypeId) (R : Ending → World → Prop) (ho : o.op = Op.call { callee := .value (.func k), args := #[], argTypes := ty })
    (eg : ∀ args w, (callFunc k args).run P w = .ok (.enter k args) w) (hc : Calls P k #[] w R) (hR : ∀ e w', R e w' → ∃ r, e = .returned r ∧ K (a.put o.dst r) w') : o.wp P a w K Q := by
  have e2 : a.eval (.func k) = .func (.func k) #[] #[] := rfl
  unfold Oper.wp execOp
  simp [ho, resolve, invoke, e2, eg, go_sem]
  refine hc.mono ?_
  intro z w' hz
  obtain ⟨r, rfl, hk⟩ := hR z w' hz
  exact hk
def hoA (A N c1 : Nat) (p1 : Option Addr) (fb : ByteArray) (m wv : Int) (ev ck sz : Bool) (ln : Nat) : Nat → World → Value → Prop
  | 0, _, v => v = .int .i64 0
  | 1, _, v => v = .int .i64 0
  | 2, _, v => v = .bool true
  | 3, _, v => v = .bool true
  | 4, _, v => v = .agg #[.int .i64 m, .bool ev, .bool ck, .bool sz, .int .u64 (ln : Int)]
  | 5, _, v => v = .agg #[.int .i64 m, .bool ev, .bool ck, .bool sz, .int .u64 (ln : Int)]
  | 6, _, v => v = .bool true
  | 7, _, v => v = .bool true
  | 8, _, v => v = .bool true
  | 9, _, v => v = .agg #[.string fb, .slice p1 N c1]
  | 10, _, v => v = .bool true
  | 11, _, v => v = .bool true
  | 12, _, v => v = .bool true
  | 13, _, v => v = .agg #[.int .i64 m, .bool ev, .bool ck, .bool sz, .int .u64 (ln : Int)]
  | 14, _, v => v = .int .i64 wv
  | 15, _, v => v = .bool ev
  | 16, _, v => v = .pointer (some ⟨A, 0, none⟩)
  | 17, _, v => v = .int .i64 m
  | 18, _, v => v = .bool true
  | 19, _, v => v = .bool true
  | 20, _, v => v = .pointer (some ⟨A, 1, none⟩)
  | 21, _, v => v = .bool ev
  | 22, _, v => v = .bool ev
  | 23, _, v => v = .bool true
  | 24, _, v => v = .bool true
  | 25, _, v => v = .bool true
  | 26, _, v => v = .bool true
  | 27, _, v => v = .bool true
  | 28, _, v => v = .bool true
  | _, _, _ => False
def hoB (A N c1 : Nat) (p1 : Option Addr) (fb : ByteArray) (m wv : Int) (ev ck sz : Bool) (ln : Nat) : Nat → World → Value → Prop
  | 0, _, v => v = .int .i64 0
  | 1, _, v => v = .int .i64 0
  | 2, _, v => v = .bool true
  | 3, _, v => v = .bool true
  | 4, _, v => v = .agg #[.int .i64 m, .bool ev, .bool ck, .bool sz, .int .u64 (ln : Int)]
  | 5, _, v => v = .agg #[.int .i64 m, .bool ev, .bool ck, .bool sz, .int .u64 (ln : Int)]
  | 6, _, v => v = .bool true
  | 7, _, v => v = .bool true
  | 8, _, v => v = .bool true
  | 9, _, v => v = .agg #[.string fb, .slice p1 N c1]
  | 10, _, v => v = .bool true
  | 11, _, v => v = .bool true
  | 12, _, v => v = .bool true
  | 13, _, v => v = .agg #[.int .i64 m, .bool ev, .bool ck, .bool sz, .int .u64 (ln : Int)]
  | 14, _, v => v = .int .i64 wv
  | 15, _, v => v = .bool false
  | 16, _, v => v = .pointer (some ⟨A, 0, none⟩)
  | 17, _, v => v = .int .i64 m
  | 18, _, v => v = .bool false
  | 19, _, v => v = .bool false
  | 20, _, v => v = undef
  | 21, _, v => v = undef
  | 22, _, v => v = .bool false
  | 23, _, v => v = .bool true
  | 24, _, v => v = .bool true
  | 25, _, v => v = .bool true
  | 26, _, v => v = .bool true
  | 27, _, v => v = .bool true
  | 28, _, v => v = .bool true
  | _, _, _ => False
theorem walkHO (st : Int) (ev ck sz : Bool) (ln : Nat) (w : World) (hst : -9223372036854775808 ≤ st ∧ st ≤ 9223372036854775807) (hln : ln < 18446744073709551616) (hk : KX w) :
    Calls Tryz.prog 4 #[repV (st, ev, ck, sz, (ln : Int))] w fun e w' => e = .returned (.bool true) ∧ Below w.heap.size w w' := by
  have HK := Lib.hid hk
  have HST := Lib.hid hst
  have HLN := Lib.hid hln
  have KN := Lib.hid rs_num
  have KW := Lib.hid rs_works
  clear hk hst hln
  obtain ⟨W1, hW1⟩ : ∃ z, w.alloc (repC (st, ev, ck, sz, (ln : Int))) = z := ⟨_, rfl⟩
  obtain ⟨A, hA⟩ : ∃ z, w.heap.size = z := ⟨_, rfl⟩
  have HB := Lib.hid (show Below w.heap.size w W1 by rw [← hW1]; exact (Below.refl _ _).alloc (Nat.le_refl _) _)
  have HR := Lib.hid (show W1.heap[A]? = some (repC (st, ev, ck, sz, (ln : Int))) by rw [← hW1, ← hA]; exact World.alloc_heap_new _ _)
  have HW1 := Lib.hid hW1
  have HA := Lib.hid hA
  unfold repC at HW1
  clear hW1 hA
  have K1 := Lib.hid (fun W (h : Tabs W) => rs_Head st ev ck sz ln W HST.out HLN.out h)
  by_cases hok : Rs.okR (st, ev, ck, sz, (ln : Int))
  · have hok2 := hok
    obtain ⟨⟨h1, h2⟩, h3, h4⟩ := hok2
    simp only at h1 h2
    have HOK := Lib.hid hok
    clear hok h3 h4
    obtain ⟨n, rfl⟩ : ∃ n : Nat, st = (n : Int) := ⟨st.toNat, by omega⟩
    have HOF := Lib.hid (Rs.of_head n ln ev ck sz HLN.out HOK.out)
    have HSML := Lib.hid (okR_line n ln ev ck sz (by omega) HLN.out)
    have HHK := Lib.hid (Rs.hok_head n ln ev ck sz)
    have HWE := Lib.hid (what_ev n ev ck sz ln ⟨h1, h2⟩)
    have HHD := Lib.hid (show Rs.head ((n : Int), ev, ck, sz, (ln : Int)) = some (Rs.line ((n : Int), ev, ck, sz, (ln : Int)), Rs.flds ((n : Int), ev, ck, sz, (ln : Int))) by unfold Rs.head; rw [if_pos HOK.out])
    have HFW := Lib.hid (head_few ((n : Int), ev, ck, sz, (ln : Int)))
    rw [HHD.out] at K1 HFW
    simp only [Option.getD_some] at HFW
    obtain ⟨F, hF⟩ : ∃ z, Rs.line ((n : Int), ev, ck, sz, (ln : Int)) = z := ⟨_, rfl⟩
    obtain ⟨fs, hfs⟩ : ∃ z, Rs.flds ((n : Int), ev, ck, sz, (ln : Int)) = z := ⟨_, rfl⟩
    rw [hF] at K1 HOF HSML HHK
    rw [hfs] at K1 HOF HSML HHK HFW
    obtain ⟨m, hm⟩ : ∃ m, (n : Int) = m := ⟨_, rfl⟩
    rw [hm] at K1 HOF HWE HR h1 h2 HW1 ⊢
    clear hF hfs HHD HOK hm
    obtain ⟨fb, hfb⟩ : ∃ z : ByteArray, (⟨F.toArray⟩ : ByteArray) = z := ⟨_, rfl⟩
    have HSX := Lib.hid (show Hp.sx F = .string fb by rw [← hfb]; rfl)
    clear hfb
    obtain ⟨a0, a1, a2, a3, a4⟩ := rep_cell HR.out
    unfold repV at K1 ⊢
    go_enter Tryz.func4, Tryz.ntmps4
    go_upto_region 1 with (fail)
    simp only at HW1
    rw [HA.out, HW1.out]
    go_wp2_with fail
    refine (K1.out W1 (HK.out.below HB.out).tabs).mono ?_
    rintro e w2 ⟨⟨v, rfl, hv⟩, hb⟩
    have HR := Lib.hid (rep_load HR.out hb)
    have HB := Lib.hid (HB.out.trans (hb.mono HB.out.size))
    have HV1 := Lib.hid hv
    clear hb hv a0 a1 a2 a3 a4
    obtain ⟨p1, c1, rfl⟩ := HV1.out.slice
    obtain ⟨N, hn⟩ : ∃ n, fs.length = n := ⟨_, rfl⟩
    have HN := Lib.hid hn
    rw [hn] at HV1 ⊢
    rw [HSX.out]
    clear hn
    go_upto_region 2 with (fail)
    obtain ⟨D, hD⟩ : ∃ z, w2.heap.size = z := ⟨_, rfl⟩
    obtain ⟨w3, hw3⟩ : ∃ z, w2.alloc (.cells #[.string fb, .slice p1 N c1] 28) = z := ⟨_, rfl⟩
    have hb : Below w2.heap.size w2 w3 := by rw [← hw3]; exact (Below.refl _ _).alloc (Nat.le_refl _) _
    have HD := Lib.hid (show w3.heap[D]? = some (.cells #[.string fb, .slice p1 N c1] 28 (0, 0)) by rw [← hw3, ← hD]; exact World.alloc_heap_new _ _)
    rw [hD, hw3]
    have HV1 := Lib.hid (HV1.out.below hb)
    have HR := Lib.hid (rep_load HR.out hb)
    have HB := Lib.hid (HB.out.trans (hb.mono HB.out.size))
    clear hb hD hw3
    have K3 := Lib.hid (rs_Of F _ fs w3 HV1.out HHK.out (by have := HSML.out.1; omega) (by have := HFW.out; omega) (fun f hf => by have := HSML.out.2.1 f hf; omega) HSML.out.2.2 (HK.out.below HB.out).kr)
    rw [HOF.out, HSX.out] at K3
    unfold ofOut repV at K3
    go_wp2_with fail
    refine (KN.out _ _).mono ?_
    rintro e w' ⟨rfl, hw⟩
    subst w'
    have d0 : w3.cell? ⟨D, 0, none⟩ = some (.string fb) := by simp [World.cell?, HD.out]
    have d1 : w3.cell? ⟨D, 1, none⟩ = some (.slice p1 N c1) := by simp [World.cell?, HD.out]
    go_wp2_with fail
    refine K3.out.mono ?_
    rintro e w4 ⟨rfl, hb⟩
    have HV1 := Lib.hid (HV1.out.below hb)
    have HR := Lib.hid (rep_load HR.out hb)
    have HD := Lib.hid ((hb.block _ (Array.getElem?_eq_some_iff.1 HD.out).1).trans HD.out)
    have HB := Lib.hid (HB.out.trans (hb.mono HB.out.size))
    clear hb d0 d1 K3
    simp only
    go_upto_region 5 with (fail)
    obtain ⟨E, hE⟩ : ∃ z, w4.heap.size = z := ⟨_, rfl⟩
    obtain ⟨w5, hw5⟩ : ∃ z, w4.alloc (repC (m, ev, ck, sz, (ln : Int))) = z := ⟨_, rfl⟩
    have hb : Below w4.heap.size w4 w5 := by rw [← hw5]; exact (Below.refl _ _).alloc (Nat.le_refl _) _
    have hRE : w5.heap[E]? = some (repC (m, ev, ck, sz, (ln : Int))) := by rw [← hw5, ← hE]; exact World.alloc_heap_new _ _
    have hRA := rep_load HR.out hb
    have hD5 := (hb.block _ (Array.getElem?_eq_some_iff.1 HD.out).1).trans HD.out
    have HV1 := Lib.hid (HV1.out.below hb)
    have HB := Lib.hid (HB.out.trans (hb.mono HB.out.size))
    have HCE := Lib.hid (show ∀ W, Below w5.heap.size w5 W → RepAt W E m ev ck sz ln from fun W h => rep_cell (rep_load hRE h))
    have HCA := Lib.hid (show ∀ W, Below w5.heap.size w5 W → RepAt W A m ev ck sz ln from fun W h => rep_cell (rep_load hRA h))
    have HCD := Lib.hid (show ∀ W, Below w5.heap.size w5 W → W.cell? ⟨D, 0, none⟩ = some (.string fb) ∧ W.cell? ⟨D, 1, none⟩ = some (.slice p1 N c1) from fun W h => by
      have h2 := (h.block _ (Array.getElem?_eq_some_iff.1 hD5).1).trans hD5
      constructor <;> simp [World.cell?, h2])
    have KR0 := fun W (h : Below w5.heap.size w5 W) => rf_Right F _ fs W (HV1.out.below h) (by have := HSML.out.1; omega) (by have := HFW.out; omega) (fun f hf => by have := HSML.out.2.1 f hf; omega)
    rw [Hr.okB_of HHK.out, HSX.out] at KR0
    have KRR := Lib.hid KR0
    have KWT := Lib.hid (fun W => rs_What m ev ck sz (ln : Int) W)
    obtain ⟨wv, hwv⟩ : ∃ z, Rs.what (m, ev, ck, sz, (ln : Int)) = z := ⟨_, rfl⟩
    rw [hwv] at KWT HWE
    unfold repV at KWT
    rw [hE, show w4.alloc (.cells #[.int .i64 m, .bool ev, .bool ck, .bool sz, .int .u64 (ln : Int)] 31) = w5 from hw5]
    clear hb hRE hRA hD5 hE hw5 KR0 hwv h1 h2
    by_cases h200 : m = 200
    · have hm2 : (m == 200) = true := by simpa using h200
      have hwe : (wv == 1) = ev := by rw [HWE.out, decide_eq_true h200, Bool.true_and]
      clear h200
      refine region_slotsG (fun i => (if i = 28 then 2 else 54 + min i 27)) (hoA A N c1 p1 fb m wv ev ck sz ln) (fun _ => true) (by kernel_rfl) (by kernel_rfl) (fun i => by show (if i = 28 then 2 else 54 + min i 27) < _; simp; split <;> omega) (fun i j hi hj h => by have hi : i < 29 := hi; have hj : j < 29 := hj; have h : (if i = 28 then 2 else 54 + min i 27) = (if j = 28 then 2 else 54 + min j 27) := h; split at h <;> split at h <;> omega) ?mono ?dst ?gu ?ng ?skip ?step ?done
      case mono =>
        intro i W W' v h hbw
        match i, h with
        | 0, h | 1, h | 2, h | 3, h | 4, h | 5, h | 6, h | 7, h | 8, h | 9, h | 10, h | 11, h | 12, h | 13, h | 14, h | 15, h | 16, h | 17, h | 18, h | 19, h | 20, h | 21, h | 22, h | 23, h | 24, h | 25, h | 26, h | 27, h | 28, h => exact h
        | n + 29, h => exact h.elim
      case dst =>
        intro i o ho
        match i, ho with
        | 0, ho | 1, ho | 2, ho | 3, ho | 4, ho | 5, ho | 6, ho | 7, ho | 8, ho | 9, ho | 10, ho | 11, ho | 12, ho | 13, ho | 14, ho | 15, ho | 16, ho | 17, ho | 18, ho | 19, ho | 20, ho | 21, ho | 22, ho | 23, ho | 24, ho | 25, ho | 26, ho | 27, ho | 28, ho => cases ho; rfl
        | n + 29, ho => exact absurd ho (by simp)
      case gu =>
        intro i o g b ho hgd W v hv
        match i, ho with
        | 0, ho => cases ho; cases hgd
        | 1, ho => cases ho; cases hgd
        | 2, ho => cases ho; cases hgd
        | 3, ho => cases ho; cases hgd
        | 4, ho => cases ho; cases hgd; exact hv
        | 5, ho => cases ho; cases hgd; exact hv
        | 6, ho => cases ho; cases hgd; exact hv
        | 7, ho => cases ho; cases hgd
        | 8, ho => cases ho; cases hgd
        | 9, ho => cases ho; cases hgd; exact hv
        | 10, ho => cases ho; cases hgd; exact hv
        | 11, ho => cases ho; cases hgd
        | 12, ho => cases ho; cases hgd
        | 13, ho => cases ho; cases hgd; exact hv
        | 14, ho => cases ho; cases hgd; exact hv
        | 15, ho => cases ho; cases hgd; exact hv
        | 16, ho => cases ho; cases hgd; exact hv
        | 17, ho => cases ho; cases hgd; exact hv
        | 18, ho => cases ho; cases hgd; exact hv
        | 19, ho => cases ho; cases hgd; exact hv
        | 20, ho => cases ho; cases hgd; exact hv
        | 21, ho => cases ho; cases hgd; exact hv
        | 22, ho => cases ho; cases hgd; exact hv
        | 23, ho => cases ho; cases hgd; exact hv
        | 24, ho => cases ho; cases hgd
        | 25, ho => cases ho; cases hgd
        | 26, ho => cases ho; cases hgd; exact hv
        | 27, ho => cases ho; cases hgd
        | 28, ho => cases ho; cases hgd
        | n + 29, ho => exact absurd ho (by simp)
      case ng =>
        intro i o ho hgd
        match i, ho with
        | 0, ho => cases ho; first | rfl | cases hgd
        | 1, ho => cases ho; first | rfl | cases hgd
        | 2, ho => cases ho; first | rfl | cases hgd
        | 3, ho => cases ho; first | rfl | cases hgd
        | 4, ho => cases ho; first | rfl | cases hgd
        | 5, ho => cases ho; first | rfl | cases hgd
        | 6, ho => cases ho; first | rfl | cases hgd
        | 7, ho => cases ho; first | rfl | cases hgd
        | 8, ho => cases ho; first | rfl | cases hgd
        | 9, ho => cases ho; first | rfl | cases hgd
        | 10, ho => cases ho; first | rfl | cases hgd
        | 11, ho => cases ho; first | rfl | cases hgd
        | 12, ho => cases ho; first | rfl | cases hgd
        | 13, ho => cases ho; first | rfl | cases hgd
        | 14, ho => cases ho; first | rfl | cases hgd
        | 15, ho => cases ho; first | rfl | cases hgd
        | 16, ho => cases ho; first | rfl | cases hgd
        | 17, ho => cases ho; first | rfl | cases hgd
        | 18, ho => cases ho; first | rfl | cases hgd
        | 19, ho => cases ho; first | rfl | cases hgd
        | 20, ho => cases ho; first | rfl | cases hgd
        | 21, ho => cases ho; first | rfl | cases hgd
        | 22, ho => cases ho; first | rfl | cases hgd
        | 23, ho => cases ho; first | rfl | cases hgd
        | 24, ho => cases ho; first | rfl | cases hgd
        | 25, ho => cases ho; first | rfl | cases hgd
        | 26, ho => cases ho; first | rfl | cases hgd
        | 27, ho => cases ho; first | rfl | cases hgd
        | 28, ho => cases ho; first | rfl | cases hgd
        | n + 29, ho => exact absurd ho (by simp)
      case skip =>
        intro i W hi hsel
        match i, hi, hsel with
        | 0, _, hsel => first | exact absurd hsel (by decide) | rfl
        | 1, _, hsel => first | exact absurd hsel (by decide) | rfl
        | 2, _, hsel => first | exact absurd hsel (by decide) | rfl
        | 3, _, hsel => first | exact absurd hsel (by decide) | rfl
        | 4, _, hsel => first | exact absurd hsel (by decide) | rfl
        | 5, _, hsel => first | exact absurd hsel (by decide) | rfl
        | 6, _, hsel => first | exact absurd hsel (by decide) | rfl
        | 7, _, hsel => first | exact absurd hsel (by decide) | rfl
        | 8, _, hsel => first | exact absurd hsel (by decide) | rfl
        | 9, _, hsel => first | exact absurd hsel (by decide) | rfl
        | 10, _, hsel => first | exact absurd hsel (by decide) | rfl
        | 11, _, hsel => first | exact absurd hsel (by decide) | rfl
        | 12, _, hsel => first | exact absurd hsel (by decide) | rfl
        | 13, _, hsel => first | exact absurd hsel (by decide) | rfl
        | 14, _, hsel => first | exact absurd hsel (by decide) | rfl
        | 15, _, hsel => first | exact absurd hsel (by decide) | rfl
        | 16, _, hsel => first | exact absurd hsel (by decide) | rfl
        | 17, _, hsel => first | exact absurd hsel (by decide) | rfl
        | 18, _, hsel => first | exact absurd hsel (by decide) | rfl
        | 19, _, hsel => first | exact absurd hsel (by decide) | rfl
        | 20, _, hsel => first | exact absurd hsel (by decide) | rfl
        | 21, _, hsel => first | exact absurd hsel (by decide) | rfl
        | 22, _, hsel => first | exact absurd hsel (by decide) | rfl
        | 23, _, hsel => first | exact absurd hsel (by decide) | rfl
        | 24, _, hsel => first | exact absurd hsel (by decide) | rfl
        | 25, _, hsel => first | exact absurd hsel (by decide) | rfl
        | 26, _, hsel => first | exact absurd hsel (by decide) | rfl
        | 27, _, hsel => first | exact absurd hsel (by decide) | rfl
        | 28, _, hsel => first | exact absurd hsel (by decide) | rfl
        | n + 29, hi, _ => exact absurd hi (by simp)
      case step =>
        intro f a' W i o ho hsel hpre hbel hrest
        match i, ho, hsel with
        | 0, ho, _ =>
          cases ho
          have q6 : a'.tmps.getD 6 undef = .int .i64 0 := (hrest 6 (by intro i hi; have hi : i < 29 := hi; show (if i = 28 then 2 else 54 + min i 27) ≠ _; split <;> omega))
          have e6 := rg_ev q6
          exact rg_same (.int .i64 0) (by unfold Oper.wp execOp; go_simp; all_goals ((try simp only [e6]); (try go_simp); (try rw [if_pos (by omega)]); (try rw [if_neg (by omega)]); first | done | rfl | exact ⟨rfl, rfl⟩ | trivial)) rfl
        | 1, ho, _ =>
          cases ho
          have q54 : a'.tmps.getD 54 undef = .int .i64 0 := (hpre { on := 0, ground := .data } (by simp) rfl)
          exact rg_call 54 12 _ _ _ rfl q54 (enters_of Tryz.func12 (by kernel_rfl) rfl) (KN.out _ W) (fun e w' h => ⟨_, h.1, _, rfl, rfl, by rw [h.2]; exact Below.refl _ _⟩)
        | 2, ho, _ =>
          cases ho
          have q55 : a'.tmps.getD 55 undef = .int .i64 0 := (hpre { on := 1, ground := .data } (by simp) rfl)
          have e55 := rg_ev q55
          exact rg_same (.bool true) (by unfold Oper.wp execOp; go_simp; all_goals ((try simp only [e55]); (try go_simp); (try rw [if_pos (by omega)]); (try rw [if_neg (by omega)]); first | done | rfl | exact ⟨rfl, rfl⟩ | trivial)) rfl
        | 3, ho, _ =>
          cases ho
          have q56 : a'.tmps.getD 56 undef = .bool true := (hpre { on := 2, ground := .data } (by simp) rfl)
          have e56 := rg_ev q56
          exact rg_same (.bool true) (by unfold Oper.wp execOp; go_simp; all_goals ((try simp only [e56]); (try go_simp); (try rw [if_pos (by omega)]); (try rw [if_neg (by omega)]); first | done | rfl | exact ⟨rfl, rfl⟩ | trivial)) rfl
        | 4, ho, _ =>
          cases ho
          have q5 : a'.tmps.getD 5 undef = .pointer (some ⟨E, 0, none⟩) := (hrest 5 (by intro i hi; have hi : i < 29 := hi; show (if i = 28 then 2 else 54 + min i 27) ≠ _; split <;> omega))
          have ce := HCE.out W hbel
          unfold RepAt at ce
          obtain ⟨a0, a1, a2, a3, a4⟩ := ce
          have e5 := rg_ev q5
          exact rg_same (.agg #[.int .i64 m, .bool ev, .bool ck, .bool sz, .int .u64 (ln : Int)]) (by unfold Oper.wp execOp; go_simp; all_goals ((try simp only [e5]); (try go_simp); (try rw [if_pos (by omega)]); (try rw [if_neg (by omega)]); first | done | rfl | exact ⟨rfl, rfl⟩ | trivial)) rfl
        | 5, ho, _ =>
          cases ho
          have q1 : a'.tmps.getD 1 undef = .pointer (some ⟨A, 0, none⟩) := (hrest 1 (by intro i hi; have hi : i < 29 := hi; show (if i = 28 then 2 else 54 + min i 27) ≠ _; split <;> omega))
          have ce := HCA.out W hbel
          unfold RepAt at ce
          obtain ⟨a0, a1, a2, a3, a4⟩ := ce
          have e1 := rg_ev q1
          exact rg_same (.agg #[.int .i64 m, .bool ev, .bool ck, .bool sz, .int .u64 (ln : Int)]) (by unfold Oper.wp execOp; go_simp; all_goals ((try simp only [e1]); (try go_simp); (try rw [if_pos (by omega)]); (try rw [if_neg (by omega)]); first | done | rfl | exact ⟨rfl, rfl⟩ | trivial)) rfl
        | 6, ho, _ =>
          cases ho
          have q58 : a'.tmps.getD 58 undef = .agg #[.int .i64 m, .bool ev, .bool ck, .bool sz, .int .u64 (ln : Int)] := (hpre { on := 4, ground := .data } (by simp) rfl)
          have q59 : a'.tmps.getD 59 undef = .agg #[.int .i64 m, .bool ev, .bool ck, .bool sz, .int .u64 (ln : Int)] := (hpre { on := 5, ground := .data } (by simp) rfl)
          have hE := rep_eq m ev ck sz (ln : Int) W
          have e58 := rg_ev q58
          have e59 := rg_ev q59
          exact rg_same (.bool true) (by unfold Oper.wp execOp; go_simp; all_goals ((try simp only [e58, e59]); (try go_simp); (try rw [if_pos (by omega)]); (try rw [if_neg (by omega)]); first | done | rfl | exact ⟨rfl, rfl⟩ | trivial)) rfl
        | 7, ho, _ =>
          cases ho
          have q57 : a'.tmps.getD 57 undef = .bool true := (hpre { on := 3, ground := .data } (by simp) rfl)
          have q60 : a'.tmps.getD 60 undef = .bool true := (hpre { on := 6, ground := .data } (by simp) rfl)
          have e57 := rg_ev q57
          have e60 := rg_ev q60
          exact rg_same (.bool true) (by unfold Oper.wp execOp; go_simp; all_goals ((try simp only [e57, e60]); (try go_simp); (try rw [if_pos (by omega)]); (try rw [if_neg (by omega)]); first | done | rfl | exact ⟨rfl, rfl⟩ | trivial)) rfl
        | 8, ho, _ =>
          cases ho
          have q61 : a'.tmps.getD 61 undef = .bool true := (hpre { on := 7, ground := .data } (by simp) rfl)
          have e61 := rg_ev q61
          exact rg_same (.bool true) (by unfold Oper.wp execOp; go_simp; all_goals ((try simp only [e61]); (try go_simp); (try rw [if_pos (by omega)]); (try rw [if_neg (by omega)]); first | done | rfl | exact ⟨rfl, rfl⟩ | trivial)) rfl
        | 9, ho, _ =>
          cases ho
          have q3 : a'.tmps.getD 3 undef = .pointer (some ⟨D, 0, none⟩) := (hrest 3 (by intro i hi; have hi : i < 29 := hi; show (if i = 28 then 2 else 54 + min i 27) ≠ _; split <;> omega))
          have ce := HCD.out W hbel
          obtain ⟨d0, d1⟩ := ce
          have e3 := rg_ev q3
          exact rg_same (.agg #[.string fb, .slice p1 N c1]) (by unfold Oper.wp execOp; go_simp; all_goals ((try simp only [e3]); (try go_simp); (try rw [if_pos (by omega)]); (try rw [if_neg (by omega)]); first | done | rfl | exact ⟨rfl, rfl⟩ | trivial)) rfl
        | 10, ho, _ =>
          cases ho
          have q63 : a'.tmps.getD 63 undef = .agg #[.string fb, .slice p1 N c1] := (hpre { on := 9, ground := .data } (by simp) rfl)
          exact rg_call 63 14 _ _ _ rfl q63 (enters_of Tryz.func14 (by kernel_rfl) rfl) (KRR.out W hbel) (fun e w' h => ⟨_, h.1, _, rfl, rfl, h.2⟩)
        | 11, ho, _ =>
          cases ho
          have q62 : a'.tmps.getD 62 undef = .bool true := (hpre { on := 8, ground := .data } (by simp) rfl)
          have q64 : a'.tmps.getD 64 undef = .bool true := (hpre { on := 10, ground := .data } (by simp) rfl)
          have e62 := rg_ev q62
          have e64 := rg_ev q64
          exact rg_same (.bool true) (by unfold Oper.wp execOp; go_simp; all_goals ((try simp only [e62, e64]); (try go_simp); (try rw [if_pos (by omega)]); (try rw [if_neg (by omega)]); first | done | rfl | exact ⟨rfl, rfl⟩ | trivial)) rfl
        | 12, ho, _ =>
          cases ho
          have q65 : a'.tmps.getD 65 undef = .bool true := (hpre { on := 11, ground := .data } (by simp) rfl)
          have e65 := rg_ev q65
          exact rg_same (.bool true) (by unfold Oper.wp execOp; go_simp; all_goals ((try simp only [e65]); (try go_simp); (try rw [if_pos (by omega)]); (try rw [if_neg (by omega)]); first | done | rfl | exact ⟨rfl, rfl⟩ | trivial)) rfl
        | 13, ho, _ =>
          cases ho
          have q1 : a'.tmps.getD 1 undef = .pointer (some ⟨A, 0, none⟩) := (hrest 1 (by intro i hi; have hi : i < 29 := hi; show (if i = 28 then 2 else 54 + min i 27) ≠ _; split <;> omega))
          have ce := HCA.out W hbel
          unfold RepAt at ce
          obtain ⟨a0, a1, a2, a3, a4⟩ := ce
          have e1 := rg_ev q1
          exact rg_same (.agg #[.int .i64 m, .bool ev, .bool ck, .bool sz, .int .u64 (ln : Int)]) (by unfold Oper.wp execOp; go_simp; all_goals ((try simp only [e1]); (try go_simp); (try rw [if_pos (by omega)]); (try rw [if_neg (by omega)]); first | done | rfl | exact ⟨rfl, rfl⟩ | trivial)) rfl
        | 14, ho, _ =>
          cases ho
          have q67 : a'.tmps.getD 67 undef = .agg #[.int .i64 m, .bool ev, .bool ck, .bool sz, .int .u64 (ln : Int)] := (hpre { on := 13, ground := .data } (by simp) rfl)
          exact rg_call 67 15 _ _ _ rfl q67 (enters_of Tryz.func15 (by kernel_rfl) rfl) (KWT.out W) (fun e w' h => ⟨_, h.1, _, rfl, rfl, h.2⟩)
        | 15, ho, _ =>
          cases ho
          have q68 : a'.tmps.getD 68 undef = .int .i64 wv := (hpre { on := 14, ground := .data } (by simp) rfl)
          have e68 := rg_ev q68
          exact rg_same (.bool ev) (by unfold Oper.wp execOp; go_simp; all_goals ((try simp only [e68]); (try go_simp); (try rw [if_pos (by omega)]); (try rw [if_neg (by omega)]); first | done | rfl | exact ⟨rfl, rfl⟩ | trivial)) rfl
        | 16, ho, _ =>
          cases ho
          have q1 : a'.tmps.getD 1 undef = .pointer (some ⟨A, 0, none⟩) := (hrest 1 (by intro i hi; have hi : i < 29 := hi; show (if i = 28 then 2 else 54 + min i 27) ≠ _; split <;> omega))
          have e1 := rg_ev q1
          exact rg_same (.pointer (some ⟨A, 0, none⟩)) (by unfold Oper.wp execOp; go_simp; all_goals ((try simp only [e1]); (try go_simp); (try rw [if_pos (by omega)]); (try rw [if_neg (by omega)]); first | done | rfl | exact ⟨rfl, rfl⟩ | trivial)) rfl
        | 17, ho, _ =>
          cases ho
          have q70 : a'.tmps.getD 70 undef = .pointer (some ⟨A, 0, none⟩) := (hpre { on := 16, ground := .data } (by simp) rfl)
          have ce := HCA.out W hbel
          unfold RepAt at ce
          obtain ⟨a0, a1, a2, a3, a4⟩ := ce
          have e70 := rg_ev q70
          exact rg_same (.int .i64 m) (by unfold Oper.wp execOp; go_simp; all_goals ((try simp only [e70]); (try go_simp); (try rw [if_pos (by omega)]); (try rw [if_neg (by omega)]); first | done | rfl | exact ⟨rfl, rfl⟩ | trivial)) rfl
        | 18, ho, _ =>
          cases ho
          have q71 : a'.tmps.getD 71 undef = .int .i64 m := (hpre { on := 17, ground := .data } (by simp) rfl)
          have e71 := rg_ev q71
          exact rg_same (.bool true) (by unfold Oper.wp execOp; go_simp; all_goals ((try simp only [e71]); (try go_simp); (try rw [if_pos (by omega)]); (try rw [if_neg (by omega)]); first | done | rfl | exact ⟨rfl, rfl⟩ | trivial)) rfl
        | 19, ho, _ =>
          cases ho
          have q72 : a'.tmps.getD 72 undef = .bool true := (hpre { on := 18, ground := .data } (by simp) rfl)
          have e72 := rg_ev q72
          exact rg_same (.bool true) (by unfold Oper.wp execOp; go_simp; all_goals ((try simp only [e72]); (try go_simp); (try rw [if_pos (by omega)]); (try rw [if_neg (by omega)]); first | done | rfl | exact ⟨rfl, rfl⟩ | trivial)) rfl
        | 20, ho, _ =>
          cases ho
          have q1 : a'.tmps.getD 1 undef = .pointer (some ⟨A, 0, none⟩) := (hrest 1 (by intro i hi; have hi : i < 29 := hi; show (if i = 28 then 2 else 54 + min i 27) ≠ _; split <;> omega))
          have e1 := rg_ev q1
          exact rg_same (.pointer (some ⟨A, 1, none⟩)) (by unfold Oper.wp execOp; go_simp; all_goals ((try simp only [e1]); (try go_simp); (try rw [if_pos (by omega)]); (try rw [if_neg (by omega)]); first | done | rfl | exact ⟨rfl, rfl⟩ | trivial)) rfl
        | 21, ho, _ =>
          cases ho
          have q74 : a'.tmps.getD 74 undef = .pointer (some ⟨A, 1, none⟩) := (hpre { on := 20, ground := .data } (by simp) rfl)
          have ce := HCA.out W hbel
          unfold RepAt at ce
          obtain ⟨a0, a1, a2, a3, a4⟩ := ce
          have e74 := rg_ev q74
          exact rg_same (.bool ev) (by unfold Oper.wp execOp; go_simp; all_goals ((try simp only [e74]); (try go_simp); (try rw [if_pos (by omega)]); (try rw [if_neg (by omega)]); first | done | rfl | exact ⟨rfl, rfl⟩ | trivial)) rfl
        | 22, ho, _ =>
          cases ho
          have q73 : a'.tmps.getD 73 undef = .bool true := (hpre { on := 19, ground := .data } (by simp) rfl)
          have q75 : a'.tmps.getD 75 undef = .bool ev := (hpre { on := 21, ground := .data } (by simp) rfl)
          have e73 := rg_ev q73
          have e75 := rg_ev q75
          exact rg_same (.bool ev) (by unfold Oper.wp execOp; go_simp; all_goals ((try simp only [e73, e75]); (try go_simp); (try rw [if_pos (by omega)]); (try rw [if_neg (by omega)]); first | done | rfl | exact ⟨rfl, rfl⟩ | trivial)) rfl
        | 23, ho, _ =>
          cases ho
          have q69 : a'.tmps.getD 69 undef = .bool ev := (hpre { on := 15, ground := .data } (by simp) rfl)
          have q76 : a'.tmps.getD 76 undef = .bool ev := (hpre { on := 22, ground := .data } (by simp) rfl)
          have hee : (ev == ev) = true := beq_self_eq_true _
          have e69 := rg_ev q69
          have e76 := rg_ev q76
          exact rg_same (.bool true) (by unfold Oper.wp execOp; go_simp; all_goals ((try simp only [e69, e76]); (try go_simp); (try rw [if_pos (by omega)]); (try rw [if_neg (by omega)]); first | done | rfl | exact ⟨rfl, rfl⟩ | trivial)) rfl
        | 24, ho, _ =>
          cases ho
          have q66 : a'.tmps.getD 66 undef = .bool true := (hpre { on := 12, ground := .data } (by simp) rfl)
          have q77 : a'.tmps.getD 77 undef = .bool true := (hpre { on := 23, ground := .data } (by simp) rfl)
          have e66 := rg_ev q66
          have e77 := rg_ev q77
          exact rg_same (.bool true) (by unfold Oper.wp execOp; go_simp; all_goals ((try simp only [e66, e77]); (try go_simp); (try rw [if_pos (by omega)]); (try rw [if_neg (by omega)]); first | done | rfl | exact ⟨rfl, rfl⟩ | trivial)) rfl
        | 25, ho, _ =>
          cases ho
          have q78 : a'.tmps.getD 78 undef = .bool true := (hpre { on := 24, ground := .data } (by simp) rfl)
          have e78 := rg_ev q78
          exact rg_same (.bool true) (by unfold Oper.wp execOp; go_simp; all_goals ((try simp only [e78]); (try go_simp); (try rw [if_pos (by omega)]); (try rw [if_neg (by omega)]); first | done | rfl | exact ⟨rfl, rfl⟩ | trivial)) rfl
        | 26, ho, _ =>
          cases ho
          exact rg_call0 6 _ _ rfl (enters_of Tryz.func6 (by kernel_rfl) rfl) (KW.out W (HK.out.below (HB.out.trans (hbel.mono HB.out.size))).kr) (fun e w' h => ⟨_, h.1, _, rfl, rfl, h.2⟩)
        | 27, ho, _ =>
          cases ho
          have q79 : a'.tmps.getD 79 undef = .bool true := (hpre { on := 25, ground := .data } (by simp) rfl)
          have q80 : a'.tmps.getD 80 undef = .bool true := (hpre { on := 26, ground := .data } (by simp) rfl)
          have e79 := rg_ev q79
          have e80 := rg_ev q80
          exact rg_same (.bool true) (by unfold Oper.wp execOp; go_simp; all_goals ((try simp only [e79, e80]); (try go_simp); (try rw [if_pos (by omega)]); (try rw [if_neg (by omega)]); first | done | rfl | exact ⟨rfl, rfl⟩ | trivial)) rfl
        | 28, ho, _ =>
          cases ho
          have q81 : a'.tmps.getD 81 undef = .bool true := (hpre { on := 27, ground := .data } (by simp) rfl)
          have e81 := rg_ev q81
          exact rg_same (.bool true) (by unfold Oper.wp execOp; go_simp; all_goals ((try simp only [e81]); (try go_simp); (try rw [if_pos (by omega)]); (try rw [if_neg (by omega)]); first | done | rfl | exact ⟨rfl, rfl⟩ | trivial)) rfl
        | n + 29, ho, _ => exact absurd ho (by simp)
      case done =>
        intro vs W hbel hvs
        have v0 : vs 0 = .int .i64 0 := hvs 0 (by decide)
        have v1 : vs 1 = .int .i64 0 := hvs 1 (by decide)
        have v2 : vs 2 = .bool true := hvs 2 (by decide)
        have v3 : vs 3 = .bool true := hvs 3 (by decide)
        have v4 : vs 4 = .agg #[.int .i64 m, .bool ev, .bool ck, .bool sz, .int .u64 (ln : Int)] := hvs 4 (by decide)
        have v5 : vs 5 = .agg #[.int .i64 m, .bool ev, .bool ck, .bool sz, .int .u64 (ln : Int)] := hvs 5 (by decide)
        have v6 : vs 6 = .bool true := hvs 6 (by decide)
        have v7 : vs 7 = .bool true := hvs 7 (by decide)
        have v8 : vs 8 = .bool true := hvs 8 (by decide)
        have v9 : vs 9 = .agg #[.string fb, .slice p1 N c1] := hvs 9 (by decide)
        have v10 : vs 10 = .bool true := hvs 10 (by decide)
        have v11 : vs 11 = .bool true := hvs 11 (by decide)
        have v12 : vs 12 = .bool true := hvs 12 (by decide)
        have v13 : vs 13 = .agg #[.int .i64 m, .bool ev, .bool ck, .bool sz, .int .u64 (ln : Int)] := hvs 13 (by decide)
        have v14 : vs 14 = .int .i64 wv := hvs 14 (by decide)
        have v15 : vs 15 = .bool ev := hvs 15 (by decide)
        have v16 : vs 16 = .pointer (some ⟨A, 0, none⟩) := hvs 16 (by decide)
        have v17 : vs 17 = .int .i64 m := hvs 17 (by decide)
        have v18 : vs 18 = .bool true := hvs 18 (by decide)
        have v19 : vs 19 = .bool true := hvs 19 (by decide)
        have v20 : vs 20 = .pointer (some ⟨A, 1, none⟩) := hvs 20 (by decide)
        have v21 : vs 21 = .bool ev := hvs 21 (by decide)
        have v22 : vs 22 = .bool ev := hvs 22 (by decide)
        have v23 : vs 23 = .bool true := hvs 23 (by decide)
        have v24 : vs 24 = .bool true := hvs 24 (by decide)
        have v25 : vs 25 = .bool true := hvs 25 (by decide)
        have v26 : vs 26 = .bool true := hvs 26 (by decide)
        have v27 : vs 27 = .bool true := hvs 27 (by decide)
        have v28 : vs 28 = .bool true := hvs 28 (by decide)
        have HBR := Lib.hid hbel
        simp only [fillN, List.size_toArray, List.length_cons, List.length_nil, Nat.reduceAdd, show List.range 29 = [0, 1, 2, 3, 4, 5, 6, 7, 8, 9, 10, 11, 12, 13, 14, 15, 16, 17, 18, 19, 20, 21, 22, 23, 24, 25, 26, 27, 28] from rfl, List.foldl_cons, List.foldl_nil, show (if 0 = 28 then 2 else 54 + min 0 27) = 54 from rfl, show (if 1 = 28 then 2 else 54 + min 1 27) = 55 from rfl, show (if 2 = 28 then 2 else 54 + min 2 27) = 56 from rfl, show (if 3 = 28 then 2 else 54 + min 3 27) = 57 from rfl, show (if 4 = 28 then 2 else 54 + min 4 27) = 58 from rfl, show (if 5 = 28 then 2 else 54 + min 5 27) = 59 from rfl, show (if 6 = 28 then 2 else 54 + min 6 27) = 60 from rfl, show (if 7 = 28 then 2 else 54 + min 7 27) = 61 from rfl, show (if 8 = 28 then 2 else 54 + min 8 27) = 62 from rfl, show (if 9 = 28 then 2 else 54 + min 9 27) = 63 from rfl, show (if 10 = 28 then 2 else 54 + min 10 27) = 64 from rfl, show (if 11 = 28 then 2 else 54 + min 11 27) = 65 from rfl, show (if 12 = 28 then 2 else 54 + min 12 27) = 66 from rfl, show (if 13 = 28 then 2 else 54 + min 13 27) = 67 from rfl, show (if 14 = 28 then 2 else 54 + min 14 27) = 68 from rfl, show (if 15 = 28 then 2 else 54 + min 15 27) = 69 from rfl, show (if 16 = 28 then 2 else 54 + min 16 27) = 70 from rfl, show (if 17 = 28 then 2 else 54 + min 17 27) = 71 from rfl, show (if 18 = 28 then 2 else 54 + min 18 27) = 72 from rfl, show (if 19 = 28 then 2 else 54 + min 19 27) = 73 from rfl, show (if 20 = 28 then 2 else 54 + min 20 27) = 74 from rfl, show (if 21 = 28 then 2 else 54 + min 21 27) = 75 from rfl, show (if 22 = 28 then 2 else 54 + min 22 27) = 76 from rfl, show (if 23 = 28 then 2 else 54 + min 23 27) = 77 from rfl, show (if 24 = 28 then 2 else 54 + min 24 27) = 78 from rfl, show (if 25 = 28 then 2 else 54 + min 25 27) = 79 from rfl, show (if 26 = 28 then 2 else 54 + min 26 27) = 80 from rfl, show (if 27 = 28 then 2 else 54 + min 27 27) = 81 from rfl, show (if 28 = 28 then 2 else 54 + min 28 27) = 2 from rfl, v0, v1, v2, v3, v4, v5, v6, v7, v8, v9, v10, v11, v12, v13, v14, v15, v16, v17, v18, v19, v20, v21, v22, v23, v24, v25, v26, v27, v28]
        clear v0 v1 v2 v3 v4 v5 v6 v7 v8 v9 v10 v11 v12 v13 v14 v15 v16 v17 v18 v19 v20 v21 v22 v23 v24 v25 v26 v27 v28 hvs hbel
        go_simp
        go_wp2_with fail
        go_ret
        exact ⟨rfl, HB.out.trans (HBR.out.mono HB.out.size)⟩
    · have hm2 : (m == 200) = false := by simpa using h200
      have hwe : (wv == 1) = false := by rw [HWE.out, decide_eq_false h200, Bool.false_and]
      clear h200
      refine region_slotsG (fun i => (if i = 28 then 2 else 54 + min i 27)) (hoB A N c1 p1 fb m wv ev ck sz ln) (fun i => ([true, true, true, true, true, true, true, true, true, true, true, true, true, true, true, true, true, true, true, true, false, false, true, true, true, true, true, true, true] : List Bool).getD i true) (by kernel_rfl) (by kernel_rfl) (fun i => by show (if i = 28 then 2 else 54 + min i 27) < _; simp; split <;> omega) (fun i j hi hj h => by have hi : i < 29 := hi; have hj : j < 29 := hj; have h : (if i = 28 then 2 else 54 + min i 27) = (if j = 28 then 2 else 54 + min j 27) := h; split at h <;> split at h <;> omega) ?mono ?dst ?gu ?ng ?skip ?step ?done
      case mono =>
        intro i W W' v h hbw
        match i, h with
        | 0, h | 1, h | 2, h | 3, h | 4, h | 5, h | 6, h | 7, h | 8, h | 9, h | 10, h | 11, h | 12, h | 13, h | 14, h | 15, h | 16, h | 17, h | 18, h | 19, h | 20, h | 21, h | 22, h | 23, h | 24, h | 25, h | 26, h | 27, h | 28, h => exact h
        | n + 29, h => exact h.elim
      case dst =>
        intro i o ho
        match i, ho with
        | 0, ho | 1, ho | 2, ho | 3, ho | 4, ho | 5, ho | 6, ho | 7, ho | 8, ho | 9, ho | 10, ho | 11, ho | 12, ho | 13, ho | 14, ho | 15, ho | 16, ho | 17, ho | 18, ho | 19, ho | 20, ho | 21, ho | 22, ho | 23, ho | 24, ho | 25, ho | 26, ho | 27, ho | 28, ho => cases ho; rfl
        | n + 29, ho => exact absurd ho (by simp)
      case gu =>
        intro i o g b ho hgd W v hv
        match i, ho with
        | 0, ho => cases ho; cases hgd
        | 1, ho => cases ho; cases hgd
        | 2, ho => cases ho; cases hgd
        | 3, ho => cases ho; cases hgd
        | 4, ho => cases ho; cases hgd; exact hv
        | 5, ho => cases ho; cases hgd; exact hv
        | 6, ho => cases ho; cases hgd; exact hv
        | 7, ho => cases ho; cases hgd
        | 8, ho => cases ho; cases hgd
        | 9, ho => cases ho; cases hgd; exact hv
        | 10, ho => cases ho; cases hgd; exact hv
        | 11, ho => cases ho; cases hgd
        | 12, ho => cases ho; cases hgd
        | 13, ho => cases ho; cases hgd; exact hv
        | 14, ho => cases ho; cases hgd; exact hv
        | 15, ho => cases ho; cases hgd; exact hv
        | 16, ho => cases ho; cases hgd; exact hv
        | 17, ho => cases ho; cases hgd; exact hv
        | 18, ho => cases ho; cases hgd; exact hv
        | 19, ho => cases ho; cases hgd; exact hv
        | 20, ho => cases ho; cases hgd; exact hv
        | 21, ho => cases ho; cases hgd; exact hv
        | 22, ho => cases ho; cases hgd; exact hv
        | 23, ho => cases ho; cases hgd; exact hv
        | 24, ho => cases ho; cases hgd
        | 25, ho => cases ho; cases hgd
        | 26, ho => cases ho; cases hgd; exact hv
        | 27, ho => cases ho; cases hgd
        | 28, ho => cases ho; cases hgd
        | n + 29, ho => exact absurd ho (by simp)
      case ng =>
        intro i o ho hgd
        match i, ho with
        | 0, ho => cases ho; first | rfl | cases hgd
        | 1, ho => cases ho; first | rfl | cases hgd
        | 2, ho => cases ho; first | rfl | cases hgd
        | 3, ho => cases ho; first | rfl | cases hgd
        | 4, ho => cases ho; first | rfl | cases hgd
        | 5, ho => cases ho; first | rfl | cases hgd
        | 6, ho => cases ho; first | rfl | cases hgd
        | 7, ho => cases ho; first | rfl | cases hgd
        | 8, ho => cases ho; first | rfl | cases hgd
        | 9, ho => cases ho; first | rfl | cases hgd
        | 10, ho => cases ho; first | rfl | cases hgd
        | 11, ho => cases ho; first | rfl | cases hgd
        | 12, ho => cases ho; first | rfl | cases hgd
        | 13, ho => cases ho; first | rfl | cases hgd
        | 14, ho => cases ho; first | rfl | cases hgd
        | 15, ho => cases ho; first | rfl | cases hgd
        | 16, ho => cases ho; first | rfl | cases hgd
        | 17, ho => cases ho; first | rfl | cases hgd
        | 18, ho => cases ho; first | rfl | cases hgd
        | 19, ho => cases ho; first | rfl | cases hgd
        | 20, ho => cases ho; first | rfl | cases hgd
        | 21, ho => cases ho; first | rfl | cases hgd
        | 22, ho => cases ho; first | rfl | cases hgd
        | 23, ho => cases ho; first | rfl | cases hgd
        | 24, ho => cases ho; first | rfl | cases hgd
        | 25, ho => cases ho; first | rfl | cases hgd
        | 26, ho => cases ho; first | rfl | cases hgd
        | 27, ho => cases ho; first | rfl | cases hgd
        | 28, ho => cases ho; first | rfl | cases hgd
        | n + 29, ho => exact absurd ho (by simp)
      case skip =>
        intro i W hi hsel
        match i, hi, hsel with
        | 0, _, hsel => first | exact absurd hsel (by decide) | rfl
        | 1, _, hsel => first | exact absurd hsel (by decide) | rfl
        | 2, _, hsel => first | exact absurd hsel (by decide) | rfl
        | 3, _, hsel => first | exact absurd hsel (by decide) | rfl
        | 4, _, hsel => first | exact absurd hsel (by decide) | rfl
        | 5, _, hsel => first | exact absurd hsel (by decide) | rfl
        | 6, _, hsel => first | exact absurd hsel (by decide) | rfl
        | 7, _, hsel => first | exact absurd hsel (by decide) | rfl
        | 8, _, hsel => first | exact absurd hsel (by decide) | rfl
        | 9, _, hsel => first | exact absurd hsel (by decide) | rfl
        | 10, _, hsel => first | exact absurd hsel (by decide) | rfl
        | 11, _, hsel => first | exact absurd hsel (by decide) | rfl
        | 12, _, hsel => first | exact absurd hsel (by decide) | rfl
        | 13, _, hsel => first | exact absurd hsel (by decide) | rfl
        | 14, _, hsel => first | exact absurd hsel (by decide) | rfl
        | 15, _, hsel => first | exact absurd hsel (by decide) | rfl
        | 16, _, hsel => first | exact absurd hsel (by decide) | rfl
        | 17, _, hsel => first | exact absurd hsel (by decide) | rfl
        | 18, _, hsel => first | exact absurd hsel (by decide) | rfl
        | 19, _, hsel => first | exact absurd hsel (by decide) | rfl
        | 20, _, hsel => first | exact absurd hsel (by decide) | rfl
        | 21, _, hsel => first | exact absurd hsel (by decide) | rfl
        | 22, _, hsel => first | exact absurd hsel (by decide) | rfl
        | 23, _, hsel => first | exact absurd hsel (by decide) | rfl
        | 24, _, hsel => first | exact absurd hsel (by decide) | rfl
        | 25, _, hsel => first | exact absurd hsel (by decide) | rfl
        | 26, _, hsel => first | exact absurd hsel (by decide) | rfl
        | 27, _, hsel => first | exact absurd hsel (by decide) | rfl
        | 28, _, hsel => first | exact absurd hsel (by decide) | rfl
        | n + 29, hi, _ => exact absurd hi (by simp)
      case step =>
        intro f a' W i o ho hsel hpre hbel hrest
        match i, ho, hsel with
        | 0, ho, _ =>
          cases ho
          have q6 : a'.tmps.getD 6 undef = .int .i64 0 := (hrest 6 (by intro i hi; have hi : i < 29 := hi; show (if i = 28 then 2 else 54 + min i 27) ≠ _; split <;> omega))
          have e6 := rg_ev q6
          exact rg_same (.int .i64 0) (by unfold Oper.wp execOp; go_simp; all_goals ((try simp only [e6]); (try go_simp); (try rw [if_pos (by omega)]); (try rw [if_neg (by omega)]); first | done | rfl | exact ⟨rfl, rfl⟩ | trivial)) rfl
        | 1, ho, _ =>
          cases ho
          have q54 : a'.tmps.getD 54 undef = .int .i64 0 := (hpre { on := 0, ground := .data } (by simp) rfl)
          exact rg_call 54 12 _ _ _ rfl q54 (enters_of Tryz.func12 (by kernel_rfl) rfl) (KN.out _ W) (fun e w' h => ⟨_, h.1, _, rfl, rfl, by rw [h.2]; exact Below.refl _ _⟩)
        | 2, ho, _ =>
          cases ho
          have q55 : a'.tmps.getD 55 undef = .int .i64 0 := (hpre { on := 1, ground := .data } (by simp) rfl)
          have e55 := rg_ev q55
          exact rg_same (.bool true) (by unfold Oper.wp execOp; go_simp; all_goals ((try simp only [e55]); (try go_simp); (try rw [if_pos (by omega)]); (try rw [if_neg (by omega)]); first | done | rfl | exact ⟨rfl, rfl⟩ | trivial)) rfl
        | 3, ho, _ =>
          cases ho
          have q56 : a'.tmps.getD 56 undef = .bool true := (hpre { on := 2, ground := .data } (by simp) rfl)
          have e56 := rg_ev q56
          exact rg_same (.bool true) (by unfold Oper.wp execOp; go_simp; all_goals ((try simp only [e56]); (try go_simp); (try rw [if_pos (by omega)]); (try rw [if_neg (by omega)]); first | done | rfl | exact ⟨rfl, rfl⟩ | trivial)) rfl
        | 4, ho, _ =>
          cases ho
          have q5 : a'.tmps.getD 5 undef = .pointer (some ⟨E, 0, none⟩) := (hrest 5 (by intro i hi; have hi : i < 29 := hi; show (if i = 28 then 2 else 54 + min i 27) ≠ _; split <;> omega))
          have ce := HCE.out W hbel
          unfold RepAt at ce
          obtain ⟨a0, a1, a2, a3, a4⟩ := ce
          have e5 := rg_ev q5
          exact rg_same (.agg #[.int .i64 m, .bool ev, .bool ck, .bool sz, .int .u64 (ln : Int)]) (by unfold Oper.wp execOp; go_simp; all_goals ((try simp only [e5]); (try go_simp); (try rw [if_pos (by omega)]); (try rw [if_neg (by omega)]); first | done | rfl | exact ⟨rfl, rfl⟩ | trivial)) rfl
        | 5, ho, _ =>
          cases ho
          have q1 : a'.tmps.getD 1 undef = .pointer (some ⟨A, 0, none⟩) := (hrest 1 (by intro i hi; have hi : i < 29 := hi; show (if i = 28 then 2 else 54 + min i 27) ≠ _; split <;> omega))
          have ce := HCA.out W hbel
          unfold RepAt at ce
          obtain ⟨a0, a1, a2, a3, a4⟩ := ce
          have e1 := rg_ev q1
          exact rg_same (.agg #[.int .i64 m, .bool ev, .bool ck, .bool sz, .int .u64 (ln : Int)]) (by unfold Oper.wp execOp; go_simp; all_goals ((try simp only [e1]); (try go_simp); (try rw [if_pos (by omega)]); (try rw [if_neg (by omega)]); first | done | rfl | exact ⟨rfl, rfl⟩ | trivial)) rfl
        | 6, ho, _ =>
          cases ho
          have q58 : a'.tmps.getD 58 undef = .agg #[.int .i64 m, .bool ev, .bool ck, .bool sz, .int .u64 (ln : Int)] := (hpre { on := 4, ground := .data } (by simp) rfl)
          have q59 : a'.tmps.getD 59 undef = .agg #[.int .i64 m, .bool ev, .bool ck, .bool sz, .int .u64 (ln : Int)] := (hpre { on := 5, ground := .data } (by simp) rfl)
          have hE := rep_eq m ev ck sz (ln : Int) W
          have e58 := rg_ev q58
          have e59 := rg_ev q59
          exact rg_same (.bool true) (by unfold Oper.wp execOp; go_simp; all_goals ((try simp only [e58, e59]); (try go_simp); (try rw [if_pos (by omega)]); (try rw [if_neg (by omega)]); first | done | rfl | exact ⟨rfl, rfl⟩ | trivial)) rfl
        | 7, ho, _ =>
          cases ho
          have q57 : a'.tmps.getD 57 undef = .bool true := (hpre { on := 3, ground := .data } (by simp) rfl)
          have q60 : a'.tmps.getD 60 undef = .bool true := (hpre { on := 6, ground := .data } (by simp) rfl)
          have e57 := rg_ev q57
          have e60 := rg_ev q60
          exact rg_same (.bool true) (by unfold Oper.wp execOp; go_simp; all_goals ((try simp only [e57, e60]); (try go_simp); (try rw [if_pos (by omega)]); (try rw [if_neg (by omega)]); first | done | rfl | exact ⟨rfl, rfl⟩ | trivial)) rfl
        | 8, ho, _ =>
          cases ho
          have q61 : a'.tmps.getD 61 undef = .bool true := (hpre { on := 7, ground := .data } (by simp) rfl)
          have e61 := rg_ev q61
          exact rg_same (.bool true) (by unfold Oper.wp execOp; go_simp; all_goals ((try simp only [e61]); (try go_simp); (try rw [if_pos (by omega)]); (try rw [if_neg (by omega)]); first | done | rfl | exact ⟨rfl, rfl⟩ | trivial)) rfl
        | 9, ho, _ =>
          cases ho
          have q3 : a'.tmps.getD 3 undef = .pointer (some ⟨D, 0, none⟩) := (hrest 3 (by intro i hi; have hi : i < 29 := hi; show (if i = 28 then 2 else 54 + min i 27) ≠ _; split <;> omega))
          have ce := HCD.out W hbel
          obtain ⟨d0, d1⟩ := ce
          have e3 := rg_ev q3
          exact rg_same (.agg #[.string fb, .slice p1 N c1]) (by unfold Oper.wp execOp; go_simp; all_goals ((try simp only [e3]); (try go_simp); (try rw [if_pos (by omega)]); (try rw [if_neg (by omega)]); first | done | rfl | exact ⟨rfl, rfl⟩ | trivial)) rfl
        | 10, ho, _ =>
          cases ho
          have q63 : a'.tmps.getD 63 undef = .agg #[.string fb, .slice p1 N c1] := (hpre { on := 9, ground := .data } (by simp) rfl)
          exact rg_call 63 14 _ _ _ rfl q63 (enters_of Tryz.func14 (by kernel_rfl) rfl) (KRR.out W hbel) (fun e w' h => ⟨_, h.1, _, rfl, rfl, h.2⟩)
        | 11, ho, _ =>
          cases ho
          have q62 : a'.tmps.getD 62 undef = .bool true := (hpre { on := 8, ground := .data } (by simp) rfl)
          have q64 : a'.tmps.getD 64 undef = .bool true := (hpre { on := 10, ground := .data } (by simp) rfl)
          have e62 := rg_ev q62
          have e64 := rg_ev q64
          exact rg_same (.bool true) (by unfold Oper.wp execOp; go_simp; all_goals ((try simp only [e62, e64]); (try go_simp); (try rw [if_pos (by omega)]); (try rw [if_neg (by omega)]); first | done | rfl | exact ⟨rfl, rfl⟩ | trivial)) rfl
        | 12, ho, _ =>
          cases ho
          have q65 : a'.tmps.getD 65 undef = .bool true := (hpre { on := 11, ground := .data } (by simp) rfl)
          have e65 := rg_ev q65
          exact rg_same (.bool true) (by unfold Oper.wp execOp; go_simp; all_goals ((try simp only [e65]); (try go_simp); (try rw [if_pos (by omega)]); (try rw [if_neg (by omega)]); first | done | rfl | exact ⟨rfl, rfl⟩ | trivial)) rfl
        | 13, ho, _ =>
          cases ho
          have q1 : a'.tmps.getD 1 undef = .pointer (some ⟨A, 0, none⟩) := (hrest 1 (by intro i hi; have hi : i < 29 := hi; show (if i = 28 then 2 else 54 + min i 27) ≠ _; split <;> omega))
          have ce := HCA.out W hbel
          unfold RepAt at ce
          obtain ⟨a0, a1, a2, a3, a4⟩ := ce
          have e1 := rg_ev q1
          exact rg_same (.agg #[.int .i64 m, .bool ev, .bool ck, .bool sz, .int .u64 (ln : Int)]) (by unfold Oper.wp execOp; go_simp; all_goals ((try simp only [e1]); (try go_simp); (try rw [if_pos (by omega)]); (try rw [if_neg (by omega)]); first | done | rfl | exact ⟨rfl, rfl⟩ | trivial)) rfl
        | 14, ho, _ =>
          cases ho
          have q67 : a'.tmps.getD 67 undef = .agg #[.int .i64 m, .bool ev, .bool ck, .bool sz, .int .u64 (ln : Int)] := (hpre { on := 13, ground := .data } (by simp) rfl)
          exact rg_call 67 15 _ _ _ rfl q67 (enters_of Tryz.func15 (by kernel_rfl) rfl) (KWT.out W) (fun e w' h => ⟨_, h.1, _, rfl, rfl, h.2⟩)
        | 15, ho, _ =>
          cases ho
          have q68 : a'.tmps.getD 68 undef = .int .i64 wv := (hpre { on := 14, ground := .data } (by simp) rfl)
          have e68 := rg_ev q68
          exact rg_same (.bool false) (by unfold Oper.wp execOp; go_simp; all_goals ((try simp only [e68]); (try go_simp); (try rw [if_pos (by omega)]); (try rw [if_neg (by omega)]); first | done | rfl | exact ⟨rfl, rfl⟩ | trivial)) rfl
        | 16, ho, _ =>
          cases ho
          have q1 : a'.tmps.getD 1 undef = .pointer (some ⟨A, 0, none⟩) := (hrest 1 (by intro i hi; have hi : i < 29 := hi; show (if i = 28 then 2 else 54 + min i 27) ≠ _; split <;> omega))
          have e1 := rg_ev q1
          exact rg_same (.pointer (some ⟨A, 0, none⟩)) (by unfold Oper.wp execOp; go_simp; all_goals ((try simp only [e1]); (try go_simp); (try rw [if_pos (by omega)]); (try rw [if_neg (by omega)]); first | done | rfl | exact ⟨rfl, rfl⟩ | trivial)) rfl
        | 17, ho, _ =>
          cases ho
          have q70 : a'.tmps.getD 70 undef = .pointer (some ⟨A, 0, none⟩) := (hpre { on := 16, ground := .data } (by simp) rfl)
          have ce := HCA.out W hbel
          unfold RepAt at ce
          obtain ⟨a0, a1, a2, a3, a4⟩ := ce
          have e70 := rg_ev q70
          exact rg_same (.int .i64 m) (by unfold Oper.wp execOp; go_simp; all_goals ((try simp only [e70]); (try go_simp); (try rw [if_pos (by omega)]); (try rw [if_neg (by omega)]); first | done | rfl | exact ⟨rfl, rfl⟩ | trivial)) rfl
        | 18, ho, _ =>
          cases ho
          have q71 : a'.tmps.getD 71 undef = .int .i64 m := (hpre { on := 17, ground := .data } (by simp) rfl)
          have e71 := rg_ev q71
          exact rg_same (.bool false) (by unfold Oper.wp execOp; go_simp; all_goals ((try simp only [e71]); (try go_simp); (try rw [if_pos (by omega)]); (try rw [if_neg (by omega)]); first | done | rfl | exact ⟨rfl, rfl⟩ | trivial)) rfl
        | 19, ho, _ =>
          cases ho
          have q72 : a'.tmps.getD 72 undef = .bool false := (hpre { on := 18, ground := .data } (by simp) rfl)
          have e72 := rg_ev q72
          exact rg_same (.bool false) (by unfold Oper.wp execOp; go_simp; all_goals ((try simp only [e72]); (try go_simp); (try rw [if_pos (by omega)]); (try rw [if_neg (by omega)]); first | done | rfl | exact ⟨rfl, rfl⟩ | trivial)) rfl
        | 20, ho, hsel => exact absurd hsel (by decide)
        | 21, ho, hsel => exact absurd hsel (by decide)
        | 22, ho, _ =>
          cases ho
          have q73 : a'.tmps.getD 73 undef = .bool false := (hpre { on := 19, ground := .data } (by simp) rfl)
          have q75 : a'.tmps.getD 75 undef = undef := (hpre { on := 21, ground := .data } (by simp) rfl)
          have e73 := rg_ev q73
          have e75 := rg_ev q75
          exact rg_same (.bool false) (by unfold Oper.wp execOp; go_simp; all_goals ((try simp only [e73, e75]); (try go_simp); (try rw [if_pos (by omega)]); (try rw [if_neg (by omega)]); first | done | rfl | exact ⟨rfl, rfl⟩ | trivial)) rfl
        | 23, ho, _ =>
          cases ho
          have q69 : a'.tmps.getD 69 undef = .bool false := (hpre { on := 15, ground := .data } (by simp) rfl)
          have q76 : a'.tmps.getD 76 undef = .bool false := (hpre { on := 22, ground := .data } (by simp) rfl)
          have hee : (ev == ev) = true := beq_self_eq_true _
          have e69 := rg_ev q69
          have e76 := rg_ev q76
          exact rg_same (.bool true) (by unfold Oper.wp execOp; go_simp; all_goals ((try simp only [e69, e76]); (try go_simp); (try rw [if_pos (by omega)]); (try rw [if_neg (by omega)]); first | done | rfl | exact ⟨rfl, rfl⟩ | trivial)) rfl
        | 24, ho, _ =>
          cases ho
          have q66 : a'.tmps.getD 66 undef = .bool true := (hpre { on := 12, ground := .data } (by simp) rfl)
          have q77 : a'.tmps.getD 77 undef = .bool true := (hpre { on := 23, ground := .data } (by simp) rfl)
          have e66 := rg_ev q66
          have e77 := rg_ev q77
          exact rg_same (.bool true) (by unfold Oper.wp execOp; go_simp; all_goals ((try simp only [e66, e77]); (try go_simp); (try rw [if_pos (by omega)]); (try rw [if_neg (by omega)]); first | done | rfl | exact ⟨rfl, rfl⟩ | trivial)) rfl
        | 25, ho, _ =>
          cases ho
          have q78 : a'.tmps.getD 78 undef = .bool true := (hpre { on := 24, ground := .data } (by simp) rfl)
          have e78 := rg_ev q78
          exact rg_same (.bool true) (by unfold Oper.wp execOp; go_simp; all_goals ((try simp only [e78]); (try go_simp); (try rw [if_pos (by omega)]); (try rw [if_neg (by omega)]); first | done | rfl | exact ⟨rfl, rfl⟩ | trivial)) rfl
        | 26, ho, _ =>
          cases ho
          exact rg_call0 6 _ _ rfl (enters_of Tryz.func6 (by kernel_rfl) rfl) (KW.out W (HK.out.below (HB.out.trans (hbel.mono HB.out.size))).kr) (fun e w' h => ⟨_, h.1, _, rfl, rfl, h.2⟩)
        | 27, ho, _ =>
          cases ho
          have q79 : a'.tmps.getD 79 undef = .bool true := (hpre { on := 25, ground := .data } (by simp) rfl)
          have q80 : a'.tmps.getD 80 undef = .bool true := (hpre { on := 26, ground := .data } (by simp) rfl)
          have e79 := rg_ev q79
          have e80 := rg_ev q80
          exact rg_same (.bool true) (by unfold Oper.wp execOp; go_simp; all_goals ((try simp only [e79, e80]); (try go_simp); (try rw [if_pos (by omega)]); (try rw [if_neg (by omega)]); first | done | rfl | exact ⟨rfl, rfl⟩ | trivial)) rfl
        | 28, ho, _ =>
          cases ho
          have q81 : a'.tmps.getD 81 undef = .bool true := (hpre { on := 27, ground := .data } (by simp) rfl)
          have e81 := rg_ev q81
          exact rg_same (.bool true) (by unfold Oper.wp execOp; go_simp; all_goals ((try simp only [e81]); (try go_simp); (try rw [if_pos (by omega)]); (try rw [if_neg (by omega)]); first | done | rfl | exact ⟨rfl, rfl⟩ | trivial)) rfl
        | n + 29, ho, _ => exact absurd ho (by simp)
      case done =>
        intro vs W hbel hvs
        have v0 : vs 0 = .int .i64 0 := hvs 0 (by decide)
        have v1 : vs 1 = .int .i64 0 := hvs 1 (by decide)
        have v2 : vs 2 = .bool true := hvs 2 (by decide)
        have v3 : vs 3 = .bool true := hvs 3 (by decide)
        have v4 : vs 4 = .agg #[.int .i64 m, .bool ev, .bool ck, .bool sz, .int .u64 (ln : Int)] := hvs 4 (by decide)
        have v5 : vs 5 = .agg #[.int .i64 m, .bool ev, .bool ck, .bool sz, .int .u64 (ln : Int)] := hvs 5 (by decide)
        have v6 : vs 6 = .bool true := hvs 6 (by decide)
        have v7 : vs 7 = .bool true := hvs 7 (by decide)
        have v8 : vs 8 = .bool true := hvs 8 (by decide)
        have v9 : vs 9 = .agg #[.string fb, .slice p1 N c1] := hvs 9 (by decide)
        have v10 : vs 10 = .bool true := hvs 10 (by decide)
        have v11 : vs 11 = .bool true := hvs 11 (by decide)
        have v12 : vs 12 = .bool true := hvs 12 (by decide)
        have v13 : vs 13 = .agg #[.int .i64 m, .bool ev, .bool ck, .bool sz, .int .u64 (ln : Int)] := hvs 13 (by decide)
        have v14 : vs 14 = .int .i64 wv := hvs 14 (by decide)
        have v15 : vs 15 = .bool false := hvs 15 (by decide)
        have v16 : vs 16 = .pointer (some ⟨A, 0, none⟩) := hvs 16 (by decide)
        have v17 : vs 17 = .int .i64 m := hvs 17 (by decide)
        have v18 : vs 18 = .bool false := hvs 18 (by decide)
        have v19 : vs 19 = .bool false := hvs 19 (by decide)
        have v20 : vs 20 = undef := hvs 20 (by decide)
        have v21 : vs 21 = undef := hvs 21 (by decide)
        have v22 : vs 22 = .bool false := hvs 22 (by decide)
        have v23 : vs 23 = .bool true := hvs 23 (by decide)
        have v24 : vs 24 = .bool true := hvs 24 (by decide)
        have v25 : vs 25 = .bool true := hvs 25 (by decide)
        have v26 : vs 26 = .bool true := hvs 26 (by decide)
        have v27 : vs 27 = .bool true := hvs 27 (by decide)
        have v28 : vs 28 = .bool true := hvs 28 (by decide)
        have HBR := Lib.hid hbel
        simp only [fillN, List.size_toArray, List.length_cons, List.length_nil, Nat.reduceAdd, show List.range 29 = [0, 1, 2, 3, 4, 5, 6, 7, 8, 9, 10, 11, 12, 13, 14, 15, 16, 17, 18, 19, 20, 21, 22, 23, 24, 25, 26, 27, 28] from rfl, List.foldl_cons, List.foldl_nil, show (if 0 = 28 then 2 else 54 + min 0 27) = 54 from rfl, show (if 1 = 28 then 2 else 54 + min 1 27) = 55 from rfl, show (if 2 = 28 then 2 else 54 + min 2 27) = 56 from rfl, show (if 3 = 28 then 2 else 54 + min 3 27) = 57 from rfl, show (if 4 = 28 then 2 else 54 + min 4 27) = 58 from rfl, show (if 5 = 28 then 2 else 54 + min 5 27) = 59 from rfl, show (if 6 = 28 then 2 else 54 + min 6 27) = 60 from rfl, show (if 7 = 28 then 2 else 54 + min 7 27) = 61 from rfl, show (if 8 = 28 then 2 else 54 + min 8 27) = 62 from rfl, show (if 9 = 28 then 2 else 54 + min 9 27) = 63 from rfl, show (if 10 = 28 then 2 else 54 + min 10 27) = 64 from rfl, show (if 11 = 28 then 2 else 54 + min 11 27) = 65 from rfl, show (if 12 = 28 then 2 else 54 + min 12 27) = 66 from rfl, show (if 13 = 28 then 2 else 54 + min 13 27) = 67 from rfl, show (if 14 = 28 then 2 else 54 + min 14 27) = 68 from rfl, show (if 15 = 28 then 2 else 54 + min 15 27) = 69 from rfl, show (if 16 = 28 then 2 else 54 + min 16 27) = 70 from rfl, show (if 17 = 28 then 2 else 54 + min 17 27) = 71 from rfl, show (if 18 = 28 then 2 else 54 + min 18 27) = 72 from rfl, show (if 19 = 28 then 2 else 54 + min 19 27) = 73 from rfl, show (if 20 = 28 then 2 else 54 + min 20 27) = 74 from rfl, show (if 21 = 28 then 2 else 54 + min 21 27) = 75 from rfl, show (if 22 = 28 then 2 else 54 + min 22 27) = 76 from rfl, show (if 23 = 28 then 2 else 54 + min 23 27) = 77 from rfl, show (if 24 = 28 then 2 else 54 + min 24 27) = 78 from rfl, show (if 25 = 28 then 2 else 54 + min 25 27) = 79 from rfl, show (if 26 = 28 then 2 else 54 + min 26 27) = 80 from rfl, show (if 27 = 28 then 2 else 54 + min 27 27) = 81 from rfl, show (if 28 = 28 then 2 else 54 + min 28 27) = 2 from rfl, v0, v1, v2, v3, v4, v5, v6, v7, v8, v9, v10, v11, v12, v13, v14, v15, v16, v17, v18, v19, v20, v21, v22, v23, v24, v25, v26, v27, v28]
        clear v0 v1 v2 v3 v4 v5 v6 v7 v8 v9 v10 v11 v12 v13 v14 v15 v16 v17 v18 v19 v20 v21 v22 v23 v24 v25 v26 v27 v28 hvs hbel
        go_simp
        go_wp2_with fail
        go_ret
        exact ⟨rfl, HB.out.trans (HBR.out.mono HB.out.size)⟩
  · have HHD := Lib.hid (show Rs.head (st, ev, ck, sz, (ln : Int)) = none by unfold Rs.head; rw [if_neg hok])
    rw [HHD.out] at K1
    clear HHD
    obtain ⟨a0, a1, a2, a3, a4⟩ := rep_cell HR.out
    unfold repV at K1 ⊢
    unfold HdO at K1
    go_enter Tryz.func4, Tryz.ntmps4
    go_upto_region 1 with (fail)
    simp only at HW1
    rw [HA.out, HW1.out]
    go_wp2_with fail
    refine (K1.out W1 (HK.out.below HB.out).tabs).mono ?_
    rintro e w2 ⟨rfl, hb⟩
    have HR := Lib.hid (rep_load HR.out hb)
    have HB := Lib.hid (HB.out.trans (hb.mono HB.out.size))
    clear hb a0 a1 a2 a3 a4
    go_upto_region 2 with (fail)
    obtain ⟨D, hD⟩ : ∃ z, w2.heap.size = z := ⟨_, rfl⟩
    obtain ⟨w3, hw3⟩ : ∃ z, w2.alloc (.cells #[.string ⟨#[]⟩, .slice none 0 0] 28) = z := ⟨_, rfl⟩
    have hb : Below w2.heap.size w2 w3 := by rw [← hw3]; exact (Below.refl _ _).alloc (Nat.le_refl _) _
    rw [hD, hw3]
    have HR := Lib.hid (rep_load HR.out hb)
    have HB := Lib.hid (HB.out.trans (hb.mono HB.out.size))
    clear hb hD hw3
    obtain ⟨a0, a1, a2, a3, a4⟩ := rep_cell HR.out
    have KW3 := Lib.hid (KW.out w3 (HK.out.below HB.out).kr)
    simp only at a0 a1 a2 a3 a4
    go_wp2_with fail
    refine (KN.out _ _).mono ?_
    rintro e w' ⟨rfl, hw⟩
    subst w'
    by_cases h1 : st < 100
    · go_wp2_with fail
      refine (KN.out _ _).mono ?_
      rintro e w' ⟨rfl, hw⟩
      subst w'
      go_wp2_with fail
      refine KW3.out.mono ?_
      rintro e w4 ⟨rfl, hb⟩
      have HB := Lib.hid (HB.out.trans (hb.mono HB.out.size))
      clear hb
      go_wp2_with fail
      go_ret
      exact ⟨rfl, HB.out⟩
    · by_cases h2 : 599 < st
      · go_wp2_with fail
        refine (KN.out _ _).mono ?_
        rintro e w' ⟨rfl, hw⟩
        subst w'
        go_wp2_with fail
        refine KW3.out.mono ?_
        rintro e w4 ⟨rfl, hb⟩
        have HB := Lib.hid (HB.out.trans (hb.mono HB.out.size))
        clear hb
        go_wp2_with fail
        go_ret
        exact ⟨rfl, HB.out⟩
      · by_cases h3 : ck = true ∧ sz = true
        · obtain ⟨rfl, rfl⟩ := h3
          go_wp2_with fail
          refine (KN.out _ _).mono ?_
          rintro e w' ⟨rfl, hw⟩
          subst w'
          go_wp2_with fail
          refine KW3.out.mono ?_
          rintro e w4 ⟨rfl, hb⟩
          have HB := Lib.hid (HB.out.trans (hb.mono HB.out.size))
          clear hb
          go_wp2_with fail
          go_ret
          exact ⟨rfl, HB.out⟩
        · by_cases h4 : 0 < (ln : Int) ∧ sz = false
          · obtain ⟨h4, rfl⟩ := h4
            clear h3 hok
            cases ck
            · go_wp2_with fail
              refine (KN.out _ _).mono ?_
              rintro e w' ⟨rfl, hw⟩
              subst w'
              go_wp2_with fail
              refine KW3.out.mono ?_
              rintro e w4 ⟨rfl, hb⟩
              have HB := Lib.hid (HB.out.trans (hb.mono HB.out.size))
              clear hb
              go_wp2_with fail
              go_ret
              exact ⟨rfl, HB.out⟩
            · go_wp2_with fail
              refine (KN.out _ _).mono ?_
              rintro e w' ⟨rfl, hw⟩
              subst w'
              go_wp2_with fail
              refine KW3.out.mono ?_
              rintro e w4 ⟨rfl, hb⟩
              have HB := Lib.hid (HB.out.trans (hb.mono HB.out.size))
              clear hb
              go_wp2_with fail
              go_ret
              exact ⟨rfl, HB.out⟩
          · exact absurd ⟨⟨by omega, by omega⟩, h3, h4⟩ hok
end Go.Proofs.YtheaichiglfmjaaGreatDoor
