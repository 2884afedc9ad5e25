/- Texts of this claim, one behind the other: LHD. -/
import Derived.Test.YtheaichiglfmjaaGreatDoorQtm4
/- ResponseHead returns true for any reply and any todo: the walk. The tables of the library, and its cell of a bound, read as they are laid. -/
namespace Go.Proofs.YtheaichiglfmjaaGreatDoor
set_option linter.unusedVariables false
set_option linter.unusedSimpArgs false
open Go.RowKit Go.Shelf
set_option maxHeartbeats 8000000
set_option maxRecDepth 100000
structure KX (w : World) : Prop where
  kr : KR w
  tabs : Tabs w
theorem KX.of {w : World} (h : ML w) (t : Tabs w) : KX w := ⟨⟨h, by obtain ⟨m, hm⟩ := h; exact lt_of_cell hm⟩, t⟩
theorem KX.below {w w' : World} (h : KX w) (hb : Below w.heap.size w w') : KX w' := ⟨h.kr.below hb, h.tabs.below hb⟩
theorem HdO.one {o : Option (List UInt8 × List Hp.Hd)} {e : Ending} {w : World} (h : HdO o e w) : ∃ v, e = .returned (.tuple #[.agg #[Hp.sx (o.getD ([], [])).1, v], .int .i64 (if o.isSome then 0 else 2)]) ∧ HS w v (o.getD ([], [])).2 := by
  match o, h with
  | some (F, fs), h => exact h
  | none, h => exact ⟨_, h, .inl ⟨rfl, rfl⟩⟩
theorem head_few (r : Rs.Rep) : ((Rs.head r).getD ([], [])).2.length ≤ 3 := by
  unfold Rs.head
  split
  · unfold Rs.flds
    simp only [Option.getD_some, List.length_append]
    have h : ∀ (b : Bool) (x : Hp.Hd), (if b = true then [x] else []).length ≤ 1 := fun b x => by cases b <;> simp
    have h1 := h r.2.1 (Hp.ct, Hp.es)
    have h2 := h r.2.2.1 (Hp.te, Hp.ch)
    have h3 := h r.2.2.2.1 (Hp.cl, Dp.digs 10 r.2.2.2.2.toNat)
    omega
  · simp
theorem name_str (k : Int) : ∃ nb, Rs.name k = .string nb := by
  unfold Rs.name
  split
  · exact ⟨_, rfl⟩
  · split
    · exact ⟨_, rfl⟩
    · split <;> exact ⟨_, rfl⟩
theorem walkHD (st : Int) (ev ck sz : Bool) (ln : Nat) (k : Int) (w : World) (hst : -9223372036854775808 ≤ st ∧ st ≤ 9223372036854775807) (hln : ln < 18446744073709551616) (hw : (Lit.int .i64 k).wf = true) (hk : KX w) :
    Calls Tryz.prog 5 #[repV (st, ev, ck, sz, (ln : Int)), .int .i64 k] w fun e w' => e = .returned (.bool true) ∧ Below w.heap.size w w' := by
  have HK := Lib.hid hk
  have HST := Lib.hid hst
  have HLN := Lib.hid hln
  have KN := Lib.hid rs_num
  have KW := Lib.hid rs_works
  clear hk hw hst hln
  obtain ⟨W1, hW1⟩ : ∃ z, w.alloc (repC (st, ev, ck, sz, (ln : Int))) = z := ⟨_, rfl⟩
  obtain ⟨A, hA⟩ : ∃ z, w.heap.size = z := ⟨_, rfl⟩
  have HB := Lib.hid (show Below w.heap.size w W1 by rw [← hW1]; exact (Below.refl _ _).alloc (Nat.le_refl _) _)
  have HR := Lib.hid (show W1.heap[A]? = some (repC (st, ev, ck, sz, (ln : Int))) by rw [← hW1, ← hA]; exact World.alloc_heap_new _ _)
  have HW1 := Lib.hid hW1
  have HA := Lib.hid hA
  unfold repC at HW1
  clear hW1 hA
  have K1 := Lib.hid (fun W (h : Tabs W) => rs_Head st ev ck sz ln W HST.out HLN.out h)
  have K2 := Lib.hid (fun W => rf_Head15 st ev ck sz ln W HST.out HLN.out)
  have HF := Lib.hid (head_few (st, ev, ck, sz, (ln : Int)))
  obtain ⟨o, ho⟩ : ∃ z, Rs.head (st, ev, ck, sz, (ln : Int)) = z := ⟨_, rfl⟩
  rw [ho] at K1 K2 HF
  clear ho
  obtain ⟨a0, a1, a2, a3, a4⟩ := rep_cell HR.out
  unfold repV at K1 K2 ⊢
  go_enter Tryz.func5, Tryz.ntmps5
  go_upto_region 1 with (fail)
  simp only at HW1
  rw [HA.out, HW1.out]
  go_wp2_with fail
  refine (K1.out W1 (HK.out.below HB.out).tabs).mono ?_
  rintro e w2 ⟨hd, hb⟩
  obtain ⟨v1, rfl, hv1⟩ := hd.one
  have HV1 := Lib.hid hv1
  have HR := Lib.hid (rep_load HR.out hb)
  have HB := Lib.hid (HB.out.trans (hb.mono HB.out.size))
  clear hd hb hv1 a0 a1 a2 a3 a4
  obtain ⟨F, fs, no, hF, hfs, hno⟩ : ∃ F fs no, (o.getD ([], [])).1 = F ∧ (o.getD ([], [])).2 = fs ∧ (if o.isSome then (0 : Int) else 2) = no := ⟨_, _, _, rfl, rfl, rfl⟩
  have hF2 := hF
  have hfs2 := hfs
  have hno2 := hno
  rw [hF, hno]
  rw [hfs] at HV1 HF
  obtain ⟨p1, c1, rfl⟩ := HV1.out.slice
  obtain ⟨n, hn⟩ : ∃ n, fs.length = n := ⟨_, rfl⟩
  have HN := Lib.hid hn
  obtain ⟨fb, hfb⟩ : ∃ z : ByteArray, (⟨F.toArray⟩ : ByteArray) = z := ⟨_, rfl⟩
  have HSX := Lib.hid (show Hp.sx F = .string fb by rw [← hfb]; rfl)
  rw [hn] at HV1 ⊢
  rw [HSX.out]
  clear hfb hn hF hfs hno
  go_upto_region 2 with (fail)
  obtain ⟨D, hD⟩ : ∃ z, w2.heap.size = z := ⟨_, rfl⟩
  obtain ⟨w3, hw3⟩ : ∃ z, w2.alloc (.cells #[.string fb, .slice p1 n c1] 28) = z := ⟨_, rfl⟩
  have hb : Below w2.heap.size w2 w3 := by rw [← hw3]; exact (Below.refl _ _).alloc (Nat.le_refl _) _
  have HD := Lib.hid (show w3.heap[D]? = some (.cells #[.string fb, .slice p1 n c1] 28 (0, 0)) by rw [← hw3, ← hD]; exact World.alloc_heap_new _ _)
  rw [hD, hw3]
  have HV1 := Lib.hid (HV1.out.below hb)
  have HR := Lib.hid (rep_load HR.out hb)
  have HB := Lib.hid (HB.out.trans (hb.mono HB.out.size))
  clear hb hD hw3
  obtain ⟨a0, a1, a2, a3, a4⟩ := rep_cell HR.out
  go_wp2_with fail
  refine (K2.out w3).mono ?_
  rintro e w4 ⟨hd, hb⟩
  obtain ⟨v2, rfl, hv2⟩ := hd.one
  have HD := Lib.hid ((hb.block _ (Array.getElem?_eq_some_iff.1 HD.out).1).trans HD.out)
  have HV1 := Lib.hid (HV1.out.below hb)
  have HB := Lib.hid (HB.out.trans (hb.mono HB.out.size))
  clear hd hb a0 a1 a2 a3 a4
  rw [hF2, hno2]
  rw [hfs2] at hv2
  have HV2 := Lib.hid hv2
  obtain ⟨p2, c2, rfl⟩ := hv2.slice
  clear hv2
  rw [HN.out] at HV2 ⊢
  rw [HSX.out]
  go_upto_region 3 with (fail)
  obtain ⟨D2, hD⟩ : ∃ z, w4.heap.size = z := ⟨_, rfl⟩
  obtain ⟨w5, hw5⟩ : ∃ z, w4.alloc (.cells #[.string fb, .slice p2 n c2] 28) = z := ⟨_, rfl⟩
  have hb : Below w4.heap.size w4 w5 := by rw [← hw5]; exact (Below.refl _ _).alloc (Nat.le_refl _) _
  have HD2 := Lib.hid (show w5.heap[D2]? = some (.cells #[.string fb, .slice p2 n c2] 28 (0, 0)) by rw [← hw5, ← hD]; exact World.alloc_heap_new _ _)
  rw [hD, hw5]
  have HV1 := Lib.hid (HV1.out.below hb)
  have HV2 := Lib.hid (HV2.out.below hb)
  have HD := Lib.hid ((hb.block _ (Array.getElem?_eq_some_iff.1 HD.out).1).trans HD.out)
  have HB := Lib.hid (HB.out.trans (hb.mono HB.out.size))
  clear hb hD hw5
  have d0 : w5.cell? ⟨D, 0, none⟩ = some (.string fb) := by simp [World.cell?, HD.out]
  have d1 : w5.cell? ⟨D, 1, none⟩ = some (.slice p1 n c1) := by simp [World.cell?, HD.out]
  have d2 : w5.cell? ⟨D2, 0, none⟩ = some (.string fb) := by simp [World.cell?, HD2.out]
  have d3 : w5.cell? ⟨D2, 1, none⟩ = some (.slice p2 n c2) := by simp [World.cell?, HD2.out]
  have K3 := Lib.hid (rf_Same F _ _ fs w5 HV1.out HV2.out (by have := HF.out; omega))
  rw [HSX.out] at K3
  have e1 : (no == no) = true := beq_self_eq_true _
  go_wp2_with fail
  refine K3.out.mono ?_
  rintro e w6 ⟨rfl, hb⟩
  have HB := Lib.hid (HB.out.trans (hb.mono HB.out.size))
  clear hb d0 d1 d2 d3 K3
  go_wp2_with fail
  refine (KN.out _ _).mono ?_
  rintro e w' ⟨rfl, hw⟩
  subst w'
  obtain ⟨nb, hnb⟩ := name_str k
  have K4 := Lib.hid (rs_Name k w6)
  rw [hnb] at K4
  have e2 : (nb.toList == nb.toList) = true := beq_self_eq_true _
  go_wp2_with fail
  refine K4.out.mono ?_
  rintro e w7 ⟨rfl, hb⟩
  have HB := Lib.hid (HB.out.trans (hb.mono HB.out.size))
  have K5 := Lib.hid (ref_Name15 k w7)
  rw [hnb] at K5
  clear hb K4
  go_wp2_with fail
  refine K5.out.mono ?_
  rintro e w8 ⟨rfl, hb⟩
  have HB := Lib.hid (HB.out.trans (hb.mono HB.out.size))
  clear hb K5
  go_wp2_with fail
  refine (KW.out w8 (HK.out.below HB.out).kr).mono ?_
  rintro e w9 ⟨rfl, hb⟩
  have HB := Lib.hid (HB.out.trans (hb.mono HB.out.size))
  clear hb
  go_wp2_with fail
  go_ret
  exact ⟨rfl, HB.out⟩
end Go.Proofs.YtheaichiglfmjaaGreatDoor
