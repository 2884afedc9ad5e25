/- Texts of this claim, one behind the other: Qv, Vg, Vh, Vi, RA, RB, Vf, Vd, Vj, Vk. -/
import Derived.Test.YtheaichiglfmjaaGreatDoorCHEm1
import Derived.Test.YtheaichiglfmjaaGreatDoorQtm3
import Derived.Test.YtheaichiglfmjaaGreatDoorQtm2
import Derived.Test.YtheaichiglfmjaaGreatDoorQtm1
import Derived.Laws.OwnMore
import Derived.Lib.ItoaMem
import Derived.SizedLaws
import Derived.WideShapes
import Derived.ChangeSlices
import Derived.ChangeSame
import Derived.OpenShut
import Derived.Test.YtheaichiglfmjaaGreatDoorQtm4
import Derived.RangeFuncBox
import Derived.OwnWalkIn
import Derived.TacticsInMore
import Derived.LoopNIn
import Derived.LoopIn
/- head: Check of any head (one that gives up is caught). -/
namespace Go.Proofs.YtheaichiglfmjaaGreatDoor
set_option linter.unusedVariables false
set_option linter.unusedSimpArgs false
open Go.RowKit Go.Shelf
set_option maxHeartbeats 8000000
set_option maxRecDepth 100000
theorem hd_must_no (n : Int) (w : World) :
    Calls Tryz.prog 55 #[.bool false, .int .i64 n] w fun e w' => e = .panicked [{ v := errno n, recovered := false }] ∧ w' = w := by
  go_enter Tryz.func55, Tryz.ntmps55
  go_wp2
  all_goals first | contradiction | simp [errno, bodyPost]
theorem hd_caught (p : Addr) (n : Int) (older : List PanicEntry) (w : World) (old : Value) (hc : w.cell? p = some old) (hz : w.frozen? p = false) :
    CallsD Tryz.prog 54 #[.pointer (some p)] (.panicking ({ v := errno n, recovered := false } :: older)) w fun e u' w' =>
      e = .returned (.tuple #[]) ∧ u' = .panicking ({ v := errno n, recovered := true } :: older) ∧ w' = w.setCell p (.int .i64 n) := by
  refine callsD_of_wpS Tryz.func54 rfl fun c₀ cs hu => ?_
  apply wpS_seq
  apply wpS_region
  simp [wpOpsS, go_sem, recoverD, hu, Tryz.ntmps54, Exit.thenS]
  apply wpS_seq
  apply wpS_region
  simp [wpOpsS, go_sem, recoverD, hu, Exit.thenS, errno]
  refine wpS_cond (t := true) (by simp [Act.eval, Array.replicate]) ?_
  simp only [if_true]
  refine wpS_of_wp ?_
  simp [Array.replicate, List.replicate, List.setIfInBounds_toArray]
  have hta : ∀ (v : Value) (W : World), (Instr.typeAssert (.iface 40 v) 20 40 true).run Tryz.prog W = .ok (.tuple #[v, .bool true]) W := errno_is
  go_wp2_with fail
  simp [bodyPostS, results, Tryz.results54, go_sem]
/-- how Check gives up -/
theorem hd_door (a : Act) (E : Nat) (W : World) (Q : Ending → World → Prop) (hd : a.defers = [{ target := Target.fn (Fn.func 54) #[], args := #[.pointer (some ⟨E, 0, none⟩)] }]) (h2 : a.tmps.getD 2 undef = .pointer (some ⟨E, 0, none⟩))
    (hE : W.heap[E]? = some (.cells #[.int .i64 0] 40 (0, 0))) (hQ : Q (.returned (.int .i64 2)) (W.setCell ⟨E, 0, none⟩ (.int .i64 2))) :
    bodyPostD Tryz.prog Tryz.f32 Q (.panic [{ v := errno 2, recovered := false }]) a W := by
  obtain ⟨tm, df⟩ := a
  simp only at hd h2
  subst hd
  have e2 := rg_ev (a := ⟨tm, []⟩) h2
  simp only at e2
  have c2 : W.cell? ⟨E, 0, none⟩ = some (.int .i64 0) := by simp [World.cell?, hE]
  have z2 : W.frozen? ⟨E, 0, none⟩ = false := frozen_of_row _ _ _ _ _ hE
  refine leaves_cons (f := 54) (args := #[.pointer (some ⟨E, 0, none⟩)]) (by simp) (by simp [go_sem]) ?_
  refine (hd_caught ⟨E, 0, none⟩ 2 [] W _ c2 z2).mono ?_
  rintro e u' w'' ⟨rfl, rfl, rfl⟩
  have hE2 : (W.setCell ⟨E, 0, none⟩ (.int .i64 2)).heap[E]? = some (.cells #[.int .i64 2] 40 (0, 0)) := heap_setCell_same _ _ 0 _ _ _ hE
  have xe : (W.setCell ⟨E, 0, none⟩ (.int .i64 2)).cell? ⟨E, 0, none⟩ = some (.int .i64 2) := by simp [World.cell?, hE2]
  obtain ⟨X, hX⟩ : ∃ X, W.setCell ⟨E, 0, none⟩ (.int .i64 2) = X := ⟨_, rfl⟩
  rw [hX] at xe hQ ⊢
  clear hX hE2 c2 z2 hE
  simp [Leaves, settle, results, Tryz.results32, go_sem, e2, xe]
  exact hQ
theorem ck_callno {P : Program} {o : Oper} {a : Act} {w : World} {K : Act → World → Prop} {Q : Exit → Act → World → Prop} (t k : Nat) (ty : Array TypeId) (v c : Value) (ch : List PanicEntry) (R : Ending → World → Prop) (ho : o.op = Op.call { callee := .value (.func k), args := #[.tmp t, .const c], argTypes := ty }) (hv : a.tmps.getD t undef = v)
    (eg : ∀ args w, (callFunc k args).run P w = .ok (.enter k args) w) (hc : Calls P k #[v, c] w R) (hR : ∀ e w', R e w' → e = .panicked ch ∧ Q (.panic ch) a w') : o.wp P a w K Q := by
  have e := rg_ev hv
  have e2 : a.eval (.func k) = .func (.func k) #[] #[] := rfl
  have e3 : a.eval (.const c) = c := rfl
  unfold Oper.wp execOp
  simp [ho, resolve, invoke, e2, e3, e, eg, go_sem]
  refine hc.mono ?_
  intro z w' hz
  obtain ⟨rfl, hk⟩ := hR z w' hz
  exact hk
def ckGA (V : Nat) (nb vb lb : ByteArray) : Nat → World → Value → Prop
  | 0, _, v => v = .pointer (some ⟨V, 0, none⟩)
  | 1, _, v => v = .string nb
  | 2, _, v => v = .bool false
  | 3, _, v => v = .bool false
  | 4, _, v => v = undef
  | 5, _, v => v = undef
  | 6, _, v => v = undef
  | 7, _, v => v = undef
  | 8, _, v => v = undef
  | 9, _, v => v = undef
  | 10, _, v => v = .bool false
  | 11, _, v => v = .bool false
  | 12, _, v => v = undef
  | 13, _, v => v = undef
  | 14, _, v => v = undef
  | 15, _, v => v = .bool false
  | 16, w, v => False
  | _, _, _ => False
def ckGB (V : Nat) (nb vb lb : ByteArray) : Nat → World → Value → Prop
  | 0, _, v => v = .pointer (some ⟨V, 0, none⟩)
  | 1, _, v => v = .string nb
  | 2, _, v => v = .bool true
  | 3, _, v => v = .bool true
  | 4, _, v => v = .pointer (some ⟨V, 0, none⟩)
  | 5, _, v => v = .string nb
  | 6, _, v => v = .string lb
  | 7, _, v => v = .pointer (some ⟨V, 0, none⟩)
  | 8, _, v => v = .string nb
  | 9, _, v => v = .bool false
  | 10, _, v => v = .bool false
  | 11, _, v => v = .bool false
  | 12, _, v => v = undef
  | 13, _, v => v = undef
  | 14, _, v => v = undef
  | 15, _, v => v = .bool false
  | 16, w, v => False
  | _, _, _ => False
def ckGC (V : Nat) (nb vb lb : ByteArray) : Nat → World → Value → Prop
  | 0, _, v => v = .pointer (some ⟨V, 0, none⟩)
  | 1, _, v => v = .string nb
  | 2, _, v => v = .bool true
  | 3, _, v => v = .bool true
  | 4, _, v => v = .pointer (some ⟨V, 0, none⟩)
  | 5, _, v => v = .string nb
  | 6, _, v => v = .string lb
  | 7, _, v => v = .pointer (some ⟨V, 0, none⟩)
  | 8, _, v => v = .string nb
  | 9, _, v => v = .bool true
  | 10, _, v => v = .bool true
  | 11, _, v => v = .bool true
  | 12, _, v => v = .pointer (some ⟨V, 1, none⟩)
  | 13, _, v => v = .string vb
  | 14, _, v => v = .bool false
  | 15, _, v => v = .bool false
  | 16, w, v => False
  | _, _, _ => False
def ckGD (V : Nat) (nb vb lb : ByteArray) : Nat → World → Value → Prop
  | 0, _, v => v = .pointer (some ⟨V, 0, none⟩)
  | 1, _, v => v = .string nb
  | 2, _, v => v = .bool true
  | 3, _, v => v = .bool true
  | 4, _, v => v = .pointer (some ⟨V, 0, none⟩)
  | 5, _, v => v = .string nb
  | 6, _, v => v = .string lb
  | 7, _, v => v = .pointer (some ⟨V, 0, none⟩)
  | 8, _, v => v = .string nb
  | 9, _, v => v = .bool true
  | 10, _, v => v = .bool true
  | 11, _, v => v = .bool true
  | 12, _, v => v = .pointer (some ⟨V, 1, none⟩)
  | 13, _, v => v = .string vb
  | 14, _, v => v = .bool true
  | 15, _, v => v = .bool true
  | 16, _, v => v = .tuple #[]
  | _, _, _ => False
theorem blank_first {c : UInt8} (h : (c.toNat : Int) = 9 ∨ (c.toNat : Int) = 32) : Tp.trim [c] = [] := by
  have : c = 9 ∨ c = 32 := h.imp (fun h => UInt8.toNat_inj.1 (by have : (9 : UInt8).toNat = 9 := rfl; omega)) (fun h => UInt8.toNat_inj.1 (by have : (32 : UInt8).toNat = 32 := rfl; omega))
  rcases this with rfl | rfl <;> decide
theorem hd_CheckG (F : List UInt8) (v : Value) (fs : List Hp.Hd) (w : World) (hv : HS w v fs) (hF : F.length ≤ 100000) (hl : fs.length ≤ 1000) (hs : ∀ f ∈ fs, f.1.length ≤ 100000 ∧ f.2.length ≤ 100000) :
    Calls Tryz.prog 32 #[.agg #[Hp.sx F, v]] w fun e w' => e = .returned (.int .i64 (if Hr.okB F fs then 0 else 2)) ∧ Below w.heap.size w w' := by
  by_cases hok : Hr.okB F fs = true
  · rw [if_pos hok]
    exact hd_Check F v fs w hv (Hr.hok_of hok) hF (by omega) hs
  rw [if_neg hok]
  have hok : Hr.okB F fs = false := by simpa using hok
  obtain ⟨p, c, rfl⟩ := hv.slice
  obtain ⟨N, hN⟩ : ∃ N, fs.length = N := ⟨_, rfl⟩
  rw [hN] at hv hl ⊢
  unfold Hp.sx
  obtain ⟨fb, hfb⟩ : ∃ z : ByteArray, (⟨F.toArray⟩ : ByteArray) = z := ⟨_, rfl⟩
  rw [hfb]
  have hfs : fb.size ≤ 100000 := by rw [← hfb]; exact hF
  obtain ⟨H, hH⟩ : ∃ H, w.heap.size = H := ⟨_, rfl⟩
  obtain ⟨W2, hW2⟩ : ∃ Z, (w.alloc (.cells #[.string fb, .slice p N c] 28)).alloc (.cells #[.int .i64 0] 40) = Z := ⟨_, rfl⟩
  have HB2 := Lib.hid (show Below H w W2 by rw [← hW2, ← hH]; exact ((Below.refl _ _).alloc (Nat.le_refl _) _).alloc (by simp) _)
  have HZ2 := Lib.hid (show W2.heap.size = H + 2 by rw [← hW2, ← hH]; simp)
  have HG0 := Lib.hid (show W2.heap[H]? = some (.cells #[.string fb, .slice p N c] 28 (0, 0)) by
    rw [← hW2, ← hH, Below.heap_alloc _ _ _ (by simp)]; exact World.alloc_heap_new _ _)
  have HG1 := Lib.hid (show W2.heap[H + 1]? = some (.cells #[.int .i64 0] 40 (0, 0)) by
    rw [← hW2, ← hH]
    have := World.alloc_heap_new (w.alloc (.cells #[.string fb, .slice p N c] 28)) (.cells #[.int .i64 0] 40)
    simpa using this)
  have HV2 := Lib.hid (hv.below (by rw [hH]; exact HB2.out))
  -- how it gives up at any world that goes on from the start
  have HDOOR := Lib.hid (show ∀ (a : Act) (W : World), a.defers = [{ target := Target.fn (Fn.func 54) #[], args := #[.pointer (some ⟨H + 1, 0, none⟩)] }] → a.tmps.getD 2 undef = .pointer (some ⟨H + 1, 0, none⟩) → Below W2.heap.size W2 W →
      bodyPostD Tryz.prog Tryz.f32 (fun e w' => e = .returned (.int .i64 2) ∧ Below w.heap.size w w') (.panic [{ v := errno 2, recovered := false }]) a W from fun a W hd h2 hb => by
    refine hd_door a (H + 1) W _ hd h2 ((hb.block _ (Array.getElem?_eq_some_iff.1 HG1.out).1).trans HG1.out) ⟨rfl, ?_⟩
    rw [hH]
    exact (HB2.out.trans (hb.mono (by rw [HZ2.out]; omega))).setCell (Nat.le_succ _) _)
  have HW2 := Lib.hid hW2
  have HHH := Lib.hid hH
  have HNN := Lib.hid hN
  have HSS := Lib.hid hs
  have HFB := Lib.hid hfb
  have HOK := Lib.hid hok
  have a0 : W2.cell? ⟨H, 0, none⟩ = some (.string fb) := by simp [World.cell?, HG0.out]
  have a1 : W2.cell? ⟨H, 1, none⟩ = some (.slice p N c) := by simp [World.cell?, HG0.out]
  have KMN := Lib.hid (hd_must_no 2)
  clear hv hok hs hN hH hW2 hfb
  by_cases h0 : fb.size = 0
  · have hf0 : fb = ⟨#[]⟩ := by
      obtain ⟨d⟩ := fb
      simp only [ByteArray.size, Array.size_eq_zero_iff] at h0
      rw [h0]
    subst hf0
    go_enter_defers Tryz.func32, Tryz.ntmps32
    go_wp2_with fail
    rw [HHH.out, HW2.out]
    go_wp2_with fail
    refine (KMN.out W2).mono ?_
    rintro e w5 ⟨rfl, hw5⟩
    subst w5
    exact HDOOR.out _ _ rfl rfl (Below.refl _ _)
  · have hpos : 0 < fb.size := Nat.pos_of_ne_zero h0
    have hne : (fb.toList == []) = false := by
      rw [ByteArray.toList_eq, beq_eq_false_iff_ne]
      intro h
      apply h0
      show fb.data.size = 0
      rw [← Array.length_toList, h]; rfl
    obtain ⟨c0, F', hFF⟩ : ∃ c0 F', F = c0 :: F' := by
      match F, HFB.out with
      | [], h => exfalso; apply h0; rw [← h]; rfl
      | c0 :: F', _ => exact ⟨c0, F', rfl⟩
    have hba := x_mid F
    have hta := take_one F
    rw [HFB.out] at hba hta
    have hsl : ∀ W, (Instr.slice 9 (.string fb) none (some (.int .i64 1)) none).run Tryz.prog W = .ok (.string (fb.extract 0 1)) W := fun W => by
      have h2 : (1 : Int) ≤ fb.size := by omega
      simp [go_sem, Tryz.underlying9, h2]
    obtain ⟨tb, htb⟩ : ∃ z : ByteArray, fb.extract 0 1 = z := ⟨_, rfl⟩
    rw [htb] at hta hsl
    have htbs : tb.size ≤ 9223372036854775807 := by
      have h1 : tb.data.toList.length = tb.size := rfl
      rw [hta, List.length_take] at h1; omega
    have KT := Lib.hid (fun W => tok_trim tb W htbs)
    have HTA := Lib.hid (show tb.data.toList = [c0] by rw [hta, hFF]; rfl)
    clear hta htb htbs
    by_cases hbl : (c0.toNat : Int) = 9 ∨ (c0.toNat : Int) = 32
    · have hub : (⟨(Tp.trim tb.data.toList).toArray⟩ : ByteArray) = ⟨#[]⟩ := by rw [HTA.out, blank_first hbl]
      rw [hub] at KT
      clear hbl hub hba
      go_enter_defers Tryz.func32, Tryz.ntmps32
      go_wp2_with fail
      rw [HHH.out, HW2.out]
      refine (KT.out W2).mono ?_
      rintro e w3 ⟨rfl, hb3⟩
      have HC3 := Lib.hid hb3
      clear hb3 a0 a1
      go_wp2_with fail
      refine (KMN.out w3).mono ?_
      rintro e w5 ⟨rfl, hw5⟩
      subst w5
      exact HDOOR.out _ _ rfl rfl HC3.out
    · have hbl1 : Tp.blankB c0 = false := by
        rw [not_or] at hbl
        unfold Tp.blankB Tp.blank
        simp
        omega
      obtain ⟨ub, hub⟩ : ∃ z : ByteArray, (⟨(Tp.trim tb.data.toList).toArray⟩ : ByteArray) = z := ⟨_, rfl⟩
      have hun : (ub.toList == []) = false := by
        rw [← hub, ByteArray.toList_eq, HTA.out]
        have : Tp.trim [c0] = [c0] := by
          unfold Tp.trim
          rw [Hp.trimL_no hbl1, show [c0] = [] ++ [c0] from rfl, Hp.trimR_no hbl1]
        rw [this]; rfl
      rw [hub] at KT
      obtain ⟨xb, hxb⟩ : ∃ z : ByteArray, (⟨#[120]⟩ : ByteArray) ++ fb ++ ⟨#[120]⟩ = z := ⟨_, rfl⟩
      rw [hxb] at hba
      have hxbs : xb.size ≤ 9223372036854775807 := by
        have h1 : xb.data.toList.length = xb.size := rfl
        rw [hba] at h1; simp at h1; omega
      have KV := Lib.hid (fun W => tok_value xb W hxbs)
      rw [hba] at KV
      have HXB := Lib.hid hxb
      have HO2 := Lib.hid (show (Tp.isVal (120 :: F ++ [120]) && fs.all Hr.fldB) = false by
        have h := HOK.out
        unfold Hr.okB at h
        rw [hFF] at h ⊢
        rw [not_or] at hbl
        simpa [hbl.1, hbl.2] using h)
      obtain ⟨bv, hbv⟩ : ∃ z, Tp.isVal (120 :: F ++ [120]) = z := ⟨_, rfl⟩
      rw [hbv] at KV HO2
      clear hub hba hxb hxbs hbl hbl1 hFF hbv
      go_enter_defers Tryz.func32, Tryz.ntmps32
      go_wp2_with fail
      rw [HHH.out, HW2.out]
      refine (KT.out W2).mono ?_
      rintro e w3 ⟨rfl, hb3⟩
      have HC3 := Lib.hid hb3
      have hg3 := (hb3.block H (by rw [HZ2.out]; omega)).trans HG0.out
      have b0 : w3.cell? ⟨H, 0, none⟩ = some (.string fb) := by simp [World.cell?, hg3]
      clear hb3 hg3 a0 a1
      go_wp2_with fail
      rw [HXB.out]
      refine (KV.out w3).mono ?_
      rintro e w4 ⟨rfl, hb4⟩
      have HC4 := Lib.hid (HC3.out.trans (hb4.mono HC3.out.size))
      clear hb4 b0
      cases bv
      · go_wp2_with fail
        refine (KMN.out w4).mono ?_
        rintro e w5 ⟨rfl, hw5⟩
        subst w5
        exact HDOOR.out _ _ rfl rfl HC4.out
      · go_wp2_with fail
        refine (hd_must 2 w4).mono ?_
        rintro e w5 ⟨rfl, hw5⟩
        subst w5
        have hg4 := (HC4.out.block H (by rw [HZ2.out]; omega)).trans HG0.out
        have b1 : w4.cell? ⟨H, 1, none⟩ = some (.slice p N c) := by simp [World.cell?, hg4]
        clear hg4
        go_wp2_with fail
        clear b1
        go_loopw [26] (fun i wr => ∃ k : Nat, k ≤ N ∧ i = .int .i64 k ∧ (fs.take k).all Hr.fldB = true ∧ Below W2.heap.size W2 wr) (fun i _ => N - (intOf i).toNat)
        case atStart => exact ⟨0, Nat.zero_le _, rfl, rfl, HC4.out⟩
        case round =>
          obtain ⟨k, hk, rfl, hall, hbl⟩ := hrel
          have HALL := Lib.hid hall
          have HBL := Lib.hid hbl
          clear hbl hall
          by_cases hlt : k < N
          · obtain ⟨g1, o1, rfl, hc1⟩ := (HV2.out.below HBL.out).cells (k := k) (by rw [HNN.out]; exact hlt)
            obtain ⟨hx, hy⟩ := hc1 k (by rw [HNN.out]; exact hlt)
            have HTK := Lib.hid (show fs.take (k + 1) = fs.take k ++ [fs.getD k ([], [])] by
              rw [List.take_add_one, List.getElem?_eq_getElem (by rw [HNN.out]; exact hlt), List.getD_eq_getElem?_getD, List.getElem?_eq_getElem (by rw [HNN.out]; exact hlt)]; rfl)
            have hszf := HSS.out (fs.getD k ([], [])) (by rw [List.getD_eq_getElem?_getD, List.getElem?_eq_getElem (by rw [HNN.out]; exact hlt)]; exact List.getElem_mem _)
            obtain ⟨⟨n0, v0⟩, hf⟩ : ∃ x, fs.getD k ([], []) = x := ⟨_, rfl⟩
            rw [hf] at hx hy HTK hszf
            unfold Hp.sx at hx hy
            simp only at hx hy hszf
            obtain ⟨nb, hnb⟩ : ∃ z : ByteArray, (⟨n0.toArray⟩ : ByteArray) = z := ⟨_, rfl⟩
            obtain ⟨vb, hvb⟩ : ∃ z : ByteArray, (⟨v0.toArray⟩ : ByteArray) = z := ⟨_, rfl⟩
            rw [hnb] at hx
            rw [hvb] at hy
            have hns : nb.size ≤ 100000 := by rw [← hnb]; exact hszf.1
            have hvs : vb.size ≤ 100000 := by rw [← hvb]; exact hszf.2
            have KT0 := fun W => tok_token nb W (by omega)
            have KL0 := fun W => tok_lower nb W (by omega)
            have KV0 := fun W => tok_value vb W (by omega)
            rw [show nb.data.toList = n0 by rw [← hnb]] at KT0 KL0
            rw [show vb.data.toList = v0 by rw [← hvb]] at KV0
            obtain ⟨lb, hlb⟩ : ∃ z : ByteArray, (⟨(Tp.lower n0).toArray⟩ : ByteArray) = z := ⟨_, rfl⟩
            rw [hlb] at KL0
            have hq : (lb.toList == nb.toList) = (Tp.lower n0 == n0) := by
              rw [← hlb, ← hnb, ByteArray.toList_eq, ByteArray.toList_eq]
            obtain ⟨q1, hq1⟩ : ∃ z, Tp.isTok n0 = z := ⟨_, rfl⟩
            obtain ⟨q2, hq2⟩ : ∃ z, (Tp.lower n0 == n0) = z := ⟨_, rfl⟩
            obtain ⟨q3, hq3⟩ : ∃ z, Tp.isVal v0 = z := ⟨_, rfl⟩
            rw [hq1] at KT0
            rw [hq2] at hq
            rw [hq3] at KV0
            have HFB2 := Lib.hid (show Hr.fldB (n0, v0) = (q1 && q2 && q3) by rw [← hq1, ← hq2, ← hq3]; rfl)
            have KTO := Lib.hid KT0
            have KLO := Lib.hid KL0
            have KVA := Lib.hid KV0
            have HQ := Lib.hid hq
            obtain ⟨V, hV⟩ : ∃ z, wr.heap.size = z := ⟨_, rfl⟩
            obtain ⟨W6, hW6⟩ : ∃ Z, wr.alloc (.cells #[.string nb, .string vb] 56) = Z := ⟨_, rfl⟩
            have hb6 : Below wr.heap.size wr W6 := by rw [← hW6]; exact (Below.refl _ _).alloc (Nat.le_refl _) _
            have HB6 := Lib.hid (HBL.out.trans (hb6.mono HBL.out.size))
            have hg6 : W6.heap[V]? = some (.cells #[.string nb, .string vb] 56 (0, 0)) := by rw [← hW6, ← hV]; exact World.alloc_heap_new _ _
            have HVL0 := Lib.hid (show V < W6.heap.size from (Array.getElem?_eq_some_iff.1 hg6).1)
            have HC0 := Lib.hid (show W6.cell? ⟨V, 0, none⟩ = some (.string nb) by simp [World.cell?, hg6])
            have HC1 := Lib.hid (show W6.cell? ⟨V, 1, none⟩ = some (.string vb) by simp [World.cell?, hg6])
            have HW6 := Lib.hid hW6
            have HVV := Lib.hid hV
            clear hf hszf hnb hvb KT0 KL0 KV0 hlb hq hq1 hq2 hq3 hns hvs hc1 hb6 hg6 hW6 hV
            go_wp2_with fail
            rw [HVV.out, HW6.out]
            clear hx hy
            cases q1
            · refine region_slotsP (fun i => 30 + min i 16) (ckGA V nb vb lb) (fun i => ([true, true, true, true, false, false, false, false, false, false, true, true, false, false, false, true, true] : List Bool).getD i true) (by kernel_rfl) (by kernel_rfl) (fun i => by show 30 + min i 16 < _; simp; omega) (fun i j hi hj h => by have hi : i < 17 := hi; have hj : j < 17 := hj; omega) ?mono ?dst ?gu ?ng ?skip ?step ?done
              case mono =>
                intro i W W' v h hbw
                match i, h with
                | 0, h | 1, h | 2, h | 3, h | 4, h | 5, h | 6, h | 7, h | 8, h | 9, h | 10, h | 11, h | 12, h | 13, h | 14, h | 15, h | 16, h => exact h
                | n + 17, h => exact h.elim
              case dst =>
                intro i o ho
                match i, ho with
                | 0, ho | 1, ho | 2, ho | 3, ho | 4, ho | 5, ho | 6, ho | 7, ho | 8, ho | 9, ho | 10, ho | 11, ho | 12, ho | 13, ho | 14, ho | 15, ho | 16, ho => cases ho; rfl
                | n + 17, ho => exact absurd ho (by simp)
              case gu =>
                intro i o g b ho hgd W v hv
                match i, ho with
                | 0, ho => cases ho; cases hgd
                | 1, ho => cases ho; cases hgd
                | 2, ho => cases ho; cases hgd
                | 3, ho => cases ho; cases hgd
                | 4, ho => cases ho; cases hgd; first | exact .inl hv | exact .inr ⟨rfl, hv⟩
                | 5, ho => cases ho; cases hgd; first | exact .inl hv | exact .inr ⟨rfl, hv⟩
                | 6, ho => cases ho; cases hgd; first | exact .inl hv | exact .inr ⟨rfl, hv⟩
                | 7, ho => cases ho; cases hgd; first | exact .inl hv | exact .inr ⟨rfl, hv⟩
                | 8, ho => cases ho; cases hgd; first | exact .inl hv | exact .inr ⟨rfl, hv⟩
                | 9, ho => cases ho; cases hgd; first | exact .inl hv | exact .inr ⟨rfl, hv⟩
                | 10, ho => cases ho; cases hgd
                | 11, ho => cases ho; cases hgd
                | 12, ho => cases ho; cases hgd; first | exact .inl hv | exact .inr ⟨rfl, hv⟩
                | 13, ho => cases ho; cases hgd; first | exact .inl hv | exact .inr ⟨rfl, hv⟩
                | 14, ho => cases ho; cases hgd; first | exact .inl hv | exact .inr ⟨rfl, hv⟩
                | 15, ho => cases ho; cases hgd
                | 16, ho => cases ho; cases hgd
                | n + 17, ho => exact absurd ho (by simp)
              case ng =>
                intro i o ho hgd
                match i, ho with
                | 0, ho => cases ho; first | rfl | cases hgd
                | 1, ho => cases ho; first | rfl | cases hgd
                | 2, ho => cases ho; first | rfl | cases hgd
                | 3, ho => cases ho; first | rfl | cases hgd
                | 4, ho => cases ho; first | rfl | cases hgd
                | 5, ho => cases ho; first | rfl | cases hgd
                | 6, ho => cases ho; first | rfl | cases hgd
                | 7, ho => cases ho; first | rfl | cases hgd
                | 8, ho => cases ho; first | rfl | cases hgd
                | 9, ho => cases ho; first | rfl | cases hgd
                | 10, ho => cases ho; first | rfl | cases hgd
                | 11, ho => cases ho; first | rfl | cases hgd
                | 12, ho => cases ho; first | rfl | cases hgd
                | 13, ho => cases ho; first | rfl | cases hgd
                | 14, ho => cases ho; first | rfl | cases hgd
                | 15, ho => cases ho; first | rfl | cases hgd
                | 16, ho => cases ho; first | rfl | cases hgd
                | n + 17, ho => exact absurd ho (by simp)
              case skip =>
                intro i W hi hsel
                match i, hi, hsel with
                | 0, _, hsel => first | exact absurd hsel (by decide) | rfl
                | 1, _, hsel => first | exact absurd hsel (by decide) | rfl
                | 2, _, hsel => first | exact absurd hsel (by decide) | rfl
                | 3, _, hsel => first | exact absurd hsel (by decide) | rfl
                | 4, _, hsel => first | exact absurd hsel (by decide) | rfl
                | 5, _, hsel => first | exact absurd hsel (by decide) | rfl
                | 6, _, hsel => first | exact absurd hsel (by decide) | rfl
                | 7, _, hsel => first | exact absurd hsel (by decide) | rfl
                | 8, _, hsel => first | exact absurd hsel (by decide) | rfl
                | 9, _, hsel => first | exact absurd hsel (by decide) | rfl
                | 10, _, hsel => first | exact absurd hsel (by decide) | rfl
                | 11, _, hsel => first | exact absurd hsel (by decide) | rfl
                | 12, _, hsel => first | exact absurd hsel (by decide) | rfl
                | 13, _, hsel => first | exact absurd hsel (by decide) | rfl
                | 14, _, hsel => first | exact absurd hsel (by decide) | rfl
                | 15, _, hsel => first | exact absurd hsel (by decide) | rfl
                | 16, _, hsel => first | exact absurd hsel (by decide) | rfl
                | n + 17, hi, _ => exact absurd hi (by simp)
              case step =>
                intro f a' W i o ho hsel hpre hbel hrest hdf
                match i, ho, hsel with
                | 0, ho, _ =>
                  cases ho
                  have q4 : a'.tmps.getD 4 undef = .pointer (some ⟨V, 0, none⟩) := (hrest 4 (by intro i hi; have hi : i < 17 := hi; show 30 + min i 16 ≠ _; omega))
                  have e4 := rg_ev q4
                  exact rg_same (.pointer (some ⟨V, 0, none⟩)) (by unfold Oper.wp execOp; go_simp; all_goals ((try simp only [e4]); (try go_simp); (try rw [if_pos (by omega)]); (try rw [if_neg (by omega)]); first | done | rfl | exact ⟨rfl, rfl⟩ | trivial)) rfl
                | 1, ho, _ =>
                  cases ho
                  have q30 : a'.tmps.getD 30 undef = .pointer (some ⟨V, 0, none⟩) := (hpre { on := 0, ground := .data } (by simp) rfl)
                  have c0 : W.cell? ⟨V, 0, none⟩ = some (.string nb) := (hbel.cell (p := ⟨V, 0, none⟩) HVL0.out).trans HC0.out
                  have e30 := rg_ev q30
                  exact rg_same (.string nb) (by unfold Oper.wp execOp; go_simp; all_goals ((try simp only [e30]); (try go_simp); (try rw [if_pos (by omega)]); (try rw [if_neg (by omega)]); first | done | rfl | exact ⟨rfl, rfl⟩ | trivial)) rfl
                | 2, ho, _ =>
                  cases ho
                  have q31 : a'.tmps.getD 31 undef = .string nb := (hpre { on := 1, ground := .data } (by simp) rfl)
                  exact rg_call 31 58 _ _ _ rfl q31 (enters_of Tryz.func58 (by kernel_rfl) rfl) (KTO.out W) (fun e w' h => ⟨_, h.1, _, rfl, rfl, h.2⟩)
                | 3, ho, _ =>
                  cases ho
                  have q32 : a'.tmps.getD 32 undef = .bool false := (hpre { on := 2, ground := .data } (by simp) rfl)
                  have e32 := rg_ev q32
                  exact rg_same (.bool false) (by unfold Oper.wp execOp; go_simp; all_goals ((try simp only [e32]); (try go_simp); (try rw [if_pos (by omega)]); (try rw [if_neg (by omega)]); first | done | rfl | exact ⟨rfl, rfl⟩ | trivial)) rfl
                | 4, ho, hsel => exact absurd hsel (by decide)
                | 5, ho, hsel => exact absurd hsel (by decide)
                | 6, ho, hsel => exact absurd hsel (by decide)
                | 7, ho, hsel => exact absurd hsel (by decide)
                | 8, ho, hsel => exact absurd hsel (by decide)
                | 9, ho, hsel => exact absurd hsel (by decide)
                | 10, ho, _ =>
                  cases ho
                  have q33 : a'.tmps.getD 33 undef = .bool false := (hpre { on := 3, ground := .data } (by simp) rfl)
                  have q39 : a'.tmps.getD 39 undef = undef := (hpre { on := 9, ground := .data } (by simp) rfl)
                  have e33 := rg_ev q33
                  have e39 := rg_ev q39
                  exact rg_same (.bool false) (by unfold Oper.wp execOp; go_simp; all_goals ((try simp only [e33, e39]); (try go_simp); (try rw [if_pos (by omega)]); (try rw [if_neg (by omega)]); first | done | rfl | exact ⟨rfl, rfl⟩ | trivial)) rfl
                | 11, ho, _ =>
                  cases ho
                  have q40 : a'.tmps.getD 40 undef = .bool false := (hpre { on := 10, ground := .data } (by simp) rfl)
                  have e40 := rg_ev q40
                  exact rg_same (.bool false) (by unfold Oper.wp execOp; go_simp; all_goals ((try simp only [e40]); (try go_simp); (try rw [if_pos (by omega)]); (try rw [if_neg (by omega)]); first | done | rfl | exact ⟨rfl, rfl⟩ | trivial)) rfl
                | 12, ho, hsel => exact absurd hsel (by decide)
                | 13, ho, hsel => exact absurd hsel (by decide)
                | 14, ho, hsel => exact absurd hsel (by decide)
                | 15, ho, _ =>
                  cases ho
                  have q41 : a'.tmps.getD 41 undef = .bool false := (hpre { on := 11, ground := .data } (by simp) rfl)
                  have q44 : a'.tmps.getD 44 undef = undef := (hpre { on := 14, ground := .data } (by simp) rfl)
                  have e41 := rg_ev q41
                  have e44 := rg_ev q44
                  exact rg_same (.bool false) (by unfold Oper.wp execOp; go_simp; all_goals ((try simp only [e41, e44]); (try go_simp); (try rw [if_pos (by omega)]); (try rw [if_neg (by omega)]); first | done | rfl | exact ⟨rfl, rfl⟩ | trivial)) rfl
                | 16, ho, _ =>
                  cases ho
                  have q45 : a'.tmps.getD 45 undef = .bool false := (hpre { on := 15, ground := .data } (by simp) rfl)
                  refine ck_callno 45 55 _ _ _ [{ v := errno 2, recovered := false }] _ rfl q45 (enters_of Tryz.func55 (by kernel_rfl) rfl) (KMN.out W) ?_
                  rintro e w' ⟨rfl, rfl⟩
                  exact ⟨rfl, HDOOR.out _ _ hdf (hrest 2 (by intro i hi; show 30 + min i 16 ≠ _; omega)) (HB6.out.trans (hbel.mono HB6.out.size))⟩
                | n + 17, ho, _ => exact absurd ho (by simp)
              case done =>
                intro vs W hbel hvs
                exact (hvs 16 (by decide)).elim
            · cases q2
              · have hn : (lb.toList == nb.toList) = false := HQ.out
                refine region_slotsP (fun i => 30 + min i 16) (ckGB V nb vb lb) (fun i => ([true, true, true, true, true, true, true, true, true, true, true, true, false, false, false, true, true] : List Bool).getD i true) (by kernel_rfl) (by kernel_rfl) (fun i => by show 30 + min i 16 < _; simp; omega) (fun i j hi hj h => by have hi : i < 17 := hi; have hj : j < 17 := hj; omega) ?mono ?dst ?gu ?ng ?skip ?step ?done
                case mono =>
                  intro i W W' v h hbw
                  match i, h with
                  | 0, h | 1, h | 2, h | 3, h | 4, h | 5, h | 6, h | 7, h | 8, h | 9, h | 10, h | 11, h | 12, h | 13, h | 14, h | 15, h | 16, h => exact h
                  | n + 17, h => exact h.elim
                case dst =>
                  intro i o ho
                  match i, ho with
                  | 0, ho | 1, ho | 2, ho | 3, ho | 4, ho | 5, ho | 6, ho | 7, ho | 8, ho | 9, ho | 10, ho | 11, ho | 12, ho | 13, ho | 14, ho | 15, ho | 16, ho => cases ho; rfl
                  | n + 17, ho => exact absurd ho (by simp)
                case gu =>
                  intro i o g b ho hgd W v hv
                  match i, ho with
                  | 0, ho => cases ho; cases hgd
                  | 1, ho => cases ho; cases hgd
                  | 2, ho => cases ho; cases hgd
                  | 3, ho => cases ho; cases hgd
                  | 4, ho => cases ho; cases hgd; first | exact .inl hv | exact .inr ⟨rfl, hv⟩
                  | 5, ho => cases ho; cases hgd; first | exact .inl hv | exact .inr ⟨rfl, hv⟩
                  | 6, ho => cases ho; cases hgd; first | exact .inl hv | exact .inr ⟨rfl, hv⟩
                  | 7, ho => cases ho; cases hgd; first | exact .inl hv | exact .inr ⟨rfl, hv⟩
                  | 8, ho => cases ho; cases hgd; first | exact .inl hv | exact .inr ⟨rfl, hv⟩
                  | 9, ho => cases ho; cases hgd; first | exact .inl hv | exact .inr ⟨rfl, hv⟩
                  | 10, ho => cases ho; cases hgd
                  | 11, ho => cases ho; cases hgd
                  | 12, ho => cases ho; cases hgd; first | exact .inl hv | exact .inr ⟨rfl, hv⟩
                  | 13, ho => cases ho; cases hgd; first | exact .inl hv | exact .inr ⟨rfl, hv⟩
                  | 14, ho => cases ho; cases hgd; first | exact .inl hv | exact .inr ⟨rfl, hv⟩
                  | 15, ho => cases ho; cases hgd
                  | 16, ho => cases ho; cases hgd
                  | n + 17, ho => exact absurd ho (by simp)
                case ng =>
                  intro i o ho hgd
                  match i, ho with
                  | 0, ho => cases ho; first | rfl | cases hgd
                  | 1, ho => cases ho; first | rfl | cases hgd
                  | 2, ho => cases ho; first | rfl | cases hgd
                  | 3, ho => cases ho; first | rfl | cases hgd
                  | 4, ho => cases ho; first | rfl | cases hgd
                  | 5, ho => cases ho; first | rfl | cases hgd
                  | 6, ho => cases ho; first | rfl | cases hgd
                  | 7, ho => cases ho; first | rfl | cases hgd
                  | 8, ho => cases ho; first | rfl | cases hgd
                  | 9, ho => cases ho; first | rfl | cases hgd
                  | 10, ho => cases ho; first | rfl | cases hgd
                  | 11, ho => cases ho; first | rfl | cases hgd
                  | 12, ho => cases ho; first | rfl | cases hgd
                  | 13, ho => cases ho; first | rfl | cases hgd
                  | 14, ho => cases ho; first | rfl | cases hgd
                  | 15, ho => cases ho; first | rfl | cases hgd
                  | 16, ho => cases ho; first | rfl | cases hgd
                  | n + 17, ho => exact absurd ho (by simp)
                case skip =>
                  intro i W hi hsel
                  match i, hi, hsel with
                  | 0, _, hsel => first | exact absurd hsel (by decide) | rfl
                  | 1, _, hsel => first | exact absurd hsel (by decide) | rfl
                  | 2, _, hsel => first | exact absurd hsel (by decide) | rfl
                  | 3, _, hsel => first | exact absurd hsel (by decide) | rfl
                  | 4, _, hsel => first | exact absurd hsel (by decide) | rfl
                  | 5, _, hsel => first | exact absurd hsel (by decide) | rfl
                  | 6, _, hsel => first | exact absurd hsel (by decide) | rfl
                  | 7, _, hsel => first | exact absurd hsel (by decide) | rfl
                  | 8, _, hsel => first | exact absurd hsel (by decide) | rfl
                  | 9, _, hsel => first | exact absurd hsel (by decide) | rfl
                  | 10, _, hsel => first | exact absurd hsel (by decide) | rfl
                  | 11, _, hsel => first | exact absurd hsel (by decide) | rfl
                  | 12, _, hsel => first | exact absurd hsel (by decide) | rfl
                  | 13, _, hsel => first | exact absurd hsel (by decide) | rfl
                  | 14, _, hsel => first | exact absurd hsel (by decide) | rfl
                  | 15, _, hsel => first | exact absurd hsel (by decide) | rfl
                  | 16, _, hsel => first | exact absurd hsel (by decide) | rfl
                  | n + 17, hi, _ => exact absurd hi (by simp)
                case step =>
                  intro f a' W i o ho hsel hpre hbel hrest hdf
                  match i, ho, hsel with
                  | 0, ho, _ =>
                    cases ho
                    have q4 : a'.tmps.getD 4 undef = .pointer (some ⟨V, 0, none⟩) := (hrest 4 (by intro i hi; have hi : i < 17 := hi; show 30 + min i 16 ≠ _; omega))
                    have e4 := rg_ev q4
                    exact rg_same (.pointer (some ⟨V, 0, none⟩)) (by unfold Oper.wp execOp; go_simp; all_goals ((try simp only [e4]); (try go_simp); (try rw [if_pos (by omega)]); (try rw [if_neg (by omega)]); first | done | rfl | exact ⟨rfl, rfl⟩ | trivial)) rfl
                  | 1, ho, _ =>
                    cases ho
                    have q30 : a'.tmps.getD 30 undef = .pointer (some ⟨V, 0, none⟩) := (hpre { on := 0, ground := .data } (by simp) rfl)
                    have c0 : W.cell? ⟨V, 0, none⟩ = some (.string nb) := (hbel.cell (p := ⟨V, 0, none⟩) HVL0.out).trans HC0.out
                    have e30 := rg_ev q30
                    exact rg_same (.string nb) (by unfold Oper.wp execOp; go_simp; all_goals ((try simp only [e30]); (try go_simp); (try rw [if_pos (by omega)]); (try rw [if_neg (by omega)]); first | done | rfl | exact ⟨rfl, rfl⟩ | trivial)) rfl
                  | 2, ho, _ =>
                    cases ho
                    have q31 : a'.tmps.getD 31 undef = .string nb := (hpre { on := 1, ground := .data } (by simp) rfl)
                    exact rg_call 31 58 _ _ _ rfl q31 (enters_of Tryz.func58 (by kernel_rfl) rfl) (KTO.out W) (fun e w' h => ⟨_, h.1, _, rfl, rfl, h.2⟩)
                  | 3, ho, _ =>
                    cases ho
                    have q32 : a'.tmps.getD 32 undef = .bool true := (hpre { on := 2, ground := .data } (by simp) rfl)
                    have e32 := rg_ev q32
                    exact rg_same (.bool true) (by unfold Oper.wp execOp; go_simp; all_goals ((try simp only [e32]); (try go_simp); (try rw [if_pos (by omega)]); (try rw [if_neg (by omega)]); first | done | rfl | exact ⟨rfl, rfl⟩ | trivial)) rfl
                  | 4, ho, _ =>
                    cases ho
                    have q4 : a'.tmps.getD 4 undef = .pointer (some ⟨V, 0, none⟩) := (hrest 4 (by intro i hi; have hi : i < 17 := hi; show 30 + min i 16 ≠ _; omega))
                    have e4 := rg_ev q4
                    exact rg_same (.pointer (some ⟨V, 0, none⟩)) (by unfold Oper.wp execOp; go_simp; all_goals ((try simp only [e4]); (try go_simp); (try rw [if_pos (by omega)]); (try rw [if_neg (by omega)]); first | done | rfl | exact ⟨rfl, rfl⟩ | trivial)) rfl
                  | 5, ho, _ =>
                    cases ho
                    have q34 : a'.tmps.getD 34 undef = .pointer (some ⟨V, 0, none⟩) := (hpre { on := 4, ground := .data } (by simp) rfl)
                    have c0 : W.cell? ⟨V, 0, none⟩ = some (.string nb) := (hbel.cell (p := ⟨V, 0, none⟩) HVL0.out).trans HC0.out
                    have e34 := rg_ev q34
                    exact rg_same (.string nb) (by unfold Oper.wp execOp; go_simp; all_goals ((try simp only [e34]); (try go_simp); (try rw [if_pos (by omega)]); (try rw [if_neg (by omega)]); first | done | rfl | exact ⟨rfl, rfl⟩ | trivial)) rfl
                  | 6, ho, _ =>
                    cases ho
                    have q35 : a'.tmps.getD 35 undef = .string nb := (hpre { on := 5, ground := .data } (by simp) rfl)
                    exact rg_call 35 59 _ _ _ rfl q35 (enters_of Tryz.func59 (by kernel_rfl) rfl) (KLO.out W) (fun e w' h => ⟨_, h.1, _, rfl, rfl, h.2⟩)
                  | 7, ho, _ =>
                    cases ho
                    have q4 : a'.tmps.getD 4 undef = .pointer (some ⟨V, 0, none⟩) := (hrest 4 (by intro i hi; have hi : i < 17 := hi; show 30 + min i 16 ≠ _; omega))
                    have e4 := rg_ev q4
                    exact rg_same (.pointer (some ⟨V, 0, none⟩)) (by unfold Oper.wp execOp; go_simp; all_goals ((try simp only [e4]); (try go_simp); (try rw [if_pos (by omega)]); (try rw [if_neg (by omega)]); first | done | rfl | exact ⟨rfl, rfl⟩ | trivial)) rfl
                  | 8, ho, _ =>
                    cases ho
                    have q37 : a'.tmps.getD 37 undef = .pointer (some ⟨V, 0, none⟩) := (hpre { on := 7, ground := .data } (by simp) rfl)
                    have c0 : W.cell? ⟨V, 0, none⟩ = some (.string nb) := (hbel.cell (p := ⟨V, 0, none⟩) HVL0.out).trans HC0.out
                    have e37 := rg_ev q37
                    exact rg_same (.string nb) (by unfold Oper.wp execOp; go_simp; all_goals ((try simp only [e37]); (try go_simp); (try rw [if_pos (by omega)]); (try rw [if_neg (by omega)]); first | done | rfl | exact ⟨rfl, rfl⟩ | trivial)) rfl
                  | 9, ho, _ =>
                    cases ho
                    have q36 : a'.tmps.getD 36 undef = .string lb := (hpre { on := 6, ground := .data } (by simp) rfl)
                    have q38 : a'.tmps.getD 38 undef = .string nb := (hpre { on := 8, ground := .data } (by simp) rfl)
                    have e36 := rg_ev q36
                    have e38 := rg_ev q38
                    exact rg_same (.bool false) (by unfold Oper.wp execOp; go_simp; all_goals ((try simp only [e36, e38]); (try go_simp); (try rw [if_pos (by omega)]); (try rw [if_neg (by omega)]); first | done | rfl | exact ⟨rfl, rfl⟩ | trivial)) rfl
                  | 10, ho, _ =>
                    cases ho
                    have q33 : a'.tmps.getD 33 undef = .bool true := (hpre { on := 3, ground := .data } (by simp) rfl)
                    have q39 : a'.tmps.getD 39 undef = .bool false := (hpre { on := 9, ground := .data } (by simp) rfl)
                    have e33 := rg_ev q33
                    have e39 := rg_ev q39
                    exact rg_same (.bool false) (by unfold Oper.wp execOp; go_simp; all_goals ((try simp only [e33, e39]); (try go_simp); (try rw [if_pos (by omega)]); (try rw [if_neg (by omega)]); first | done | rfl | exact ⟨rfl, rfl⟩ | trivial)) rfl
                  | 11, ho, _ =>
                    cases ho
                    have q40 : a'.tmps.getD 40 undef = .bool false := (hpre { on := 10, ground := .data } (by simp) rfl)
                    have e40 := rg_ev q40
                    exact rg_same (.bool false) (by unfold Oper.wp execOp; go_simp; all_goals ((try simp only [e40]); (try go_simp); (try rw [if_pos (by omega)]); (try rw [if_neg (by omega)]); first | done | rfl | exact ⟨rfl, rfl⟩ | trivial)) rfl
                  | 12, ho, hsel => exact absurd hsel (by decide)
                  | 13, ho, hsel => exact absurd hsel (by decide)
                  | 14, ho, hsel => exact absurd hsel (by decide)
                  | 15, ho, _ =>
                    cases ho
                    have q41 : a'.tmps.getD 41 undef = .bool false := (hpre { on := 11, ground := .data } (by simp) rfl)
                    have q44 : a'.tmps.getD 44 undef = undef := (hpre { on := 14, ground := .data } (by simp) rfl)
                    have e41 := rg_ev q41
                    have e44 := rg_ev q44
                    exact rg_same (.bool false) (by unfold Oper.wp execOp; go_simp; all_goals ((try simp only [e41, e44]); (try go_simp); (try rw [if_pos (by omega)]); (try rw [if_neg (by omega)]); first | done | rfl | exact ⟨rfl, rfl⟩ | trivial)) rfl
                  | 16, ho, _ =>
                    cases ho
                    have q45 : a'.tmps.getD 45 undef = .bool false := (hpre { on := 15, ground := .data } (by simp) rfl)
                    refine ck_callno 45 55 _ _ _ [{ v := errno 2, recovered := false }] _ rfl q45 (enters_of Tryz.func55 (by kernel_rfl) rfl) (KMN.out W) ?_
                    rintro e w' ⟨rfl, rfl⟩
                    exact ⟨rfl, HDOOR.out _ _ hdf (hrest 2 (by intro i hi; show 30 + min i 16 ≠ _; omega)) (HB6.out.trans (hbel.mono HB6.out.size))⟩
                  | n + 17, ho, _ => exact absurd ho (by simp)
                case done =>
                  intro vs W hbel hvs
                  exact (hvs 16 (by decide)).elim
              · have hn : (lb.toList == nb.toList) = true := HQ.out
                cases q3
                · refine region_slotsP (fun i => 30 + min i 16) (ckGC V nb vb lb) (fun _ => true) (by kernel_rfl) (by kernel_rfl) (fun i => by show 30 + min i 16 < _; simp; omega) (fun i j hi hj h => by have hi : i < 17 := hi; have hj : j < 17 := hj; omega) ?mono ?dst ?gu ?ng ?skip ?step ?done
                  case mono =>
                    intro i W W' v h hbw
                    match i, h with
                    | 0, h | 1, h | 2, h | 3, h | 4, h | 5, h | 6, h | 7, h | 8, h | 9, h | 10, h | 11, h | 12, h | 13, h | 14, h | 15, h | 16, h => exact h
                    | n + 17, h => exact h.elim
                  case dst =>
                    intro i o ho
                    match i, ho with
                    | 0, ho | 1, ho | 2, ho | 3, ho | 4, ho | 5, ho | 6, ho | 7, ho | 8, ho | 9, ho | 10, ho | 11, ho | 12, ho | 13, ho | 14, ho | 15, ho | 16, ho => cases ho; rfl
                    | n + 17, ho => exact absurd ho (by simp)
                  case gu =>
                    intro i o g b ho hgd W v hv
                    match i, ho with
                    | 0, ho => cases ho; cases hgd
                    | 1, ho => cases ho; cases hgd
                    | 2, ho => cases ho; cases hgd
                    | 3, ho => cases ho; cases hgd
                    | 4, ho => cases ho; cases hgd; first | exact .inl hv | exact .inr ⟨rfl, hv⟩
                    | 5, ho => cases ho; cases hgd; first | exact .inl hv | exact .inr ⟨rfl, hv⟩
                    | 6, ho => cases ho; cases hgd; first | exact .inl hv | exact .inr ⟨rfl, hv⟩
                    | 7, ho => cases ho; cases hgd; first | exact .inl hv | exact .inr ⟨rfl, hv⟩
                    | 8, ho => cases ho; cases hgd; first | exact .inl hv | exact .inr ⟨rfl, hv⟩
                    | 9, ho => cases ho; cases hgd; first | exact .inl hv | exact .inr ⟨rfl, hv⟩
                    | 10, ho => cases ho; cases hgd
                    | 11, ho => cases ho; cases hgd
                    | 12, ho => cases ho; cases hgd; first | exact .inl hv | exact .inr ⟨rfl, hv⟩
                    | 13, ho => cases ho; cases hgd; first | exact .inl hv | exact .inr ⟨rfl, hv⟩
                    | 14, ho => cases ho; cases hgd; first | exact .inl hv | exact .inr ⟨rfl, hv⟩
                    | 15, ho => cases ho; cases hgd
                    | 16, ho => cases ho; cases hgd
                    | n + 17, ho => exact absurd ho (by simp)
                  case ng =>
                    intro i o ho hgd
                    match i, ho with
                    | 0, ho => cases ho; first | rfl | cases hgd
                    | 1, ho => cases ho; first | rfl | cases hgd
                    | 2, ho => cases ho; first | rfl | cases hgd
                    | 3, ho => cases ho; first | rfl | cases hgd
                    | 4, ho => cases ho; first | rfl | cases hgd
                    | 5, ho => cases ho; first | rfl | cases hgd
                    | 6, ho => cases ho; first | rfl | cases hgd
                    | 7, ho => cases ho; first | rfl | cases hgd
                    | 8, ho => cases ho; first | rfl | cases hgd
                    | 9, ho => cases ho; first | rfl | cases hgd
                    | 10, ho => cases ho; first | rfl | cases hgd
                    | 11, ho => cases ho; first | rfl | cases hgd
                    | 12, ho => cases ho; first | rfl | cases hgd
                    | 13, ho => cases ho; first | rfl | cases hgd
                    | 14, ho => cases ho; first | rfl | cases hgd
                    | 15, ho => cases ho; first | rfl | cases hgd
                    | 16, ho => cases ho; first | rfl | cases hgd
                    | n + 17, ho => exact absurd ho (by simp)
                  case skip =>
                    intro i W hi hsel
                    match i, hi, hsel with
                    | 0, _, hsel => first | exact absurd hsel (by decide) | rfl
                    | 1, _, hsel => first | exact absurd hsel (by decide) | rfl
                    | 2, _, hsel => first | exact absurd hsel (by decide) | rfl
                    | 3, _, hsel => first | exact absurd hsel (by decide) | rfl
                    | 4, _, hsel => first | exact absurd hsel (by decide) | rfl
                    | 5, _, hsel => first | exact absurd hsel (by decide) | rfl
                    | 6, _, hsel => first | exact absurd hsel (by decide) | rfl
                    | 7, _, hsel => first | exact absurd hsel (by decide) | rfl
                    | 8, _, hsel => first | exact absurd hsel (by decide) | rfl
                    | 9, _, hsel => first | exact absurd hsel (by decide) | rfl
                    | 10, _, hsel => first | exact absurd hsel (by decide) | rfl
                    | 11, _, hsel => first | exact absurd hsel (by decide) | rfl
                    | 12, _, hsel => first | exact absurd hsel (by decide) | rfl
                    | 13, _, hsel => first | exact absurd hsel (by decide) | rfl
                    | 14, _, hsel => first | exact absurd hsel (by decide) | rfl
                    | 15, _, hsel => first | exact absurd hsel (by decide) | rfl
                    | 16, _, hsel => first | exact absurd hsel (by decide) | rfl
                    | n + 17, hi, _ => exact absurd hi (by simp)
                  case step =>
                    intro f a' W i o ho hsel hpre hbel hrest hdf
                    match i, ho, hsel with
                    | 0, ho, _ =>
                      cases ho
                      have q4 : a'.tmps.getD 4 undef = .pointer (some ⟨V, 0, none⟩) := (hrest 4 (by intro i hi; have hi : i < 17 := hi; show 30 + min i 16 ≠ _; omega))
                      have e4 := rg_ev q4
                      exact rg_same (.pointer (some ⟨V, 0, none⟩)) (by unfold Oper.wp execOp; go_simp; all_goals ((try simp only [e4]); (try go_simp); (try rw [if_pos (by omega)]); (try rw [if_neg (by omega)]); first | done | rfl | exact ⟨rfl, rfl⟩ | trivial)) rfl
                    | 1, ho, _ =>
                      cases ho
                      have q30 : a'.tmps.getD 30 undef = .pointer (some ⟨V, 0, none⟩) := (hpre { on := 0, ground := .data } (by simp) rfl)
                      have c0 : W.cell? ⟨V, 0, none⟩ = some (.string nb) := (hbel.cell (p := ⟨V, 0, none⟩) HVL0.out).trans HC0.out
                      have e30 := rg_ev q30
                      exact rg_same (.string nb) (by unfold Oper.wp execOp; go_simp; all_goals ((try simp only [e30]); (try go_simp); (try rw [if_pos (by omega)]); (try rw [if_neg (by omega)]); first | done | rfl | exact ⟨rfl, rfl⟩ | trivial)) rfl
                    | 2, ho, _ =>
                      cases ho
                      have q31 : a'.tmps.getD 31 undef = .string nb := (hpre { on := 1, ground := .data } (by simp) rfl)
                      exact rg_call 31 58 _ _ _ rfl q31 (enters_of Tryz.func58 (by kernel_rfl) rfl) (KTO.out W) (fun e w' h => ⟨_, h.1, _, rfl, rfl, h.2⟩)
                    | 3, ho, _ =>
                      cases ho
                      have q32 : a'.tmps.getD 32 undef = .bool true := (hpre { on := 2, ground := .data } (by simp) rfl)
                      have e32 := rg_ev q32
                      exact rg_same (.bool true) (by unfold Oper.wp execOp; go_simp; all_goals ((try simp only [e32]); (try go_simp); (try rw [if_pos (by omega)]); (try rw [if_neg (by omega)]); first | done | rfl | exact ⟨rfl, rfl⟩ | trivial)) rfl
                    | 4, ho, _ =>
                      cases ho
                      have q4 : a'.tmps.getD 4 undef = .pointer (some ⟨V, 0, none⟩) := (hrest 4 (by intro i hi; have hi : i < 17 := hi; show 30 + min i 16 ≠ _; omega))
                      have e4 := rg_ev q4
                      exact rg_same (.pointer (some ⟨V, 0, none⟩)) (by unfold Oper.wp execOp; go_simp; all_goals ((try simp only [e4]); (try go_simp); (try rw [if_pos (by omega)]); (try rw [if_neg (by omega)]); first | done | rfl | exact ⟨rfl, rfl⟩ | trivial)) rfl
                    | 5, ho, _ =>
                      cases ho
                      have q34 : a'.tmps.getD 34 undef = .pointer (some ⟨V, 0, none⟩) := (hpre { on := 4, ground := .data } (by simp) rfl)
                      have c0 : W.cell? ⟨V, 0, none⟩ = some (.string nb) := (hbel.cell (p := ⟨V, 0, none⟩) HVL0.out).trans HC0.out
                      have e34 := rg_ev q34
                      exact rg_same (.string nb) (by unfold Oper.wp execOp; go_simp; all_goals ((try simp only [e34]); (try go_simp); (try rw [if_pos (by omega)]); (try rw [if_neg (by omega)]); first | done | rfl | exact ⟨rfl, rfl⟩ | trivial)) rfl
                    | 6, ho, _ =>
                      cases ho
                      have q35 : a'.tmps.getD 35 undef = .string nb := (hpre { on := 5, ground := .data } (by simp) rfl)
                      exact rg_call 35 59 _ _ _ rfl q35 (enters_of Tryz.func59 (by kernel_rfl) rfl) (KLO.out W) (fun e w' h => ⟨_, h.1, _, rfl, rfl, h.2⟩)
                    | 7, ho, _ =>
                      cases ho
                      have q4 : a'.tmps.getD 4 undef = .pointer (some ⟨V, 0, none⟩) := (hrest 4 (by intro i hi; have hi : i < 17 := hi; show 30 + min i 16 ≠ _; omega))
                      have e4 := rg_ev q4
                      exact rg_same (.pointer (some ⟨V, 0, none⟩)) (by unfold Oper.wp execOp; go_simp; all_goals ((try simp only [e4]); (try go_simp); (try rw [if_pos (by omega)]); (try rw [if_neg (by omega)]); first | done | rfl | exact ⟨rfl, rfl⟩ | trivial)) rfl
                    | 8, ho, _ =>
                      cases ho
                      have q37 : a'.tmps.getD 37 undef = .pointer (some ⟨V, 0, none⟩) := (hpre { on := 7, ground := .data } (by simp) rfl)
                      have c0 : W.cell? ⟨V, 0, none⟩ = some (.string nb) := (hbel.cell (p := ⟨V, 0, none⟩) HVL0.out).trans HC0.out
                      have e37 := rg_ev q37
                      exact rg_same (.string nb) (by unfold Oper.wp execOp; go_simp; all_goals ((try simp only [e37]); (try go_simp); (try rw [if_pos (by omega)]); (try rw [if_neg (by omega)]); first | done | rfl | exact ⟨rfl, rfl⟩ | trivial)) rfl
                    | 9, ho, _ =>
                      cases ho
                      have q36 : a'.tmps.getD 36 undef = .string lb := (hpre { on := 6, ground := .data } (by simp) rfl)
                      have q38 : a'.tmps.getD 38 undef = .string nb := (hpre { on := 8, ground := .data } (by simp) rfl)
                      have e36 := rg_ev q36
                      have e38 := rg_ev q38
                      exact rg_same (.bool true) (by unfold Oper.wp execOp; go_simp; all_goals ((try simp only [e36, e38]); (try go_simp); (try rw [if_pos (by omega)]); (try rw [if_neg (by omega)]); first | done | rfl | exact ⟨rfl, rfl⟩ | trivial)) rfl
                    | 10, ho, _ =>
                      cases ho
                      have q33 : a'.tmps.getD 33 undef = .bool true := (hpre { on := 3, ground := .data } (by simp) rfl)
                      have q39 : a'.tmps.getD 39 undef = .bool true := (hpre { on := 9, ground := .data } (by simp) rfl)
                      have e33 := rg_ev q33
                      have e39 := rg_ev q39
                      exact rg_same (.bool true) (by unfold Oper.wp execOp; go_simp; all_goals ((try simp only [e33, e39]); (try go_simp); (try rw [if_pos (by omega)]); (try rw [if_neg (by omega)]); first | done | rfl | exact ⟨rfl, rfl⟩ | trivial)) rfl
                    | 11, ho, _ =>
                      cases ho
                      have q40 : a'.tmps.getD 40 undef = .bool true := (hpre { on := 10, ground := .data } (by simp) rfl)
                      have e40 := rg_ev q40
                      exact rg_same (.bool true) (by unfold Oper.wp execOp; go_simp; all_goals ((try simp only [e40]); (try go_simp); (try rw [if_pos (by omega)]); (try rw [if_neg (by omega)]); first | done | rfl | exact ⟨rfl, rfl⟩ | trivial)) rfl
                    | 12, ho, _ =>
                      cases ho
                      have q4 : a'.tmps.getD 4 undef = .pointer (some ⟨V, 0, none⟩) := (hrest 4 (by intro i hi; have hi : i < 17 := hi; show 30 + min i 16 ≠ _; omega))
                      have e4 := rg_ev q4
                      exact rg_same (.pointer (some ⟨V, 1, none⟩)) (by unfold Oper.wp execOp; go_simp; all_goals ((try simp only [e4]); (try go_simp); (try rw [if_pos (by omega)]); (try rw [if_neg (by omega)]); first | done | rfl | exact ⟨rfl, rfl⟩ | trivial)) rfl
                    | 13, ho, _ =>
                      cases ho
                      have q42 : a'.tmps.getD 42 undef = .pointer (some ⟨V, 1, none⟩) := (hpre { on := 12, ground := .data } (by simp) rfl)
                      have c1 : W.cell? ⟨V, 1, none⟩ = some (.string vb) := (hbel.cell (p := ⟨V, 1, none⟩) HVL0.out).trans HC1.out
                      have e42 := rg_ev q42
                      exact rg_same (.string vb) (by unfold Oper.wp execOp; go_simp; all_goals ((try simp only [e42]); (try go_simp); (try rw [if_pos (by omega)]); (try rw [if_neg (by omega)]); first | done | rfl | exact ⟨rfl, rfl⟩ | trivial)) rfl
                    | 14, ho, _ =>
                      cases ho
                      have q43 : a'.tmps.getD 43 undef = .string vb := (hpre { on := 13, ground := .data } (by simp) rfl)
                      exact rg_call 43 57 _ _ _ rfl q43 (enters_of Tryz.func57 (by kernel_rfl) rfl) (KVA.out W) (fun e w' h => ⟨_, h.1, _, rfl, rfl, h.2⟩)
                    | 15, ho, _ =>
                      cases ho
                      have q41 : a'.tmps.getD 41 undef = .bool true := (hpre { on := 11, ground := .data } (by simp) rfl)
                      have q44 : a'.tmps.getD 44 undef = .bool false := (hpre { on := 14, ground := .data } (by simp) rfl)
                      have e41 := rg_ev q41
                      have e44 := rg_ev q44
                      exact rg_same (.bool false) (by unfold Oper.wp execOp; go_simp; all_goals ((try simp only [e41, e44]); (try go_simp); (try rw [if_pos (by omega)]); (try rw [if_neg (by omega)]); first | done | rfl | exact ⟨rfl, rfl⟩ | trivial)) rfl
                    | 16, ho, _ =>
                      cases ho
                      have q45 : a'.tmps.getD 45 undef = .bool false := (hpre { on := 15, ground := .data } (by simp) rfl)
                      refine ck_callno 45 55 _ _ _ [{ v := errno 2, recovered := false }] _ rfl q45 (enters_of Tryz.func55 (by kernel_rfl) rfl) (KMN.out W) ?_
                      rintro e w' ⟨rfl, rfl⟩
                      exact ⟨rfl, HDOOR.out _ _ hdf (hrest 2 (by intro i hi; show 30 + min i 16 ≠ _; omega)) (HB6.out.trans (hbel.mono HB6.out.size))⟩
                    | n + 17, ho, _ => exact absurd ho (by simp)
                  case done =>
                    intro vs W hbel hvs
                    exact (hvs 16 (by decide)).elim
                · refine region_slotsP (fun i => 30 + min i 16) (ckGD V nb vb lb) (fun _ => true) (by kernel_rfl) (by kernel_rfl) (fun i => by show 30 + min i 16 < _; simp; omega) (fun i j hi hj h => by have hi : i < 17 := hi; have hj : j < 17 := hj; omega) ?mono ?dst ?gu ?ng ?skip ?step ?done
                  case mono =>
                    intro i W W' v h hbw
                    match i, h with
                    | 0, h | 1, h | 2, h | 3, h | 4, h | 5, h | 6, h | 7, h | 8, h | 9, h | 10, h | 11, h | 12, h | 13, h | 14, h | 15, h | 16, h => exact h
                    | n + 17, h => exact h.elim
                  case dst =>
                    intro i o ho
                    match i, ho with
                    | 0, ho | 1, ho | 2, ho | 3, ho | 4, ho | 5, ho | 6, ho | 7, ho | 8, ho | 9, ho | 10, ho | 11, ho | 12, ho | 13, ho | 14, ho | 15, ho | 16, ho => cases ho; rfl
                    | n + 17, ho => exact absurd ho (by simp)
                  case gu =>
                    intro i o g b ho hgd W v hv
                    match i, ho with
                    | 0, ho => cases ho; cases hgd
                    | 1, ho => cases ho; cases hgd
                    | 2, ho => cases ho; cases hgd
                    | 3, ho => cases ho; cases hgd
                    | 4, ho => cases ho; cases hgd; first | exact .inl hv | exact .inr ⟨rfl, hv⟩
                    | 5, ho => cases ho; cases hgd; first | exact .inl hv | exact .inr ⟨rfl, hv⟩
                    | 6, ho => cases ho; cases hgd; first | exact .inl hv | exact .inr ⟨rfl, hv⟩
                    | 7, ho => cases ho; cases hgd; first | exact .inl hv | exact .inr ⟨rfl, hv⟩
                    | 8, ho => cases ho; cases hgd; first | exact .inl hv | exact .inr ⟨rfl, hv⟩
                    | 9, ho => cases ho; cases hgd; first | exact .inl hv | exact .inr ⟨rfl, hv⟩
                    | 10, ho => cases ho; cases hgd
                    | 11, ho => cases ho; cases hgd
                    | 12, ho => cases ho; cases hgd; first | exact .inl hv | exact .inr ⟨rfl, hv⟩
                    | 13, ho => cases ho; cases hgd; first | exact .inl hv | exact .inr ⟨rfl, hv⟩
                    | 14, ho => cases ho; cases hgd; first | exact .inl hv | exact .inr ⟨rfl, hv⟩
                    | 15, ho => cases ho; cases hgd
                    | 16, ho => cases ho; cases hgd
                    | n + 17, ho => exact absurd ho (by simp)
                  case ng =>
                    intro i o ho hgd
                    match i, ho with
                    | 0, ho => cases ho; first | rfl | cases hgd
                    | 1, ho => cases ho; first | rfl | cases hgd
                    | 2, ho => cases ho; first | rfl | cases hgd
                    | 3, ho => cases ho; first | rfl | cases hgd
                    | 4, ho => cases ho; first | rfl | cases hgd
                    | 5, ho => cases ho; first | rfl | cases hgd
                    | 6, ho => cases ho; first | rfl | cases hgd
                    | 7, ho => cases ho; first | rfl | cases hgd
                    | 8, ho => cases ho; first | rfl | cases hgd
                    | 9, ho => cases ho; first | rfl | cases hgd
                    | 10, ho => cases ho; first | rfl | cases hgd
                    | 11, ho => cases ho; first | rfl | cases hgd
                    | 12, ho => cases ho; first | rfl | cases hgd
                    | 13, ho => cases ho; first | rfl | cases hgd
                    | 14, ho => cases ho; first | rfl | cases hgd
                    | 15, ho => cases ho; first | rfl | cases hgd
                    | 16, ho => cases ho; first | rfl | cases hgd
                    | n + 17, ho => exact absurd ho (by simp)
                  case skip =>
                    intro i W hi hsel
                    match i, hi, hsel with
                    | 0, _, hsel => first | exact absurd hsel (by decide) | rfl
                    | 1, _, hsel => first | exact absurd hsel (by decide) | rfl
                    | 2, _, hsel => first | exact absurd hsel (by decide) | rfl
                    | 3, _, hsel => first | exact absurd hsel (by decide) | rfl
                    | 4, _, hsel => first | exact absurd hsel (by decide) | rfl
                    | 5, _, hsel => first | exact absurd hsel (by decide) | rfl
                    | 6, _, hsel => first | exact absurd hsel (by decide) | rfl
                    | 7, _, hsel => first | exact absurd hsel (by decide) | rfl
                    | 8, _, hsel => first | exact absurd hsel (by decide) | rfl
                    | 9, _, hsel => first | exact absurd hsel (by decide) | rfl
                    | 10, _, hsel => first | exact absurd hsel (by decide) | rfl
                    | 11, _, hsel => first | exact absurd hsel (by decide) | rfl
                    | 12, _, hsel => first | exact absurd hsel (by decide) | rfl
                    | 13, _, hsel => first | exact absurd hsel (by decide) | rfl
                    | 14, _, hsel => first | exact absurd hsel (by decide) | rfl
                    | 15, _, hsel => first | exact absurd hsel (by decide) | rfl
                    | 16, _, hsel => first | exact absurd hsel (by decide) | rfl
                    | n + 17, hi, _ => exact absurd hi (by simp)
                  case step =>
                    intro f a' W i o ho hsel hpre hbel hrest hdf
                    match i, ho, hsel with
                    | 0, ho, _ =>
                      cases ho
                      have q4 : a'.tmps.getD 4 undef = .pointer (some ⟨V, 0, none⟩) := (hrest 4 (by intro i hi; have hi : i < 17 := hi; show 30 + min i 16 ≠ _; omega))
                      have e4 := rg_ev q4
                      exact rg_same (.pointer (some ⟨V, 0, none⟩)) (by unfold Oper.wp execOp; go_simp; all_goals ((try simp only [e4]); (try go_simp); (try rw [if_pos (by omega)]); (try rw [if_neg (by omega)]); first | done | rfl | exact ⟨rfl, rfl⟩ | trivial)) rfl
                    | 1, ho, _ =>
                      cases ho
                      have q30 : a'.tmps.getD 30 undef = .pointer (some ⟨V, 0, none⟩) := (hpre { on := 0, ground := .data } (by simp) rfl)
                      have c0 : W.cell? ⟨V, 0, none⟩ = some (.string nb) := (hbel.cell (p := ⟨V, 0, none⟩) HVL0.out).trans HC0.out
                      have e30 := rg_ev q30
                      exact rg_same (.string nb) (by unfold Oper.wp execOp; go_simp; all_goals ((try simp only [e30]); (try go_simp); (try rw [if_pos (by omega)]); (try rw [if_neg (by omega)]); first | done | rfl | exact ⟨rfl, rfl⟩ | trivial)) rfl
                    | 2, ho, _ =>
                      cases ho
                      have q31 : a'.tmps.getD 31 undef = .string nb := (hpre { on := 1, ground := .data } (by simp) rfl)
                      exact rg_call 31 58 _ _ _ rfl q31 (enters_of Tryz.func58 (by kernel_rfl) rfl) (KTO.out W) (fun e w' h => ⟨_, h.1, _, rfl, rfl, h.2⟩)
                    | 3, ho, _ =>
                      cases ho
                      have q32 : a'.tmps.getD 32 undef = .bool true := (hpre { on := 2, ground := .data } (by simp) rfl)
                      have e32 := rg_ev q32
                      exact rg_same (.bool true) (by unfold Oper.wp execOp; go_simp; all_goals ((try simp only [e32]); (try go_simp); (try rw [if_pos (by omega)]); (try rw [if_neg (by omega)]); first | done | rfl | exact ⟨rfl, rfl⟩ | trivial)) rfl
                    | 4, ho, _ =>
                      cases ho
                      have q4 : a'.tmps.getD 4 undef = .pointer (some ⟨V, 0, none⟩) := (hrest 4 (by intro i hi; have hi : i < 17 := hi; show 30 + min i 16 ≠ _; omega))
                      have e4 := rg_ev q4
                      exact rg_same (.pointer (some ⟨V, 0, none⟩)) (by unfold Oper.wp execOp; go_simp; all_goals ((try simp only [e4]); (try go_simp); (try rw [if_pos (by omega)]); (try rw [if_neg (by omega)]); first | done | rfl | exact ⟨rfl, rfl⟩ | trivial)) rfl
                    | 5, ho, _ =>
                      cases ho
                      have q34 : a'.tmps.getD 34 undef = .pointer (some ⟨V, 0, none⟩) := (hpre { on := 4, ground := .data } (by simp) rfl)
                      have c0 : W.cell? ⟨V, 0, none⟩ = some (.string nb) := (hbel.cell (p := ⟨V, 0, none⟩) HVL0.out).trans HC0.out
                      have e34 := rg_ev q34
                      exact rg_same (.string nb) (by unfold Oper.wp execOp; go_simp; all_goals ((try simp only [e34]); (try go_simp); (try rw [if_pos (by omega)]); (try rw [if_neg (by omega)]); first | done | rfl | exact ⟨rfl, rfl⟩ | trivial)) rfl
                    | 6, ho, _ =>
                      cases ho
                      have q35 : a'.tmps.getD 35 undef = .string nb := (hpre { on := 5, ground := .data } (by simp) rfl)
                      exact rg_call 35 59 _ _ _ rfl q35 (enters_of Tryz.func59 (by kernel_rfl) rfl) (KLO.out W) (fun e w' h => ⟨_, h.1, _, rfl, rfl, h.2⟩)
                    | 7, ho, _ =>
                      cases ho
                      have q4 : a'.tmps.getD 4 undef = .pointer (some ⟨V, 0, none⟩) := (hrest 4 (by intro i hi; have hi : i < 17 := hi; show 30 + min i 16 ≠ _; omega))
                      have e4 := rg_ev q4
                      exact rg_same (.pointer (some ⟨V, 0, none⟩)) (by unfold Oper.wp execOp; go_simp; all_goals ((try simp only [e4]); (try go_simp); (try rw [if_pos (by omega)]); (try rw [if_neg (by omega)]); first | done | rfl | exact ⟨rfl, rfl⟩ | trivial)) rfl
                    | 8, ho, _ =>
                      cases ho
                      have q37 : a'.tmps.getD 37 undef = .pointer (some ⟨V, 0, none⟩) := (hpre { on := 7, ground := .data } (by simp) rfl)
                      have c0 : W.cell? ⟨V, 0, none⟩ = some (.string nb) := (hbel.cell (p := ⟨V, 0, none⟩) HVL0.out).trans HC0.out
                      have e37 := rg_ev q37
                      exact rg_same (.string nb) (by unfold Oper.wp execOp; go_simp; all_goals ((try simp only [e37]); (try go_simp); (try rw [if_pos (by omega)]); (try rw [if_neg (by omega)]); first | done | rfl | exact ⟨rfl, rfl⟩ | trivial)) rfl
                    | 9, ho, _ =>
                      cases ho
                      have q36 : a'.tmps.getD 36 undef = .string lb := (hpre { on := 6, ground := .data } (by simp) rfl)
                      have q38 : a'.tmps.getD 38 undef = .string nb := (hpre { on := 8, ground := .data } (by simp) rfl)
                      have e36 := rg_ev q36
                      have e38 := rg_ev q38
                      exact rg_same (.bool true) (by unfold Oper.wp execOp; go_simp; all_goals ((try simp only [e36, e38]); (try go_simp); (try rw [if_pos (by omega)]); (try rw [if_neg (by omega)]); first | done | rfl | exact ⟨rfl, rfl⟩ | trivial)) rfl
                    | 10, ho, _ =>
                      cases ho
                      have q33 : a'.tmps.getD 33 undef = .bool true := (hpre { on := 3, ground := .data } (by simp) rfl)
                      have q39 : a'.tmps.getD 39 undef = .bool true := (hpre { on := 9, ground := .data } (by simp) rfl)
                      have e33 := rg_ev q33
                      have e39 := rg_ev q39
                      exact rg_same (.bool true) (by unfold Oper.wp execOp; go_simp; all_goals ((try simp only [e33, e39]); (try go_simp); (try rw [if_pos (by omega)]); (try rw [if_neg (by omega)]); first | done | rfl | exact ⟨rfl, rfl⟩ | trivial)) rfl
                    | 11, ho, _ =>
                      cases ho
                      have q40 : a'.tmps.getD 40 undef = .bool true := (hpre { on := 10, ground := .data } (by simp) rfl)
                      have e40 := rg_ev q40
                      exact rg_same (.bool true) (by unfold Oper.wp execOp; go_simp; all_goals ((try simp only [e40]); (try go_simp); (try rw [if_pos (by omega)]); (try rw [if_neg (by omega)]); first | done | rfl | exact ⟨rfl, rfl⟩ | trivial)) rfl
                    | 12, ho, _ =>
                      cases ho
                      have q4 : a'.tmps.getD 4 undef = .pointer (some ⟨V, 0, none⟩) := (hrest 4 (by intro i hi; have hi : i < 17 := hi; show 30 + min i 16 ≠ _; omega))
                      have e4 := rg_ev q4
                      exact rg_same (.pointer (some ⟨V, 1, none⟩)) (by unfold Oper.wp execOp; go_simp; all_goals ((try simp only [e4]); (try go_simp); (try rw [if_pos (by omega)]); (try rw [if_neg (by omega)]); first | done | rfl | exact ⟨rfl, rfl⟩ | trivial)) rfl
                    | 13, ho, _ =>
                      cases ho
                      have q42 : a'.tmps.getD 42 undef = .pointer (some ⟨V, 1, none⟩) := (hpre { on := 12, ground := .data } (by simp) rfl)
                      have c1 : W.cell? ⟨V, 1, none⟩ = some (.string vb) := (hbel.cell (p := ⟨V, 1, none⟩) HVL0.out).trans HC1.out
                      have e42 := rg_ev q42
                      exact rg_same (.string vb) (by unfold Oper.wp execOp; go_simp; all_goals ((try simp only [e42]); (try go_simp); (try rw [if_pos (by omega)]); (try rw [if_neg (by omega)]); first | done | rfl | exact ⟨rfl, rfl⟩ | trivial)) rfl
                    | 14, ho, _ =>
                      cases ho
                      have q43 : a'.tmps.getD 43 undef = .string vb := (hpre { on := 13, ground := .data } (by simp) rfl)
                      exact rg_call 43 57 _ _ _ rfl q43 (enters_of Tryz.func57 (by kernel_rfl) rfl) (KVA.out W) (fun e w' h => ⟨_, h.1, _, rfl, rfl, h.2⟩)
                    | 15, ho, _ =>
                      cases ho
                      have q41 : a'.tmps.getD 41 undef = .bool true := (hpre { on := 11, ground := .data } (by simp) rfl)
                      have q44 : a'.tmps.getD 44 undef = .bool true := (hpre { on := 14, ground := .data } (by simp) rfl)
                      have e41 := rg_ev q41
                      have e44 := rg_ev q44
                      exact rg_same (.bool true) (by unfold Oper.wp execOp; go_simp; all_goals ((try simp only [e41, e44]); (try go_simp); (try rw [if_pos (by omega)]); (try rw [if_neg (by omega)]); first | done | rfl | exact ⟨rfl, rfl⟩ | trivial)) rfl
                    | 16, ho, _ =>
                      cases ho
                      have q45 : a'.tmps.getD 45 undef = .bool true := (hpre { on := 15, ground := .data } (by simp) rfl)
                      exact rg_callc 45 55 _ _ _ _ rfl q45 (enters_of Tryz.func55 (by kernel_rfl) rfl) (hd_must 2 W) (fun e w' h => ⟨_, h.1, _, rfl, rfl, by rw [h.2]; exact Below.refl _ _⟩)
                    | n + 17, ho, _ => exact absurd ho (by simp)
                  case done =>
                    intro vs W hbel hvs
                    have v0 : vs 0 = .pointer (some ⟨V, 0, none⟩) := hvs 0 (by decide)
                    have v1 : vs 1 = .string nb := hvs 1 (by decide)
                    have v2 : vs 2 = .bool true := hvs 2 (by decide)
                    have v3 : vs 3 = .bool true := hvs 3 (by decide)
                    have v4 : vs 4 = .pointer (some ⟨V, 0, none⟩) := hvs 4 (by decide)
                    have v5 : vs 5 = .string nb := hvs 5 (by decide)
                    have v6 : vs 6 = .string lb := hvs 6 (by decide)
                    have v7 : vs 7 = .pointer (some ⟨V, 0, none⟩) := hvs 7 (by decide)
                    have v8 : vs 8 = .string nb := hvs 8 (by decide)
                    have v9 : vs 9 = .bool true := hvs 9 (by decide)
                    have v10 : vs 10 = .bool true := hvs 10 (by decide)
                    have v11 : vs 11 = .bool true := hvs 11 (by decide)
                    have v12 : vs 12 = .pointer (some ⟨V, 1, none⟩) := hvs 12 (by decide)
                    have v13 : vs 13 = .string vb := hvs 13 (by decide)
                    have v14 : vs 14 = .bool true := hvs 14 (by decide)
                    have v15 : vs 15 = .bool true := hvs 15 (by decide)
                    have v16 : vs 16 = .tuple #[] := hvs 16 (by decide)
                    have HBR := Lib.hid hbel
                    simp only [fillN, List.size_toArray, List.length_cons, List.length_nil, Nat.reduceAdd, show List.range 17 = [0, 1, 2, 3, 4, 5, 6, 7, 8, 9, 10, 11, 12, 13, 14, 15, 16] from rfl, List.foldl_cons, List.foldl_nil, show 30 + min 0 16 = 30 from rfl, show 30 + min 1 16 = 31 from rfl, show 30 + min 2 16 = 32 from rfl, show 30 + min 3 16 = 33 from rfl, show 30 + min 4 16 = 34 from rfl, show 30 + min 5 16 = 35 from rfl, show 30 + min 6 16 = 36 from rfl, show 30 + min 7 16 = 37 from rfl, show 30 + min 8 16 = 38 from rfl, show 30 + min 9 16 = 39 from rfl, show 30 + min 10 16 = 40 from rfl, show 30 + min 11 16 = 41 from rfl, show 30 + min 12 16 = 42 from rfl, show 30 + min 13 16 = 43 from rfl, show 30 + min 14 16 = 44 from rfl, show 30 + min 15 16 = 45 from rfl, show 30 + min 16 16 = 46 from rfl, v0, v1, v2, v3, v4, v5, v6, v7, v8, v9, v10, v11, v12, v13, v14, v15, v16]
                    clear v0 v1 v2 v3 v4 v5 v6 v7 v8 v9 v10 v11 v12 v13 v14 v15 v16 hvs hbel
                    go_simp
                    go_wp2_with fail
                    go_roundw
                    case rel =>
                      refine ⟨k + 1, hlt, by go_num, ?_, HB6.out.trans (HBR.out.mono HB6.out.size)⟩
                      rw [HTK.out, List.all_append, HALL.out, List.all_cons, HFB2.out]; rfl
                    case measure => simp [intOf]; omega
          · exfalso
            have h := HALL.out
            rw [List.take_of_length_le (by rw [HNN.out]; omega)] at h
            have h2 := HO2.out
            rw [h] at h2
            cases h2
end Go.Proofs.YtheaichiglfmjaaGreatDoor

/- response: Of of a head that may not be. No conditions but those that the law states. -/
namespace Go.Proofs.YtheaichiglfmjaaGreatDoor
set_option linter.unusedVariables false
set_option linter.unusedSimpArgs false
open Go.RowKit Go.Shelf
set_option maxHeartbeats 4000000
set_option maxRecDepth 100000
theorem rs_OfNo (F : List UInt8) (v : Value) (fs : List Hp.Hd) (w : World) (hv : HS w v fs) (hno : Hr.okB F fs = false) (hF : F.length ≤ 100000) (hl : fs.length ≤ 1000) (hs : ∀ f ∈ fs, f.1.length ≤ 100000 ∧ f.2.length ≤ 100000) :
    Calls Tryz.prog 13 #[.agg #[Hp.sx F, v]] w fun e w' => e = .returned (.tuple #[repV (0, false, false, false, 0), .int .i64 2]) ∧ Below w.heap.size w w' := by
  obtain ⟨p, c, rfl⟩ := hv.slice
  have hck := (fun W (h : Below w.heap.size w W) => hd_CheckG F (.slice p fs.length c) fs W (hv.below h) hF (by omega) hs)
  rw [hno] at hck
  simp only [Bool.false_eq_true, if_false] at hck
  have HCK := Lib.hid hck
  clear hck
  obtain ⟨N, hN⟩ : ∃ z, fs.length = z := ⟨_, rfl⟩
  rw [hN] at HCK ⊢
  unfold Hp.sx at HCK
  unfold Hp.sx
  obtain ⟨fb, hfb⟩ : ∃ z : ByteArray, (⟨F.toArray⟩ : ByteArray) = z := ⟨_, rfl⟩
  rw [hfb] at HCK ⊢
  obtain ⟨B, hB⟩ : ∃ B, w.heap.size = B := ⟨_, rfl⟩
  obtain ⟨W3, hW3⟩ : ∃ z, ((w.alloc (.cells #[.string fb, .slice p N c] 28)).alloc (.cells #[.int .i64 0, .bool false, .bool false, .bool false, .int .u64 0] 31)).alloc (.cells #[.int .i64 0] 40) = z := ⟨_, rfl⟩
  have hb3 : Below w.heap.size w W3 := by rw [← hW3]; exact (((Below.refl _ _).alloc (Nat.le_refl _) _).alloc (by simp) _).alloc (by simp; omega) _
  have hg : W3.heap[B]? = some (.cells #[.string fb, .slice p N c] 28 (0, 0)) := by
    rw [← hW3, Below.heap_alloc _ _ _ (by simp; omega), Below.heap_alloc _ _ _ (by simp; omega), ← hB]
    exact World.alloc_heap_new _ _
  have hr : W3.heap[B + 1]? = some (repC (0, false, false, false, 0)) := by
    rw [← hW3, Below.heap_alloc _ _ _ (by simp; omega)]
    have h := World.alloc_heap_new (w.alloc (.cells #[.string fb, .slice p N c] 28)) (.cells #[.int .i64 0, .bool false, .bool false, .bool false, .int .u64 0] 31)
    simpa [hB, repC] using h
  have he : W3.heap[B + 2]? = some (.cells #[.int .i64 0] 40 (0, 0)) := by
    rw [← hW3]
    have h := World.alloc_heap_new ((w.alloc (.cells #[.string fb, .slice p N c] 28)).alloc (.cells #[.int .i64 0, .bool false, .bool false, .bool false, .int .u64 0] 31)) (.cells #[.int .i64 0] 40)
    simpa [hB] using h
  have K := Lib.hid (HCK.out W3 hb3)
  have a0 : W3.cell? ⟨B, 0, none⟩ = some (.string fb) := by simp [World.cell?, hg]
  have a1 : W3.cell? ⟨B, 1, none⟩ = some (.slice p N c) := by simp [World.cell?, hg]
  have HB3 := Lib.hid hb3
  have HR := Lib.hid hr
  have HE := Lib.hid he
  have HW3 := Lib.hid hW3
  have HBB := Lib.hid hB
  rw [← HW3.out, ← HBB.out] at a0 a1
  clear hb3 hg hr he hW3 hB hv hs hfb HCK
  go_enter Tryz.func13, Tryz.ntmps13
  go_wp2_with fail
  rw [HW3.out]
  refine K.out.mono ?_
  rintro e w4 ⟨rfl, hb⟩
  have HB4 := Lib.hid (HB3.out.trans (hb.mono HB3.out.size))
  have hr4 := (hb.block _ (Array.getElem?_eq_some_iff.1 HR.out).1).trans HR.out
  have he4 := (hb.block _ (Array.getElem?_eq_some_iff.1 HE.out).1).trans HE.out
  rw [HBB.out]
  have z := rep_free hr4
  have z0 := z 0
  have z1 := z 1
  have z2 := z 2
  have z3 := z 3
  have z4 := z 4
  obtain ⟨c0, c1, c2, c3, c4⟩ := rep_cell hr4
  dsimp only at c0 c1 c2 c3 c4
  have ze : w4.frozen? ⟨B + 1 + 1, 0, none⟩ = false := frozen_of_row _ _ _ _ _ he4
  have ce : w4.cell? ⟨B + 1 + 1, 0, none⟩ = some (.int .i64 0) := by simp [World.cell?, he4]
  have HR4 := Lib.hid hr4
  have HE4 := Lib.hid he4
  clear z hr4 he4 hb
  go_wp2_with fail
  obtain ⟨W5, hW5⟩ : ∃ z, (stR w4 (B + 1) (0, false, false, false, 0)).setCell ⟨B + 1 + 1, 0, none⟩ (.int .i64 2) = z := ⟨_, rfl⟩
  have g5 : W5.heap[B + 1]? = some (repC (0, false, false, false, 0)) := by
    rw [← hW5, Below.heap_setCell _ _ _ _ (by show B + 1 ≠ B + 1 + 1; omega)]
    exact stR_heap HR4.out _
  have e5 : W5.cell? ⟨B + 1 + 1, 0, none⟩ = some (.int .i64 2) := by
    have h1 : (stR w4 (B + 1) (0, false, false, false, 0)).heap[B + 1 + 1]? = some (.cells #[.int .i64 0] 40 (0, 0)) := (stR_other _ (by omega)).trans HE4.out
    have h2 := heap_setCell_same _ (B + 1 + 1) 0 _ _ (.int .i64 2) h1
    rw [hW5] at h2
    simp [World.cell?, h2]
  have b5 : Below w.heap.size w W5 := by
    rw [← hW5]
    exact (stR_below _ HB4.out (by have := HBB.out; omega)).setCell (p := ⟨B + 1 + 1, 0, none⟩) (by have := HBB.out; show w.heap.size ≤ B + 1 + 1; omega) _
  obtain ⟨d0, d1, d2, d3, d4⟩ := rep_cell g5
  dsimp only at d0 d1 d2 d3 d4
  show bodyPost _ _ _ _ _ ((stR w4 (B + 1) (0, false, false, false, 0)).setCell ⟨B + 1 + 1, 0, none⟩ (.int .i64 2))
  rw [hW5]
  refine bodyPost_ret (v := .tuple #[repV (0, false, false, false, 0), .int .i64 2]) ?_ rfl ⟨rfl, b5⟩
  simp [results, Tryz.results13, go_sem, d0, d1, d2, d3, d4, e5, repV]
end Go.Proofs.YtheaichiglfmjaaGreatDoor

/- response: the reference's Of, of any head whose joined values are not too long. No conditions but those that the law states. -/
namespace Go.Proofs.YtheaichiglfmjaaGreatDoor
set_option linter.unusedVariables false
set_option linter.unusedSimpArgs false
open Go.RowKit Go.Shelf
set_option maxHeartbeats 8000000
set_option maxRecDepth 100000
/-- what stands while the reference's Of goes on -/
structure RoW (w W : World) (B L : Nat) (fb : ByteArray) (v : Value) (r : Rs.Rep) : Prop where
  hb : Below w.heap.size w W
  hB : w.heap.size = B
  hL : B + 1 < L
  H : W.heap[B]? = some (.cells #[.string fb, v] 28 (0, 0))
  R : W.heap[B + 1]? = some (repC rep0)
  K : W.heap[L]? = some (repC r)
theorem RoW.next {w W W' : World} {B L : Nat} {fb : ByteArray} {v : Value} {r : Rs.Rep} (h : RoW w W B L fb v r) (k : Below W.heap.size W W') : RoW w W' B L fb v r :=
  ⟨h.hb.trans (k.mono h.hb.size), h.hB, h.hL, (k.block _ (Array.getElem?_eq_some_iff.1 h.H).1).trans h.H, (k.block _ (Array.getElem?_eq_some_iff.1 h.R).1).trans h.R, (k.block _ (Array.getElem?_eq_some_iff.1 h.K).1).trans h.K⟩
theorem RoW.put {w W : World} {B L i : Nat} {fb : ByteArray} {v x : Value} {r r' : Rs.Rep} (h : RoW w W B L fb v r) (hr : (W.setCell ⟨L, i, none⟩ x).heap[L]? = some (repC r')) : RoW w (W.setCell ⟨L, i, none⟩ x) B L fb v r' :=
  ⟨h.hb.setCell (p := ⟨L, i, none⟩) (by have := h.hB; have := h.hL; show w.heap.size ≤ L; omega) _, h.hB, h.hL, (Below.heap_setCell _ _ _ _ (by have := h.hL; show B ≠ L; omega)).trans h.H, (Below.heap_setCell _ _ _ _ (by have := h.hL; show B + 1 ≠ L; omega)).trans h.R, hr⟩
theorem RoW.s1 {w W : World} {B L : Nat} {fb : ByteArray} {v : Value} {m : Int} {a b c x : Bool} {l : Int} (h : RoW w W B L fb v (m, a, b, c, l)) : RoW w (W.setCell ⟨L, 1, none⟩ (.bool x)) B L fb v (m, x, b, c, l) :=
  h.put ((heap_setCell_same W L 1 _ _ _ h.K).trans (by simp [repC]))
theorem RoW.s2 {w W : World} {B L : Nat} {fb : ByteArray} {v : Value} {m : Int} {a b c x : Bool} {l : Int} (h : RoW w W B L fb v (m, a, b, c, l)) : RoW w (W.setCell ⟨L, 2, none⟩ (.bool x)) B L fb v (m, a, x, c, l) :=
  h.put ((heap_setCell_same W L 2 _ _ _ h.K).trans (by simp [repC]))
theorem RoW.s3 {w W : World} {B L : Nat} {fb : ByteArray} {v : Value} {m : Int} {a b c x : Bool} {l : Int} (h : RoW w W B L fb v (m, a, b, c, l)) : RoW w (W.setCell ⟨L, 3, none⟩ (.bool x)) B L fb v (m, a, b, x, l) :=
  h.put ((heap_setCell_same W L 3 _ _ _ h.K).trans (by simp [repC]))
theorem RoW.s4 {w W : World} {B L : Nat} {fb : ByteArray} {v : Value} {m : Int} {a b c : Bool} {l x : Int} (h : RoW w W B L fb v (m, a, b, c, l)) : RoW w (W.setCell ⟨L, 4, none⟩ (.int .u64 x)) B L fb v (m, a, b, c, x) :=
  h.put ((heap_setCell_same W L 4 _ _ _ h.K).trans (by simp [repC]))
/-- how it ends -/
theorem RoW.fin {w W : World} {B : Nat} (hb : Below w.heap.size w W) (hB : w.heap.size = B) (hR : W.heap[B + 1]? = some (repC rep0)) (tm : Array Value) (q : Rs.Rep) (n : Int) (E : Ending) (hE : E = .returned (.tuple #[repV q, .int .i64 n]))
    (h2 : tm.getD 2 undef = .pointer (some ⟨B + 1, 0, none⟩)) (h3 : tm.getD 3 undef = .int .i64 n) :
    bodyPost Tryz.prog Tryz.f8 (fun e w' => e = E ∧ Below w.heap.size w w') .ret { tmps := tm, defers := [] } (stR W (B + 1) q) := by
  have hR2 := stR_heap hR q
  have hbb : Below w.heap.size w (stR W (B + 1) q) := stR_below _ hb (by omega)
  obtain ⟨x0, x1, x2, x3, x4⟩ := rep_cell hR2
  rw [Array.getD_eq_getD_getElem?] at h2 h3
  refine bodyPost_ret (v := .tuple #[repV q, .int .i64 n]) ?_ rfl ⟨hE.symm, hbb⟩
  simp [results, Tryz.results8, go_sem, h2, h3, x0, x1, x2, x3, x4, repV]
theorem rf_getJ (F : List UInt8) (nb : ByteArray) (nm : List UInt8) (v : Value) (fs : List Hp.Hd) (w : World) (hv : HS w v fs) (hl : fs.length ≤ 1000) (hs : ∀ f ∈ fs, f.1.length ≤ 100000 ∧ f.2.length ≤ 100000) (hn : nm.length ≤ 100000)
    (hnm : bx nm = nb) (fb : ByteArray) (hfb : (⟨F.toArray⟩ : ByteArray) = fb) (cb : ByteArray) (hcb : (⟨(Rs.joined nm fs).toArray⟩ : ByteArray) = cb) (k : Nat) (hk : (Hg.vals nm fs).length = k) :
    Calls Tryz.prog 22 #[.agg #[.string fb, v], .string nb] w fun e w' => e = .returned (.tuple #[.string cb, .int .i64 (k : Nat)]) ∧ Below w.heap.size w w' := by
  have h := ref_Get F nm v fs w hv hl hs hn
  rw [hnm, Hr.get_is] at h
  unfold Hp.sx at h
  rw [hfb] at h
  unfold bx at h
  simp only at h
  rw [hcb, hk] at h
  exact h
theorem bxl (l : List UInt8) : (bx l).toList = l := by rw [ByteArray.toList_eq]; simp [bx]
theorem rf_Of (F : List UInt8) (v : Value) (fs : List Hp.Hd) (w : World) (hv : HS w v fs) (hF : F.length ≤ 100000) (hl : fs.length ≤ 1000) (hs : ∀ f ∈ fs, f.1.length ≤ 100000 ∧ f.2.length ≤ 100000)
    (hj : (Rs.joined Hp.ct fs).length ≤ 5000 ∧ (Rs.joined Hp.te fs).length ≤ 5000 ∧ (Rs.joined Hp.cl fs).length ≤ 5000) :
    Calls Tryz.prog 8 #[.agg #[Hp.sx F, v]] w fun e w' => e = (if Hr.okB F fs = true then ofOut (Rs.of F fs) else .returned (.tuple #[repV rep0, .int .i64 2])) ∧ Below w.heap.size w w' := by
  obtain ⟨p, c, rfl⟩ := hv.slice
  obtain ⟨o, ho⟩ : ∃ z, Rs.of F fs = z := ⟨_, rfl⟩
  obtain ⟨ok, hok⟩ : ∃ z, Hr.okB F fs = z := ⟨_, rfl⟩
  rw [ho, hok]
  obtain ⟨fb, hfb⟩ : ∃ z : ByteArray, (⟨F.toArray⟩ : ByteArray) = z := ⟨_, rfl⟩
  have hfd : fb.data.toList = F := by rw [← hfb]
  have hfz : fb.size ≤ 100000 := by rw [← hfb]; simpa [ByteArray.size] using hF
  have HRT := Lib.hid (fun W (h : Below w.heap.size w W) => rf_Right F (.slice p fs.length c) fs W (hv.below h) hF hl hs)
  rw [hok] at HRT
  unfold Hp.sx at HRT ⊢
  rw [hfb] at HRT ⊢
  obtain ⟨B, hB⟩ : ∃ B, w.heap.size = B := ⟨_, rfl⟩
  obtain ⟨cb, hcb⟩ : ∃ z : ByteArray, (⟨(Rs.joined Hp.ct fs).toArray⟩ : ByteArray) = z := ⟨_, rfl⟩
  obtain ⟨tb, htb⟩ : ∃ z : ByteArray, (⟨(Rs.joined Hp.te fs).toArray⟩ : ByteArray) = z := ⟨_, rfl⟩
  obtain ⟨lb, hlb⟩ : ∃ z : ByteArray, (⟨(Rs.joined Hp.cl fs).toArray⟩ : ByteArray) = z := ⟨_, rfl⟩
  obtain ⟨nc, hnc⟩ : ∃ z, (Hg.vals Hp.ct fs).length = z := ⟨_, rfl⟩
  obtain ⟨nt, hnt⟩ : ∃ z, (Hg.vals Hp.te fs).length = z := ⟨_, rfl⟩
  obtain ⟨nl, hnl⟩ : ∃ z, (Hg.vals Hp.cl fs).length = z := ⟨_, rfl⟩
  have hcd : cb.data.toList = Rs.joined Hp.ct fs := by rw [← hcb]
  have htd : tb.data.toList = Rs.joined Hp.te fs := by rw [← htb]
  have hld : lb.data.toList = Rs.joined Hp.cl fs := by rw [← hlb]
  have hcz : cb.size ≤ 5000 := by rw [← hcb]; simpa [ByteArray.size] using hj.1
  have htz : tb.size ≤ 5000 := by rw [← htb]; simpa [ByteArray.size] using hj.2.1
  have hlz : lb.size ≤ 5000 := by rw [← hlb]; simpa [ByteArray.size] using hj.2.2
  have GC := Lib.hid (fun W (h : Below w.heap.size w W) => rf_getJ F ⟨#[99, 111, 110, 116, 101, 110, 116, 45, 116, 121, 112, 101]⟩ Hp.ct (.slice p fs.length c) fs W (hv.below h) hl hs (by decide) rfl fb hfb cb hcb nc hnc)
  have GT := Lib.hid (fun W (h : Below w.heap.size w W) => rf_getJ F ⟨#[116, 114, 97, 110, 115, 102, 101, 114, 45, 101, 110, 99, 111, 100, 105, 110, 103]⟩ Hp.te (.slice p fs.length c) fs W (hv.below h) hl hs (by decide) rfl fb hfb tb htb nt hnt)
  have GL := Lib.hid (fun W (h : Below w.heap.size w W) => rf_getJ F ⟨#[99, 111, 110, 116, 101, 110, 116, 45, 108, 101, 110, 103, 116, 104]⟩ Hp.cl (.slice p fs.length c) fs W (hv.below h) hl hs (by decide) rfl fb hfb lb hlb nl hnl)
  have ST := Lib.hid (fun W => rf_status fb W (by omega))
  rw [hfd] at ST
  obtain ⟨st, hst⟩ : ∃ z, Rs.stW F = z := ⟨_, rfl⟩
  rw [hst] at ST
  have TC := Lib.hid (fun W => rtk_cut cb 59 W (by omega))
  obtain ⟨xb, hxb⟩ : ∃ z : ByteArray, (⟨(Tp.cut cb.data.toList 59).1.toArray⟩ : ByteArray) = z := ⟨_, rfl⟩
  obtain ⟨x2, hx2⟩ : ∃ z, tx (Tp.cut cb.data.toList 59).2.1 = z := ⟨_, rfl⟩
  obtain ⟨x3, hx3⟩ : ∃ z, (Tp.cut cb.data.toList 59).2.2 = z := ⟨_, rfl⟩
  have hxd : xb.data.toList = (Tp.cut cb.data.toList 59).1 := by rw [← hxb]
  have hxz : xb.size ≤ 9223372036854775807 := by
    rw [← hxb]
    have h1 := Tp.cut_len cb.data.toList 59
    have h2 : cb.data.toList.length = cb.size := rfl
    simp [ByteArray.size]; omega
  unfold tx at TC hx2
  rw [hxb, hx2, hx3] at TC
  have TS := Lib.hid (fun W => rtk_lower xb W hxz)
  rw [show (⟨(Tp.lower xb.data.toList).toArray⟩ : ByteArray) = bx (Tp.lower xb.data.toList) from rfl] at TS
  obtain ⟨lw, hlw⟩ : ∃ z : ByteArray, bx (Tp.lower xb.data.toList) = z := ⟨_, rfl⟩
  have hlwd : lw.toList = Tp.lower xb.data.toList := by rw [← hlw, bxl]
  rw [hlw] at TS
  obtain ⟨b1, hb1⟩ : ∃ z, (Tp.lower xb.data.toList == Hp.es) = z := ⟨_, rfl⟩
  have TI := Lib.hid (fun W => rtk_items tb W htz)
  have HIL := Lib.hid (fun p (hp : p ∈ Tp.items tb.data.toList) => Tp.items_len hp)
  obtain ⟨I, hI⟩ : ∃ z, Tp.items tb.data.toList = z := ⟨_, rfl⟩
  rw [hI] at TI HIL
  have DG := Lib.hid (fun W => ref_digits lb W (by omega))
  obtain ⟨NN, hNN⟩ : ∃ z, Dp.numN 10 lb.data.toList = z := ⟨_, rfl⟩
  obtain ⟨NE, hNE⟩ : ∃ z, Dp.numE 10 lb.data.toList = z := ⟨_, rfl⟩
  rw [hNN, hNE] at DG
  have hev : Rs.isEv fs = (decide (nc = 1) && b1) := by
    unfold Rs.isEv
    rw [hnc, ← hcd, ← hxd, hb1]
  have HOK := Lib.hid (show ∀ st, Rs.ofK st fs = (if 0 < nt then
      (if nl = 0 ∧ I.length = 1 ∧ Tp.lower (I.getD 0 []) = Hp.ch then some (st, Rs.isEv fs, true, false, 0) else none)
      else if 0 < nl then (if nl = 1 ∧ NE = 0 then some (st, Rs.isEv fs, false, true, NN) else none) else some (st, Rs.isEv fs, false, false, 0)) from fun st => by
    unfold Rs.ofK
    rw [hnt, hnl, ← htd, ← hld, hI, hNN, hNE])
  obtain ⟨ev, hevq⟩ : ∃ z, Rs.isEv fs = z := ⟨_, rfl⟩
  rw [hevq] at HOK hev
  have HEV := Lib.hid hev
  have hob : o = if st = 0 then none else Rs.ofK st fs := by
    have h1 := Rs.status_is F
    rw [← ho]
    unfold Rs.of
    cases hq : Rs.status F with
    | none =>
      rw [hq] at h1
      have h2 : st = 0 := by rw [← hst, ← h1]; rfl
      rw [if_pos h2]; rfl
    | some x =>
      rw [hq] at h1
      have h2 : st = x := by rw [← hst, ← h1]; rfl
      have h3 := Rs.status_in hq
      rw [if_neg (by omega), h2]; rfl
  have HO := Lib.hid hob
  have hb1 : (lw.toList == Hp.es) = b1 := by rw [hlwd]; exact hb1
  have HB1 := Lib.hid hb1
  obtain ⟨n, hn⟩ : ∃ z, fs.length = z := ⟨_, rfl⟩
  rw [hn] at HRT GC GT GL ⊢
  obtain ⟨W2, hW2⟩ : ∃ z, (w.alloc (.cells #[.string fb, .slice p n c] 28)).alloc (.cells #[.int .i64 0, .bool false, .bool false, .bool false, .int .u64 0] 31) = z := ⟨_, rfl⟩
  have HB2 := Lib.hid (show Below w.heap.size w W2 by rw [← hW2]; exact ((Below.refl _ _).alloc (Nat.le_refl _) _).alloc (by simp) _)
  have hH : W2.heap[B]? = some (.cells #[.string fb, .slice p n c] 28 (0, 0)) := by
    rw [← hW2, Below.heap_alloc _ _ _ (by simp; omega), ← hB]
    exact World.alloc_heap_new _ _
  have hR : W2.heap[B + 1]? = some (repC rep0) := by
    rw [← hW2]
    have h := World.alloc_heap_new (w.alloc (.cells #[.string fb, .slice p n c] 28)) (.cells #[.int .i64 0, .bool false, .bool false, .bool false, .int .u64 0] 31)
    simpa [hB, repC, rep0] using h
  have y0 : W2.cell? ⟨B, 0, none⟩ = some (.string fb) := by simp [World.cell?, hH]
  have y1 : W2.cell? ⟨B, 1, none⟩ = some (.slice p n c) := by simp [World.cell?, hH]
  have KR := Lib.hid (HRT.out W2 HB2.out)
  have HHH := Lib.hid hH
  have HRR := Lib.hid hR
  have HBB := Lib.hid hB
  have HW2 := Lib.hid hW2
  clear hv ho hok hfb hfd hfz hn hW2 hH hR hB hj hs hF hl hcb htb hlb hnc hnt hnl hcd htd hld hcz hlz hst hxb hx2 hx3 hxd hxz hlw hlwd hb1 hI hNN hNE hev hevq hob
  go_enter Tryz.func8, Tryz.ntmps8
  go_wp2_with fail
  rw [HW2.out, HBB.out]
  refine KR.out.mono ?_
  rintro e w3 ⟨rfl, hb⟩
  have HB3 := Lib.hid (HB2.out.trans (hb.mono HB2.out.size))
  have HH3 := Lib.hid ((hb.block _ (Array.getElem?_eq_some_iff.1 HHH.out).1).trans HHH.out)
  have HR3 := Lib.hid ((hb.block _ (Array.getElem?_eq_some_iff.1 HRR.out).1).trans HRR.out)
  clear hb y0 y1 KR
  cases ok with
  | false =>
    have HG := HR3.out
    have z0 := rep_free HG 0
    have z1 := rep_free HG 1
    have z2 := rep_free HG 2
    have z3 := rep_free HG 3
    have z4 := rep_free HG 4
    obtain ⟨r0, r1, r2, r3, r4⟩ := rep_cell HG
    clear HG
    go_wp2_with fail
    try simp only [Bool.false_eq_true, if_false]
    exact RoW.fin HB3.out HBB.out HR3.out _ rep0 2 _ rfl rfl rfl
  | true =>
    simp only [if_true]
    have y0 : w3.cell? ⟨B, 0, none⟩ = some (.string fb) := by simp [World.cell?, HH3.out]
    have y1 : w3.cell? ⟨B, 1, none⟩ = some (.slice p n c) := by simp [World.cell?, HH3.out]
    go_wp2_with fail
    refine (ST.out w3).mono ?_
    rintro e w' ⟨rfl, hw⟩
    subst w'
    obtain ⟨L, hL⟩ : ∃ z, w3.heap.size = z := ⟨_, rfl⟩
    obtain ⟨w4, hw4⟩ : ∃ z, w3.alloc (.cells #[.int .i64 st, .bool false, .bool false, .bool false, .int .u64 0] 31) = z := ⟨_, rfl⟩
    have hl4 : Below w3.heap.size w3 w4 := by rw [← hw4]; exact (Below.refl _ _).alloc (Nat.le_refl _) _
    have HQ4 := Lib.hid (show RoW w w4 B L fb (.slice p n c) (st, false, false, false, 0) from ⟨HB3.out.trans (hl4.mono HB3.out.size), HBB.out, by rw [← hL]; exact (Array.getElem?_eq_some_iff.1 HR3.out).1,
      (hl4.block _ (Array.getElem?_eq_some_iff.1 HH3.out).1).trans HH3.out, (hl4.block _ (Array.getElem?_eq_some_iff.1 HR3.out).1).trans HR3.out, by rw [← hw4, ← hL]; exact World.alloc_heap_new _ _⟩)
    have HW4 := Lib.hid hw4
    have HLL := Lib.hid hL
    obtain ⟨k0, k1, k2, k3, k4⟩ := rep_cell HQ4.out.K
    dsimp only at k0 k1 k2 k3 k4
    clear hl4 hw4 hL
    go_upto_region 4 with (fail)
    rw [HW4.out, HLL.out]
    by_cases h0 : st = 0
    · subst h0
      have HO0 := Lib.hid (show o = none by rw [HO.out, if_pos rfl])
      have HG := HQ4.out.R
      have z0 := rep_free HG 0
      have z1 := rep_free HG 1
      have z2 := rep_free HG 2
      have z3 := rep_free HG 3
      have z4 := rep_free HG 4
      obtain ⟨r0, r1, r2, r3, r4⟩ := rep_cell HG
      clear HG
      go_wp2_with fail
      exact RoW.fin HQ4.out.hb HBB.out HQ4.out.R _ rep0 250 _ (by rw [HO0.out]; rfl) rfl rfl
    have q0 : (st == 0) = false := beq_eq_false_iff_ne.2 h0
    have HO1 := Lib.hid (show o = Rs.ofK st fs by rw [HO.out, if_neg h0])
    clear h0
    have HH4 := HQ4.out.H
    have l0 : w4.cell? ⟨B, 0, none⟩ = some (.string fb) := by simp [World.cell?, HH4]
    have l1 : w4.cell? ⟨B, 1, none⟩ = some (.slice p n c) := by simp [World.cell?, HH4]
    have KG := Lib.hid (GC.out w4 HQ4.out.hb)
    clear HH4 y0 y1
    go_wp2_with fail
    refine KG.out.mono ?_
    rintro e w5 ⟨rfl, hb⟩
    have HQ5 := Lib.hid (HQ4.out.next hb)
    clear hb l0 l1 KG k0 k1 k2 k3 k4
    go_wp2_with fail
    refine (TC.out w5).mono ?_
    rintro e w6 ⟨rfl, hb⟩
    have HQ6 := Lib.hid (HQ5.out.next hb)
    clear hb
    go_upto_region 8 with (fail)
    go_cut [] from 10 (fun wx => RoW w wx B L fb (.slice p n c) (st, ev, false, false, 0))
    case first =>
      have HG := HQ6.out.K
      have z1 := rep_free HG 1
      obtain ⟨r0, r1, r2, r3, r4⟩ := rep_cell HG
      clear HG
      by_cases hc1 : nc = 1
      · subst hc1
        go_wp2_with fail
        refine (TS.out w6).mono ?_
        rintro e w7 ⟨rfl, hb⟩
        have HQ7 := Lib.hid (HQ6.out.next hb)
        have HG := HQ7.out.K
        have z2 := rep_free HG 1
        obtain ⟨q0, q1, q2, q3, q4⟩ := rep_cell HG
        clear HG hb
        obtain rfl : ev = b1 := by rw [HEV.out]; simp
        go_wp2_with fail
        go_meet
        show RoW w (w7.setCell ⟨L, 1, none⟩ (.bool (lw.toList == Hp.es))) B L fb (.slice p n c) (st, ev, false, false, 0)
        rw [HB1.out]
        exact HQ7.out.s1
      · have hq : ((nc : Int) == 1) = false := beq_eq_false_iff_ne.2 (by omega)
        obtain rfl : ev = false := by rw [HEV.out, decide_eq_false hc1]; rfl
        clear hc1
        go_wp2_with fail
        go_meet
        exact HQ6.out.s1
    case rest =>
      have HQA := Lib.hid hcut
      obtain ⟨wd, rfl⟩ : ∃ z, z = wc := ⟨_, rfl⟩
      clear hcut TC TS q0
      have HH4 := HQA.out.H
      have l0 : wd.cell? ⟨B, 0, none⟩ = some (.string fb) := by simp [World.cell?, HH4]
      have l1 : wd.cell? ⟨B, 1, none⟩ = some (.slice p n c) := by simp [World.cell?, HH4]
      clear HH4
      have KT := Lib.hid (GT.out wd HQA.out.hb)
      go_wp2_with fail
      refine KT.out.mono ?_
      rintro e w8 ⟨rfl, hb⟩
      have HQB := Lib.hid (HQA.out.next hb)
      clear hb l0 l1 KT
      have HH4 := HQB.out.H
      have l0 : w8.cell? ⟨B, 0, none⟩ = some (.string fb) := by simp [World.cell?, HH4]
      have l1 : w8.cell? ⟨B, 1, none⟩ = some (.slice p n c) := by simp [World.cell?, HH4]
      clear HH4
      have KL := Lib.hid (GL.out w8 HQB.out.hb)
      go_wp2_with fail
      refine KL.out.mono ?_
      rintro e w9 ⟨rfl, hb⟩
      have HQC := Lib.hid (HQB.out.next hb)
      clear hb l0 l1 KL
      go_wp2_with fail
      refine (TI.out w9).mono ?_
      rintro e w10 ⟨r, rfl, hr, hb⟩
      obtain ⟨p2, c2, rfl, hrr⟩ := hr
      have HQD := Lib.hid (HQC.out.next hb)
      have HRR2 := Lib.hid hrr
      have HOS := Lib.hid (HO1.out.trans (HOK.out st))
      clear hb hrr
      by_cases ht : 0 < nt
      · have hq1 : ((0 : Int) < (nt : Int)) := by omega
        have HT := Lib.hid ht
        clear ht
        by_cases h0 : nl = 0
        · subst h0
          by_cases h1 : I.length = 1
          · obtain ⟨g, rfl, hc⟩ := HRR2.out.resolve_left (by omega)
            have hx := hc 0 (by omega)
            obtain ⟨x, hxx⟩ : ∃ x, I.getD 0 [] = x := ⟨_, rfl⟩
            have hmem : x ∈ I := by rw [← hxx, List.getD_eq_getElem?_getD, List.getElem?_eq_getElem (show 0 < I.length by omega)]; exact List.getElem_mem _
            rw [hxx] at hx
            obtain ⟨xc, hxc⟩ : ∃ z : ByteArray, (⟨x.toArray⟩ : ByteArray) = z := ⟨_, rfl⟩
            have hxcd : xc.data.toList = x := by rw [← hxc]
            unfold tx at hx
            rw [hxc] at hx
            have hxcs : xc.size ≤ 5000 := by
              have h1 := HIL.out x hmem
              have h2 : xc.data.toList.length = xc.size := rfl
              have h3 : tb.data.toList.length = tb.size := rfl
              rw [hxcd] at h2
              omega
            have SX := Lib.hid (fun W => rtk_lower xc W (by omega))
            rw [hxcd, show (⟨(Tp.lower x).toArray⟩ : ByteArray) = bx (Tp.lower x) from rfl] at SX
            obtain ⟨lx, hlx⟩ : ∃ z : ByteArray, bx (Tp.lower x) = z := ⟨_, rfl⟩
            rw [hlx] at SX
            obtain ⟨b2, hb2⟩ : ∃ z, (Tp.lower x == Hp.ch) = z := ⟨_, rfl⟩
            have hb3 : (lx.toList == [99, 104, 117, 110, 107, 101, 100]) = b2 := by rw [← hlx, bxl]; exact hb2
            have HO2 := Lib.hid (show o = if b2 = true then some (st, ev, true, false, 0) else none by
              rw [HOS.out, if_pos HT.out]
              rw [hxx]
              by_cases hy : Tp.lower x = Hp.ch
              · rw [if_pos ⟨rfl, h1, hy⟩, if_pos (by rw [← hb2]; simpa using hy)]
              · rw [if_neg (fun h => hy h.2.2), if_neg (by rw [← hb2]; simpa using hy)])
            have HH1 := Lib.hid h1
            clear hc hxx hmem hxc hxcd hxcs hb2 hlx
            rw [h1]
            clear h1
            go_wp2_with fail
            refine (SX.out w10).mono ?_
            rintro e w11 ⟨rfl, hb⟩
            have HQE := Lib.hid (HQD.out.next hb)
            clear hb hx
            cases b2 with
            | true =>
              have hsome : o = some (st, ev, true, false, 0) := by rw [HO2.out, if_pos rfl]
              obtain ⟨w12, hw12⟩ : ∃ z, w11.setCell ⟨L, 2, none⟩ (.bool true) = z := ⟨_, rfl⟩
              have HW12 := Lib.hid hw12
              have HQF := Lib.hid (show RoW w w12 B L fb (.slice p n c) (st, ev, true, false, 0) by rw [← hw12]; exact HQE.out.s2)
              have HG := HQE.out.K
              obtain ⟨k0, k1, k2, k3, k4⟩ := rep_cell HG
              have z2 := rep_free HG 2
              have HS := Lib.hid hsome
              clear HG hw12 hsome
              go_upto_region 21 with (fail)
              rw [HW12.out]
              have hsome := HS.out
              clear k0 k1 k2 k3 k4 z2
              have HG := HQF.out.R
              have z0 := rep_free HG 0
              have z1 := rep_free HG 1
              have z2 := rep_free HG 2
              have z3 := rep_free HG 3
              have z4 := rep_free HG 4
              obtain ⟨r0, r1, r2, r3, r4⟩ := rep_cell HG
              have HG2 := HQF.out.K
              obtain ⟨t0, t1, t2, t3, t4⟩ := rep_cell HG2
              dsimp only at t0 t1 t2 t3 t4
              have hne : B + 1 ≠ L := by have := HQF.out.hL; omega
              clear HG HG2
              go_wp2_with fail
              exact RoW.fin HQF.out.hb HBB.out HQF.out.R _ (st, ev, true, false, 0) 0 _ (by first | rfl | (rw [hsome]; rfl)) rfl rfl
            | false =>
              have hnone : o = none := by rw [HO2.out, if_neg (by decide)]
              have HN := Lib.hid hnone
              clear hnone
              have HG := HQE.out.R
              have z0 := rep_free HG 0
              have z1 := rep_free HG 1
              have z2 := rep_free HG 2
              have z3 := rep_free HG 3
              have z4 := rep_free HG 4
              obtain ⟨r0, r1, r2, r3, r4⟩ := rep_cell HG
              clear HG
              go_wp2_with fail
              exact RoW.fin HQE.out.hb HBB.out HQE.out.R _ rep0 250 _ (by rw [HN.out]; rfl) rfl rfl
          · have hq : ((I.length : Int) != 1) = true := by simpa using (show ¬ (I.length : Int) = 1 by omega)
            have HN := Lib.hid (show o = none by rw [HOS.out, if_pos HT.out, if_neg (fun h => h1 h.2.1)])
            clear h1
            have HG := HQD.out.R
            have z0 := rep_free HG 0
            have z1 := rep_free HG 1
            have z2 := rep_free HG 2
            have z3 := rep_free HG 3
            have z4 := rep_free HG 4
            obtain ⟨r0, r1, r2, r3, r4⟩ := rep_cell HG
            clear HG
            go_wp2_with fail
            exact RoW.fin HQD.out.hb HBB.out HQD.out.R _ rep0 250 _ (by rw [HN.out]; rfl) rfl rfl
        · have hq : ((0 : Int) < (nl : Int)) := by omega
          have HN := Lib.hid (show o = none by rw [HOS.out, if_pos HT.out, if_neg (fun h => h0 h.1)])
          clear h0
          have HG := HQD.out.R
          have z0 := rep_free HG 0
          have z1 := rep_free HG 1
          have z2 := rep_free HG 2
          have z3 := rep_free HG 3
          have z4 := rep_free HG 4
          obtain ⟨r0, r1, r2, r3, r4⟩ := rep_cell HG
          clear HG
          go_wp2_with fail
          exact RoW.fin HQD.out.hb HBB.out HQD.out.R _ rep0 250 _ (by rw [HN.out]; rfl) rfl rfl
      · obtain rfl : nt = 0 := by omega
        clear ht
        by_cases hl2 : 0 < nl
        · have hq2 : ((0 : Int) < (nl : Int)) := by omega
          have HO2 := Lib.hid (show o = if nl = 1 ∧ NE = 0 then some (st, ev, false, true, NN) else none by rw [HOS.out, if_neg (by omega), if_pos hl2])
          clear hl2
          by_cases h1 : nl = 1
          · subst h1
            by_cases h2 : NE = 0
            · subst h2
              have hsome : o = some (st, ev, false, true, NN) := by rw [HO2.out, if_pos ⟨rfl, rfl⟩]
              obtain ⟨w12, hw12⟩ : ∃ z, (w10.setCell ⟨L, 3, none⟩ (.bool true)).setCell ⟨L, 4, none⟩ (.int .u64 NN) = z := ⟨_, rfl⟩
              have HW12 := Lib.hid hw12
              have HQF := Lib.hid (show RoW w w12 B L fb (.slice p n c) (st, ev, false, true, NN) by rw [← hw12]; exact HQD.out.s3.s4)
              have HG := HQD.out.K
              obtain ⟨k0, k1, k2, k3, k4⟩ := rep_cell HG
              have z3 := rep_free HG 3
              have z4 := rep_free HG 4
              have HS := Lib.hid hsome
              clear HG hw12 hsome
              go_wp2_with fail
              refine (DG.out _).mono ?_
              rintro e w11 ⟨rfl, hw⟩
              subst hw
              go_upto_region 21 with (fail)
              rw [HW12.out]
              have hsome := HS.out
              clear k0 k1 k2 k3 k4 z3 z4
              have HG := HQF.out.R
              have z0 := rep_free HG 0
              have z1 := rep_free HG 1
              have z2 := rep_free HG 2
              have z3 := rep_free HG 3
              have z4 := rep_free HG 4
              obtain ⟨r0, r1, r2, r3, r4⟩ := rep_cell HG
              have HG2 := HQF.out.K
              obtain ⟨t0, t1, t2, t3, t4⟩ := rep_cell HG2
              dsimp only at t0 t1 t2 t3 t4
              have hne : B + 1 ≠ L := by have := HQF.out.hL; omega
              clear HG HG2
              go_wp2_with fail
              exact RoW.fin HQF.out.hb HBB.out HQF.out.R _ (st, ev, false, true, NN) 0 _ (by first | rfl | (rw [hsome]; rfl)) rfl rfl
            · have HN := Lib.hid (show o = none by rw [HO2.out, if_neg (fun h => h2 h.2)])
              have hq : (NE != 0) = true := by simpa using h2
              clear h2
              go_wp2_with fail
              refine (DG.out _).mono ?_
              rintro e w11 ⟨rfl, hw⟩
              subst hw
              have HG := HQD.out.R
              have z0 := rep_free HG 0
              have z1 := rep_free HG 1
              have z2 := rep_free HG 2
              have z3 := rep_free HG 3
              have z4 := rep_free HG 4
              obtain ⟨r0, r1, r2, r3, r4⟩ := rep_cell HG
              clear HG
              go_wp2_with fail
              exact RoW.fin HQD.out.hb HBB.out HQD.out.R _ rep0 250 _ (by rw [HN.out]; rfl) rfl rfl
          · have HN := Lib.hid (show o = none by rw [HO2.out, if_neg (fun h => h1 h.1)])
            have hq : ((1 : Int) < (nl : Int)) := by omega
            clear h1
            go_wp2_with fail
            refine (DG.out _).mono ?_
            rintro e w11 ⟨rfl, hw⟩
            subst hw
            have HG := HQD.out.R
            have z0 := rep_free HG 0
            have z1 := rep_free HG 1
            have z2 := rep_free HG 2
            have z3 := rep_free HG 3
            have z4 := rep_free HG 4
            obtain ⟨r0, r1, r2, r3, r4⟩ := rep_cell HG
            clear HG
            go_wp2_with fail
            exact RoW.fin HQD.out.hb HBB.out HQD.out.R _ rep0 250 _ (by rw [HN.out]; rfl) rfl rfl
        · obtain rfl : nl = 0 := by omega
          clear hl2
          have hsome : o = some (st, ev, false, false, 0) := by rw [HOS.out, if_neg (by omega), if_neg (by omega)]
          have HS := Lib.hid hsome
          clear hsome
          have hsome := HS.out
          have HG := HQD.out.R
          have z0 := rep_free HG 0
          have z1 := rep_free HG 1
          have z2 := rep_free HG 2
          have z3 := rep_free HG 3
          have z4 := rep_free HG 4
          obtain ⟨r0, r1, r2, r3, r4⟩ := rep_cell HG
          have HG2 := HQD.out.K
          obtain ⟨t0, t1, t2, t3, t4⟩ := rep_cell HG2
          dsimp only at t0 t1 t2 t3 t4
          have hne : B + 1 ≠ L := by have := HQD.out.hL; omega
          clear HG HG2
          go_wp2_with fail
          exact RoW.fin HQD.out.hb HBB.out HQD.out.R _ (st, ev, false, false, 0) 0 _ (by first | rfl | (rw [hsome]; rfl)) rfl rfl
end Go.Proofs.YtheaichiglfmjaaGreatDoor

/- response: few, plainly and walked. No conditions but those that the law states. -/
namespace Go.Proofs.YtheaichiglfmjaaGreatDoor
set_option linter.unusedVariables false
set_option linter.unusedSimpArgs false
open Go.RowKit Go.Shelf
set_option maxHeartbeats 8000000
set_option maxRecDepth 100000
namespace Rs
def fewF (f : Hp.Hd) : Bool := decide (f.1.length + f.2.length ≤ 200)
/-- a head that is looked at -/
def few (F : List UInt8) (fs : List Hp.Hd) : Bool := (fs.take 13).all fewF && (decide (fs.length ≤ 12) && decide (F.length ≤ 200))
theorem few_is {F : List UInt8} {fs : List Hp.Hd} (h : few F fs = true) : fs.length ≤ 12 ∧ F.length ≤ 200 ∧ ∀ f ∈ fs, f.1.length + f.2.length ≤ 200 := by
  unfold few at h
  simp only [Bool.and_eq_true, decide_eq_true_eq, List.all_eq_true] at h
  obtain ⟨h1, h2, h3⟩ := h
  refine ⟨h2, h3, fun f hf => ?_⟩
  have h4 := h1 f (by rw [List.take_of_length_le (by omega)]; exact hf)
  exact of_decide_eq_true h4
theorem join_le : ∀ (vs : List (List UInt8)) (z : List UInt8) (m : Nat), (∀ v ∈ vs, v.length ≤ m) → (Lib.join vs z).length ≤ vs.length * (m + z.length)
  | [], z, m, _ => by simp [Lib.join]
  | v :: vs, z, m, h => by
    have h1 := h v (by simp)
    cases vs with
    | nil => simp [Lib.join]; omega
    | cons u us =>
      have h2 := join_le (u :: us) z m (fun x hx => h x (List.mem_cons_of_mem _ hx))
      have h3 : (Lib.join (v :: u :: us) z).length = v.length + z.length + (Lib.join (u :: us) z).length := by
        simp [Lib.join]; omega
      rw [h3, List.length_cons, Nat.succ_mul]
      omega
theorem vals_le {nm : List UInt8} {fs : List Hp.Hd} {m : Nat} (h : ∀ f ∈ fs, f.2.length ≤ m) : (Hg.vals nm fs).length ≤ fs.length ∧ ∀ v ∈ Hg.vals nm fs, v.length ≤ m := by
  unfold Hg.vals
  refine ⟨?_, fun v hv => ?_⟩
  · rw [List.length_map]; exact List.length_filter_le _ _
  · obtain ⟨f, hf, rfl⟩ := List.mem_map.1 hv
    exact h f (List.mem_filter.1 hf).1
theorem joined_le {nm : List UInt8} {fs : List Hp.Hd} (hl : fs.length ≤ 12) (h : ∀ f ∈ fs, f.1.length + f.2.length ≤ 200) : (joined nm fs).length ≤ 5000 := by
  obtain ⟨h1, h2⟩ := vals_le (nm := nm) (fs := fs) (m := 200) (fun f hf => by have := h f hf; omega)
  have h3 := join_le (Hg.vals nm fs) [44, 32] 200 h2
  unfold joined
  have h4 : (Hg.vals nm fs).length * (200 + [44, 32].length) ≤ 12 * 202 := Nat.mul_le_mul (by omega) (by decide)
  omega
end Rs
def fwF (H g o N c k a b : Nat) (nb vb : ByteArray) : Nat → World → Value → Prop
  | 0, _, v => v = .pointer (some ⟨H, 1, none⟩)
  | 1, _, v => v = .slice (some ⟨g, o, none⟩) N c
  | 2, _, v => v = .int .i64 (k : Int)
  | 3, _, v => v = .pointer (some ⟨g, o + k * 2, none⟩)
  | 4, _, v => v = .pointer (some ⟨g, o + k * 2, none⟩)
  | 5, _, v => v = .string nb
  | 6, _, v => v = .int .i64 (a : Int)
  | 7, _, v => v = .pointer (some ⟨H, 1, none⟩)
  | 8, _, v => v = .slice (some ⟨g, o, none⟩) N c
  | 9, _, v => v = .int .i64 (k : Int)
  | 10, _, v => v = .pointer (some ⟨g, o + k * 2, none⟩)
  | 11, _, v => v = .pointer (some ⟨g, o + k * 2 + 1, none⟩)
  | 12, _, v => v = .string vb
  | 13, _, v => v = .int .i64 (b : Int)
  | 14, _, v => v = .int .i64 ((a : Int) + (b : Int))
  | 15, _, v => v = .bool (decide ((200 : Int) < (a : Int) + (b : Int)))
  | _, _, _ => False
theorem rs_few (F : List UInt8) (v : Value) (fs : List Hp.Hd) (w : World) (hv : HS w v fs) (hF : F.length ≤ 140737488355328) (hl : fs.length ≤ 9223372036854775807) (hs : ∀ f ∈ fs, f.1.length ≤ 140737488355328 ∧ f.2.length ≤ 140737488355328) :
    Calls Tryz.prog 7 #[.agg #[Hp.sx F, v]] w fun e w' => e = .returned (.bool (Rs.few F fs)) ∧ Below w.heap.size w w' := by
  obtain ⟨p, c, rfl⟩ := hv.slice
  obtain ⟨N, hN⟩ : ∃ N, fs.length = N := ⟨_, rfl⟩
  rw [hN] at hv hl ⊢
  unfold Hp.sx
  obtain ⟨fb, hfb⟩ : ∃ z : ByteArray, (⟨F.toArray⟩ : ByteArray) = z := ⟨_, rfl⟩
  have hfz : fb.size = F.length := by rw [← hfb]; simp [ByteArray.size]
  rw [hfb]
  obtain ⟨H, hH⟩ : ∃ H, w.heap.size = H := ⟨_, rfl⟩
  obtain ⟨W1, hW1⟩ : ∃ Z, w.alloc (.cells #[.string fb, .slice p N c] 28) = Z := ⟨_, rfl⟩
  have HB1 := Lib.hid (show Below H w W1 by rw [← hW1, ← hH]; exact (Below.refl _ _).alloc (Nat.le_refl _) _)
  have HG1 := Lib.hid (show W1.heap[H]? = some (.cells #[.string fb, .slice p N c] 28 (0, 0)) by rw [← hW1, ← hH]; exact World.alloc_heap_new _ _)
  have hb1 := HB1.out
  have HV := Lib.hid (hv.below (by rw [hH]; exact hb1))
  have HW1 := Lib.hid hW1
  have HHH := Lib.hid hH
  have HNN := Lib.hid hN
  have HSZ := Lib.hid hs
  have HFZ := Lib.hid hfz
  obtain ⟨z, hz⟩ : ∃ z, fb.size = z := ⟨_, rfl⟩
  have HZZ := Lib.hid hz
  have hzl : z ≤ 140737488355328 := by omega
  clear hv hs hN hfb hfz hz hH hW1 hb1
  go_enter Tryz.func7, Tryz.ntmps7
  go_wp2_with fail
  rw [HHH.out, HW1.out]
  have HFEW := Lib.hid (show Rs.few F fs = ((fs.take 13).all Rs.fewF && (decide (N ≤ 12) && decide (z ≤ 200))) by unfold Rs.few; rw [HNN.out, ← HFZ.out, HZZ.out])
  go_loopw [3] (fun i wr => ∃ k : Nat, k ≤ N ∧ k ≤ 13 ∧ i = .int .i64 k ∧ (fs.take k).all Rs.fewF = true ∧ Below W1.heap.size W1 wr) (fun i _ => N - (intOf i).toNat)
  case atStart => exact ⟨0, Nat.zero_le _, Nat.zero_le _, rfl, rfl, Below.refl _ _⟩
  case round =>
    obtain ⟨k, hk, hk13, rfl, hall, hbw⟩ := hrel
    have HAL := Lib.hid hall
    have HBW := Lib.hid hbw
    have HBB := Lib.hid (show Below w.heap.size w wr by rw [HHH.out]; exact HB1.out.trans (hbw.mono (by have h1 := HB1.out.size; have h2 := HHH.out; omega)))
    have hgw := (hbw.block H (Array.getElem?_eq_some_iff.1 HG1.out).1).trans HG1.out
    have HGW := Lib.hid hgw
    have a0 : wr.cell? ⟨H, 0, none⟩ = some (.string fb) := by simp [World.cell?, hgw]
    have a1 : wr.cell? ⟨H, 1, none⟩ = some (.slice p N c) := by simp [World.cell?, hgw]
    clear hall hbw hgw
    have hfin : N ≤ k ∨ k = 13 → (fs.take 13).all Rs.fewF = true := fun h => by
      rcases h with h | h
      · rw [List.take_of_length_le (by rw [HNN.out]; omega)]
        have h2 := HAL.out
        rwa [List.take_of_length_le (by rw [HNN.out]; omega)] at h2
      · have h2 := HAL.out
        rwa [h] at h2
    have HFIN := Lib.hid hfin
    clear hfin
    by_cases hlt : k < N
    · have hI : (k : Int) < (N : Int) := by omega
      by_cases h13 : k = 13
      · subst h13
        have HE := Lib.hid (show Rs.few F fs = false by rw [HFEW.out, decide_eq_false (show ¬ N ≤ 12 by omega), Bool.false_and, Bool.and_false])
        have hN12 : ¬ (N : Int) ≤ 12 := by omega
        go_wp2_with fail
        go_ret
        exact ⟨by rw [HE.out]; rfl, HBB.out⟩
      · have h12 : (k : Int) ≤ 12 := by omega
        have HVR := Lib.hid (HV.out.below HBW.out)
        obtain ⟨g, o, rfl, hc1⟩ := HVR.out.cells (k := k) (by rw [HNN.out]; exact hlt)
        obtain ⟨hx, hy⟩ := hc1 k (by rw [HNN.out]; exact hlt)
        have hmem : fs.getD k ([], []) ∈ fs := by rw [List.getD_eq_getElem?_getD, List.getElem?_eq_getElem (by rw [HNN.out]; exact hlt)]; exact List.getElem_mem _
        have hszf := HSZ.out _ hmem
        have htk : fs.take (k + 1) = fs.take k ++ [fs.getD k ([], [])] := by
          rw [List.take_add_one, List.getD_eq_getElem?_getD, List.getElem?_eq_getElem (by rw [HNN.out]; exact hlt)]; rfl
        have htm : fs.getD k ([], []) ∈ fs.take 13 := by
          refine (List.take_subset_take_left fs (show k + 1 ≤ 13 by omega)) ?_
          rw [htk]; simp
        obtain ⟨⟨n0, v0⟩, hf⟩ : ∃ x, fs.getD k ([], []) = x := ⟨_, rfl⟩
        rw [hf] at hx hy hszf htk htm
        simp only at hx hy hszf
        unfold Hp.sx at hx hy
        obtain ⟨nb, hnb⟩ : ∃ z : ByteArray, (⟨n0.toArray⟩ : ByteArray) = z := ⟨_, rfl⟩
        obtain ⟨vb, hvb⟩ : ∃ z : ByteArray, (⟨v0.toArray⟩ : ByteArray) = z := ⟨_, rfl⟩
        have hnl : nb.size = n0.length := by rw [← hnb]; simp [ByteArray.size]
        have hvl : vb.size = v0.length := by rw [← hvb]; simp [ByteArray.size]
        rw [hnb] at hx
        rw [hvb] at hy
        obtain ⟨a, ha⟩ : ∃ z, nb.size = z := ⟨_, rfl⟩
        obtain ⟨b, hb⟩ : ∃ z, vb.size = z := ⟨_, rfl⟩
        have hA : a ≤ 140737488355328 := by omega
        have hB : b ≤ 140737488355328 := by omega
        have HWR := Lib.hid (show IntKind.i64.wrap ((a : Int) + (b : Int)) = (a : Int) + (b : Int) by simp [IntKind.wrap, IntKind.bits, IntKind.signed]; omega)
        have HX := Lib.hid hx
        have HY := Lib.hid hy
        have HLA := Lib.hid ha
        have HLB := Lib.hid hb
        have HTK := Lib.hid htk
        have HTM := Lib.hid htm
        have HQ := Lib.hid (show Rs.fewF (n0, v0) = decide (a + b ≤ 200) by unfold Rs.fewF; simp only; rw [← hnl, ← hvl, ha, hb])
        clear hc1 hmem hszf htk htm hf hnb hvb hnl hvl hx hy ha hb hA hB
        go_wp2_with fail
        refine region_slotsG (fun i => 15 + min i 15) (fwF H g o N c k a b nb vb) (fun _ => true) (by kernel_rfl) (by kernel_rfl) (fun i => by show 15 + min i 15 < _; simp; omega) (fun i j hi hj h => by have hi : i < 16 := hi; have hj : j < 16 := hj; omega) ?mono ?dst ?gu ?ng ?skip ?step ?done
        case mono =>
          intro i W W' v h hbw
          match i, h with
          | 0, h | 1, h | 2, h | 3, h | 4, h | 5, h | 6, h | 7, h | 8, h | 9, h | 10, h | 11, h | 12, h | 13, h | 14, h | 15, h => exact h
          | n + 16, h => exact h.elim
        case dst =>
          intro i o ho
          match i, ho with
          | 0, ho | 1, ho | 2, ho | 3, ho | 4, ho | 5, ho | 6, ho | 7, ho | 8, ho | 9, ho | 10, ho | 11, ho | 12, ho | 13, ho | 14, ho | 15, ho => cases ho; rfl
          | n + 16, ho => exact absurd ho (by simp)
        case gu =>
          intro i o g b ho hgd W v hv
          match i, ho with
          | 0, ho => cases ho; cases hgd
          | 1, ho => cases ho; cases hgd
          | 2, ho => cases ho; cases hgd
          | 3, ho => cases ho; cases hgd
          | 4, ho => cases ho; cases hgd
          | 5, ho => cases ho; cases hgd
          | 6, ho => cases ho; cases hgd
          | 7, ho => cases ho; cases hgd
          | 8, ho => cases ho; cases hgd
          | 9, ho => cases ho; cases hgd
          | 10, ho => cases ho; cases hgd
          | 11, ho => cases ho; cases hgd
          | 12, ho => cases ho; cases hgd
          | 13, ho => cases ho; cases hgd
          | 14, ho => cases ho; cases hgd
          | 15, ho => cases ho; cases hgd
          | n + 16, ho => exact absurd ho (by simp)
        case ng =>
          intro i o ho hgd
          match i, ho with
          | 0, ho => cases ho; first | rfl | cases hgd
          | 1, ho => cases ho; first | rfl | cases hgd
          | 2, ho => cases ho; first | rfl | cases hgd
          | 3, ho => cases ho; first | rfl | cases hgd
          | 4, ho => cases ho; first | rfl | cases hgd
          | 5, ho => cases ho; first | rfl | cases hgd
          | 6, ho => cases ho; first | rfl | cases hgd
          | 7, ho => cases ho; first | rfl | cases hgd
          | 8, ho => cases ho; first | rfl | cases hgd
          | 9, ho => cases ho; first | rfl | cases hgd
          | 10, ho => cases ho; first | rfl | cases hgd
          | 11, ho => cases ho; first | rfl | cases hgd
          | 12, ho => cases ho; first | rfl | cases hgd
          | 13, ho => cases ho; first | rfl | cases hgd
          | 14, ho => cases ho; first | rfl | cases hgd
          | 15, ho => cases ho; first | rfl | cases hgd
          | n + 16, ho => exact absurd ho (by simp)
        case skip =>
          intro i W hi hsel
          match i, hi, hsel with
          | 0, _, hsel => first | exact absurd hsel (by decide) | rfl
          | 1, _, hsel => first | exact absurd hsel (by decide) | rfl
          | 2, _, hsel => first | exact absurd hsel (by decide) | rfl
          | 3, _, hsel => first | exact absurd hsel (by decide) | rfl
          | 4, _, hsel => first | exact absurd hsel (by decide) | rfl
          | 5, _, hsel => first | exact absurd hsel (by decide) | rfl
          | 6, _, hsel => first | exact absurd hsel (by decide) | rfl
          | 7, _, hsel => first | exact absurd hsel (by decide) | rfl
          | 8, _, hsel => first | exact absurd hsel (by decide) | rfl
          | 9, _, hsel => first | exact absurd hsel (by decide) | rfl
          | 10, _, hsel => first | exact absurd hsel (by decide) | rfl
          | 11, _, hsel => first | exact absurd hsel (by decide) | rfl
          | 12, _, hsel => first | exact absurd hsel (by decide) | rfl
          | 13, _, hsel => first | exact absurd hsel (by decide) | rfl
          | 14, _, hsel => first | exact absurd hsel (by decide) | rfl
          | 15, _, hsel => first | exact absurd hsel (by decide) | rfl
          | n + 16, hi, _ => exact absurd hi (by simp)
        case step =>
          intro f a' W i o ho hsel hpre hbel hrest
          match i, ho, hsel with
          | 0, ho, _ =>
            cases ho
            have q1 : a'.tmps.getD 1 undef = .pointer (some ⟨H, 0, none⟩) := (hrest 1 (by intro i hi; have hi : i < 16 := hi; show 15 + min i 15 ≠ _; omega))
            have e1 := rg_ev q1
            exact rg_same (.pointer (some ⟨H, 1, none⟩)) (by unfold Oper.wp execOp; go_simp; all_goals ((try simp only [e1]); (try go_simp); (try rw [if_pos (by omega)]); (try rw [if_neg (by omega)]); first | done | rfl | exact ⟨rfl, rfl⟩ | trivial)) rfl
          | 1, ho, _ =>
            cases ho
            have q15 : a'.tmps.getD 15 undef = .pointer (some ⟨H, 1, none⟩) := (hpre { on := 0, ground := .data } (by simp) rfl)
            have hH := (hbel.block H (Array.getElem?_eq_some_iff.1 HGW.out).1).trans HGW.out
            have y1 : W.cell? ⟨H, 1, none⟩ = some (.slice (some ⟨g, o, none⟩) N c) := by simp [World.cell?, hH]
            have e15 := rg_ev q15
            exact rg_same (.slice (some ⟨g, o, none⟩) N c) (by unfold Oper.wp execOp; go_simp; all_goals ((try simp only [e15]); (try go_simp); (try rw [if_pos (by omega)]); (try rw [if_neg (by omega)]); first | done | rfl | exact ⟨rfl, rfl⟩ | trivial)) rfl
          | 2, ho, _ =>
            cases ho
            have q3 : a'.tmps.getD 3 undef = .int .i64 (k : Int) := (hrest 3 (by intro i hi; have hi : i < 16 := hi; show 15 + min i 15 ≠ _; omega))
            have e3 := rg_ev q3
            exact rg_same (.int .i64 (k : Int)) (by unfold Oper.wp execOp; go_simp; all_goals ((try simp only [e3]); (try go_simp); (try rw [if_pos (by omega)]); (try rw [if_neg (by omega)]); first | done | rfl | exact ⟨rfl, rfl⟩ | trivial)) rfl
          | 3, ho, _ =>
            cases ho
            have q16 : a'.tmps.getD 16 undef = .slice (some ⟨g, o, none⟩) N c := (hpre { on := 1, ground := .data } (by simp) rfl)
            have q17 : a'.tmps.getD 17 undef = .int .i64 (k : Int) := (hpre { on := 2, ground := .data } (by simp) rfl)
            have e16 := rg_ev q16
            have e17 := rg_ev q17
            exact rg_same (.pointer (some ⟨g, o + k * 2, none⟩)) (by unfold Oper.wp execOp; go_simp; all_goals ((try simp only [e16, e17]); (try go_simp); (try rw [if_pos (by omega)]); (try rw [if_neg (by omega)]); first | done | rfl | exact ⟨rfl, rfl⟩ | trivial)) rfl
          | 4, ho, _ =>
            cases ho
            have q18 : a'.tmps.getD 18 undef = .pointer (some ⟨g, o + k * 2, none⟩) := (hpre { on := 3, ground := .data } (by simp) rfl)
            have e18 := rg_ev q18
            exact rg_same (.pointer (some ⟨g, o + k * 2, none⟩)) (by unfold Oper.wp execOp; go_simp; all_goals ((try simp only [e18]); (try go_simp); (try rw [if_pos (by omega)]); (try rw [if_neg (by omega)]); first | done | rfl | exact ⟨rfl, rfl⟩ | trivial)) rfl
          | 5, ho, _ =>
            cases ho
            have q19 : a'.tmps.getD 19 undef = .pointer (some ⟨g, o + k * 2, none⟩) := (hpre { on := 4, ground := .data } (by simp) rfl)
            have y2 := (hbel.cell (p := ⟨g, o + k * 2, none⟩) (lt_of_cell HX.out)).trans HX.out
            have e19 := rg_ev q19
            exact rg_same (.string nb) (by unfold Oper.wp execOp; go_simp; all_goals ((try simp only [e19]); (try go_simp); (try rw [if_pos (by omega)]); (try rw [if_neg (by omega)]); first | done | rfl | exact ⟨rfl, rfl⟩ | trivial)) rfl
          | 6, ho, _ =>
            cases ho
            have q20 : a'.tmps.getD 20 undef = .string nb := (hpre { on := 5, ground := .data } (by simp) rfl)
            have hla := HLA.out
            have e20 := rg_ev q20
            exact rg_same (.int .i64 (a : Int)) (by unfold Oper.wp execOp; go_simp; all_goals ((try simp only [e20]); (try go_simp); (try rw [if_pos (by omega)]); (try rw [if_neg (by omega)]); first | done | rfl | exact ⟨rfl, rfl⟩ | trivial)) rfl
          | 7, ho, _ =>
            cases ho
            have q1 : a'.tmps.getD 1 undef = .pointer (some ⟨H, 0, none⟩) := (hrest 1 (by intro i hi; have hi : i < 16 := hi; show 15 + min i 15 ≠ _; omega))
            have e1 := rg_ev q1
            exact rg_same (.pointer (some ⟨H, 1, none⟩)) (by unfold Oper.wp execOp; go_simp; all_goals ((try simp only [e1]); (try go_simp); (try rw [if_pos (by omega)]); (try rw [if_neg (by omega)]); first | done | rfl | exact ⟨rfl, rfl⟩ | trivial)) rfl
          | 8, ho, _ =>
            cases ho
            have q22 : a'.tmps.getD 22 undef = .pointer (some ⟨H, 1, none⟩) := (hpre { on := 7, ground := .data } (by simp) rfl)
            have hH := (hbel.block H (Array.getElem?_eq_some_iff.1 HGW.out).1).trans HGW.out
            have y1 : W.cell? ⟨H, 1, none⟩ = some (.slice (some ⟨g, o, none⟩) N c) := by simp [World.cell?, hH]
            have e22 := rg_ev q22
            exact rg_same (.slice (some ⟨g, o, none⟩) N c) (by unfold Oper.wp execOp; go_simp; all_goals ((try simp only [e22]); (try go_simp); (try rw [if_pos (by omega)]); (try rw [if_neg (by omega)]); first | done | rfl | exact ⟨rfl, rfl⟩ | trivial)) rfl
          | 9, ho, _ =>
            cases ho
            have q3 : a'.tmps.getD 3 undef = .int .i64 (k : Int) := (hrest 3 (by intro i hi; have hi : i < 16 := hi; show 15 + min i 15 ≠ _; omega))
            have e3 := rg_ev q3
            exact rg_same (.int .i64 (k : Int)) (by unfold Oper.wp execOp; go_simp; all_goals ((try simp only [e3]); (try go_simp); (try rw [if_pos (by omega)]); (try rw [if_neg (by omega)]); first | done | rfl | exact ⟨rfl, rfl⟩ | trivial)) rfl
          | 10, ho, _ =>
            cases ho
            have q23 : a'.tmps.getD 23 undef = .slice (some ⟨g, o, none⟩) N c := (hpre { on := 8, ground := .data } (by simp) rfl)
            have q24 : a'.tmps.getD 24 undef = .int .i64 (k : Int) := (hpre { on := 9, ground := .data } (by simp) rfl)
            have e23 := rg_ev q23
            have e24 := rg_ev q24
            exact rg_same (.pointer (some ⟨g, o + k * 2, none⟩)) (by unfold Oper.wp execOp; go_simp; all_goals ((try simp only [e23, e24]); (try go_simp); (try rw [if_pos (by omega)]); (try rw [if_neg (by omega)]); first | done | rfl | exact ⟨rfl, rfl⟩ | trivial)) rfl
          | 11, ho, _ =>
            cases ho
            have q25 : a'.tmps.getD 25 undef = .pointer (some ⟨g, o + k * 2, none⟩) := (hpre { on := 10, ground := .data } (by simp) rfl)
            have e25 := rg_ev q25
            exact rg_same (.pointer (some ⟨g, o + k * 2 + 1, none⟩)) (by unfold Oper.wp execOp; go_simp; all_goals ((try simp only [e25]); (try go_simp); (try rw [if_pos (by omega)]); (try rw [if_neg (by omega)]); first | done | rfl | exact ⟨rfl, rfl⟩ | trivial)) rfl
          | 12, ho, _ =>
            cases ho
            have q26 : a'.tmps.getD 26 undef = .pointer (some ⟨g, o + k * 2 + 1, none⟩) := (hpre { on := 11, ground := .data } (by simp) rfl)
            have y2 := (hbel.cell (p := ⟨g, o + k * 2 + 1, none⟩) (lt_of_cell HY.out)).trans HY.out
            have e26 := rg_ev q26
            exact rg_same (.string vb) (by unfold Oper.wp execOp; go_simp; all_goals ((try simp only [e26]); (try go_simp); (try rw [if_pos (by omega)]); (try rw [if_neg (by omega)]); first | done | rfl | exact ⟨rfl, rfl⟩ | trivial)) rfl
          | 13, ho, _ =>
            cases ho
            have q27 : a'.tmps.getD 27 undef = .string vb := (hpre { on := 12, ground := .data } (by simp) rfl)
            have hlb := HLB.out
            have e27 := rg_ev q27
            exact rg_same (.int .i64 (b : Int)) (by unfold Oper.wp execOp; go_simp; all_goals ((try simp only [e27]); (try go_simp); (try rw [if_pos (by omega)]); (try rw [if_neg (by omega)]); first | done | rfl | exact ⟨rfl, rfl⟩ | trivial)) rfl
          | 14, ho, _ =>
            cases ho
            have q21 : a'.tmps.getD 21 undef = .int .i64 (a : Int) := (hpre { on := 6, ground := .data } (by simp) rfl)
            have q28 : a'.tmps.getD 28 undef = .int .i64 (b : Int) := (hpre { on := 13, ground := .data } (by simp) rfl)
            have e21 := rg_ev q21
            have e28 := rg_ev q28
            exact rg_same (.int .i64 ((a : Int) + (b : Int))) (by unfold Oper.wp execOp; go_simp; (try simp only [e21, e28]); (try go_simp); (try rw [HWR.out])) rfl
          | 15, ho, _ =>
            cases ho
            have q29 : a'.tmps.getD 29 undef = .int .i64 ((a : Int) + (b : Int)) := (hpre { on := 14, ground := .data } (by simp) rfl)
            have e29 := rg_ev q29
            exact rg_same (.bool (decide ((200 : Int) < (a : Int) + (b : Int)))) (by unfold Oper.wp execOp; go_simp; all_goals ((try simp only [e29]); (try go_simp); (try rw [if_pos (by omega)]); (try rw [if_neg (by omega)]); first | done | rfl | exact ⟨rfl, rfl⟩ | trivial)) rfl
          | n + 16, ho, _ => exact absurd ho (by simp)
        case done =>
          intro vs W hbel hvs
          have v0 : vs 0 = .pointer (some ⟨H, 1, none⟩) := hvs 0 (by decide)
          have v1 : vs 1 = .slice (some ⟨g, o, none⟩) N c := hvs 1 (by decide)
          have v2 : vs 2 = .int .i64 (k : Int) := hvs 2 (by decide)
          have v3 : vs 3 = .pointer (some ⟨g, o + k * 2, none⟩) := hvs 3 (by decide)
          have v4 : vs 4 = .pointer (some ⟨g, o + k * 2, none⟩) := hvs 4 (by decide)
          have v5 : vs 5 = .string nb := hvs 5 (by decide)
          have v6 : vs 6 = .int .i64 (a : Int) := hvs 6 (by decide)
          have v7 : vs 7 = .pointer (some ⟨H, 1, none⟩) := hvs 7 (by decide)
          have v8 : vs 8 = .slice (some ⟨g, o, none⟩) N c := hvs 8 (by decide)
          have v9 : vs 9 = .int .i64 (k : Int) := hvs 9 (by decide)
          have v10 : vs 10 = .pointer (some ⟨g, o + k * 2, none⟩) := hvs 10 (by decide)
          have v11 : vs 11 = .pointer (some ⟨g, o + k * 2 + 1, none⟩) := hvs 11 (by decide)
          have v12 : vs 12 = .string vb := hvs 12 (by decide)
          have v13 : vs 13 = .int .i64 (b : Int) := hvs 13 (by decide)
          have v14 : vs 14 = .int .i64 ((a : Int) + (b : Int)) := hvs 14 (by decide)
          have v15 : vs 15 = .bool (decide ((200 : Int) < (a : Int) + (b : Int))) := hvs 15 (by decide)
          have HBR := Lib.hid hbel
          simp only [fillN, List.size_toArray, List.length_cons, List.length_nil, Nat.reduceAdd, show List.range 16 = [0, 1, 2, 3, 4, 5, 6, 7, 8, 9, 10, 11, 12, 13, 14, 15] from rfl, List.foldl_cons, List.foldl_nil, show 15 + min 0 15 = 15 from rfl, show 15 + min 1 15 = 16 from rfl, show 15 + min 2 15 = 17 from rfl, show 15 + min 3 15 = 18 from rfl, show 15 + min 4 15 = 19 from rfl, show 15 + min 5 15 = 20 from rfl, show 15 + min 6 15 = 21 from rfl, show 15 + min 7 15 = 22 from rfl, show 15 + min 8 15 = 23 from rfl, show 15 + min 9 15 = 24 from rfl, show 15 + min 10 15 = 25 from rfl, show 15 + min 11 15 = 26 from rfl, show 15 + min 12 15 = 27 from rfl, show 15 + min 13 15 = 28 from rfl, show 15 + min 14 15 = 29 from rfl, show 15 + min 15 15 = 30 from rfl, v0, v1, v2, v3, v4, v5, v6, v7, v8, v9, v10, v11, v12, v13, v14, v15]
          clear v0 v1 v2 v3 v4 v5 v6 v7 v8 v9 v10 v11 v12 v13 v14 v15 hvs hbel
          go_simp
          by_cases hq : (200 : Int) < (a : Int) + (b : Int)
          · have HE := Lib.hid (show Rs.few F fs = false by
              have h1 : (fs.take 13).all Rs.fewF = false := by
                rw [List.all_eq_false]
                exact ⟨_, HTM.out, by rw [HQ.out]; simp; omega⟩
              rw [HFEW.out, h1, Bool.false_and])
            go_wp2_with fail
            go_ret
            exact ⟨by rw [HE.out]; rfl, HBB.out.trans (HBR.out.mono HBB.out.size)⟩
          · have HA2 := Lib.hid (show (fs.take (k + 1)).all Rs.fewF = true by
              rw [HTK.out, List.all_append, HAL.out]
              simp [HQ.out]; omega)
            go_wp2_with fail
            go_roundw
            case rel => exact ⟨k + 1, hlt, by omega, by go_num, HA2.out, HBW.out.trans (HBR.out.mono HBW.out.size)⟩
            case measure => simp [intOf]; omega
    · have hI : ¬ (k : Int) < (N : Int) := by omega
      have HA2 := Lib.hid (HFIN.out (.inl (by omega)))
      have HEE := Lib.hid (show Rs.few F fs = (decide (N ≤ 12) && decide (z ≤ 200)) by rw [HFEW.out, HA2.out, Bool.true_and])
      have hzz := HZZ.out
      by_cases hN12 : N ≤ 12
      · have q1 : (N : Int) ≤ 12 := by omega
        have HE := Lib.hid (show Rs.few F fs = decide ((z : Int) ≤ 200) by rw [HEE.out, decide_eq_true hN12, Bool.true_and]; congr 1; simp only [eq_iff_iff]; omega)
        go_wp2_with fail
        go_ret
        exact ⟨by rw [HE.out]; rfl, HBB.out⟩
      · have q1 : ¬ (N : Int) ≤ 12 := by omega
        have HE := Lib.hid (show Rs.few F fs = false by rw [HEE.out, decide_eq_false hN12, Bool.false_and])
        go_wp2_with fail
        go_ret
        exact ⟨by rw [HE.out]; rfl, HBB.out⟩
end Go.Proofs.YtheaichiglfmjaaGreatDoor

/- Slices of things of m cells each, wherever they lie: read, copied from, owned. No conditions but those that each law states. -/
namespace Go.Proofs.YtheaichiglfmjaaGreatDoor
set_option linter.unusedVariables false
set_option linter.unusedSimpArgs false
open Go.RowKit
set_option maxHeartbeats 4000000
set_option maxRecDepth 100000
section
variable {α : Type}
/-- a slice of such things: f tells a thing's cells -/
def Rin (f : α → List Value) (m : Nat) (d : α) (w : World) (v : Value) (qs : List α) : Prop := ∃ p c, v = .slice p qs.length c ∧ (qs.length = 0 ∨ ∃ g o, p = some ⟨g, o, none⟩ ∧ ∀ j, j < qs.length → ∀ i x, (f (qs.getD j d))[i]? = some x → w.cell? ⟨g, o + j * m + i, none⟩ = some x)
theorem Rin.below {f : α → List Value} {m : Nat} {d : α} {w w' : World} {v : Value} {qs : List α} (h : Rin f m d w v qs) (hb : Below w.heap.size w w') : Rin f m d w' v qs := by
  obtain ⟨p, c, h1, h2⟩ := h
  exact ⟨p, c, h1, h2.imp id (fun ⟨g, o, a1, a2⟩ => ⟨g, o, a1, fun j hj i x hx => cell_below hb (a2 j hj i x hx)⟩)⟩
theorem Rin.slice {f : α → List Value} {m : Nat} {d : α} {w : World} {v : Value} {qs : List α} (h : Rin f m d w v qs) : ∃ p c, v = .slice p qs.length c := by
  obtain ⟨p, c, h1, _⟩ := h
  exact ⟨p, c, h1⟩
theorem Rin.nil {f : α → List Value} {m : Nat} {d : α} (w : World) : Rin f m d w (.slice none 0 0) [] := ⟨none, 0, rfl, .inl rfl⟩
/-- the j-th thing's cells -/
theorem Rin.at {f : α → List Value} {m : Nat} {d : α} {w : World} {v : Value} {qs : List α} (h : Rin f m d w v qs) {j : Nat} (hj : j < qs.length) :
    ∃ g o c, v = .slice (some ⟨g, o, none⟩) qs.length c ∧ ∀ i x, (f (qs.getD j d))[i]? = some x → w.cell? ⟨g, o + j * m + i, none⟩ = some x := by
  obtain ⟨p, c, rfl, h2⟩ := h
  rcases h2 with h2 | ⟨g, o, rfl, h2⟩
  · omega
  · exact ⟨g, o, c, rfl, h2 j hj⟩
theorem flat_len (f : α → List Value) (m : Nat) (hf : ∀ q, (f q).length = m) (qs : List α) : (qs.flatMap f).length = qs.length * m := by
  induction qs with
  | nil => simp
  | cons q qs ih => rw [List.flatMap_cons, List.length_append, ih, hf, List.length_cons, Nat.add_mul]; omega
theorem flat_get (f : α → List Value) (m : Nat) (d : α) (hf : ∀ q, (f q).length = m) : ∀ (qs : List α) (j i : Nat) (x : Value), j < qs.length → i < m → (f (qs.getD j d))[i]? = some x → (qs.flatMap f)[j * m + i]? = some x
  | [], j, i, x, hj, _, _ => by simp at hj
  | q :: qs, 0, i, x, hj, hi, hx => by
    rw [List.flatMap_cons, List.getElem?_append_left (by rw [hf]; omega), Nat.zero_mul, Nat.zero_add]
    exact hx
  | q :: qs, j + 1, i, x, hj, hi, hx => by
    rw [List.flatMap_cons, List.getElem?_append_right (by rw [hf, Nat.add_mul]; omega), hf, show (j + 1) * m + i - m = j * m + i by rw [Nat.add_mul]; omega]
    exact flat_get f m d hf qs j i x (by simpa using hj) hi hx
theorem flat_at (f : α → List Value) (m : Nat) (d : α) (hf : ∀ q, (f q).length = m) (hm : 0 < m) {qs : List α} {k : Nat} {u : Value} (h : (qs.flatMap f)[k]? = some u) : ∃ j i, k = j * m + i ∧ j < qs.length ∧ i < m ∧ (f (qs.getD j d))[i]? = some u := by
  have hlt : k < qs.length * m := by rw [← flat_len f m hf]; exact (List.getElem?_eq_some_iff.1 h).1
  have hj : k / m < qs.length := (Nat.div_lt_iff_lt_mul hm).2 hlt
  have hi : k % m < m := Nat.mod_lt _ hm
  have hk : k / m * m + k % m = k := by rw [Nat.mul_comm]; exact Nat.div_add_mod k m
  refine ⟨k / m, k % m, hk.symm, hj, hi, ?_⟩
  obtain ⟨y, hy⟩ : ∃ y, (f (qs.getD (k / m) d))[k % m]? = some y := ⟨_, List.getElem?_eq_getElem (by rw [hf]; exact hi)⟩
  have h2 := flat_get f m d hf qs (k / m) (k % m) y hj hi hy
  rw [hk, h] at h2
  cases h2
  exact hy
/-- as the source of an append -/
theorem Rin.src {f : α → List Value} {m : Nat} {d : α} (hf : ∀ q, (f q).length = m) (hm : 0 < m) {w : World} {v : Value} {qs : List α} (h : Rin f m d w v qs) : ∃ p c, v = .slice p qs.length c ∧ (qs.length = 0 ∨ ∃ ad, p = some ad ∧ ∀ j u, (qs.flatMap f)[j]? = some u → w.cell? (ad.add j) = some u) := by
  obtain ⟨p, c, h1, h2⟩ := h
  refine ⟨p, c, h1, h2.imp id (fun ⟨g, o, a1, a2⟩ => ⟨_, a1, fun k u hk => ?_⟩)⟩
  obtain ⟨j, i, rfl, hj, hi, hx⟩ := flat_at f m d hf hm hk
  have hadd : (⟨g, o, none⟩ : Addr).add (j * m + i) = ⟨g, o + (j * m + i), none⟩ := by unfold Addr.add; split <;> simp_all
  rw [hadd, ← Nat.add_assoc]
  exact a2 j hj i u hx
/-- what a call's own row holds -/
theorem Rin.of_own {f : α → List Value} {m : Nat} {d : α} (hf : ∀ q, (f q).length = m) (hm : 0 < m) {w : World} {C n : Nat} {e : TypeId} {v : Value} {qs : List α} (h : w.ownsRow C e m v n (qs.flatMap f)) : Rin f m d w v qs := by
  have hl : n = qs.length := by
    have h1 := h.1
    rw [flat_len f m hf] at h1
    exact (Nat.eq_of_mul_eq_mul_right hm h1).symm
  rcases h.2 with ⟨rfl, h0⟩ | ⟨g, cap, cur, rfl, _, hg, hc, _⟩
  · exact ⟨none, 0, by rw [← hl, h0], .inl (by rw [← hl, h0])⟩
  · refine ⟨some ⟨g, 0, none⟩, cap, by rw [← hl], .inr ⟨g, 0, rfl, fun j hj i x hx => ?_⟩⟩
    have hi : i < m := by
      rcases Nat.lt_or_ge i m with h | h
      · exact h
      · rw [List.getElem?_eq_none (by rw [hf]; exact h)] at hx; cases hx
    have h4 := h.cells (g := g) rfl (j * m + i) x (flat_get f m d hf qs j i x hj hi hx)
    have hadd : (⟨g, 0, none⟩ : Addr).add (j * m + i) = ⟨g, 0 + j * m + i, none⟩ := by unfold Addr.add; split <;> simp_all
    rw [hadd] at h4
    exact h4
theorem own_slA {w : World} {B : Nat} {e : TypeId} {s : Nat} {v : Value} {n : Nat} {xs : List Value} (h : w.ownsRow B e s v n xs) : ∃ p c, v = .slice p n c := by
  rcases h.2 with ⟨rfl, h0⟩ | ⟨g, cap, cur, rfl, _⟩
  · exact ⟨none, 0, by rw [h0]⟩
  · exact ⟨_, _, rfl⟩
theorem own_belA {w w' : World} {base : Nat} {e : TypeId} {size : Nat} {v : Value} {n : Nat} {xs : List Value} (h : w.ownsRow base e size v n xs) (k : Below w.heap.size w w') : w'.ownsRow base e size v n xs :=
  ⟨h.1, h.2.imp id (fun ⟨g, cap, cur, h1, h2, h3, h4⟩ => ⟨g, cap, cur, h1, h2, (k.block g (Array.getElem?_eq_some_iff.1 h3).1).trans h3, h4⟩)⟩
end
end Go.Proofs.YtheaichiglfmjaaGreatDoor

/- things of m cells that come in: generic (of XUj, XUo, XGY). No conditions but those that each law states. -/
namespace Go.Proofs.YtheaichiglfmjaaGreatDoor
set_option linter.unusedVariables false
set_option linter.unusedSimpArgs false
open Go.RowKit Go.WideShapes Go.ChangeShapes
set_option maxHeartbeats 2000000
theorem list_of_all {α : Type} (d : α) (P : Nat → α → Prop) : ∀ n : Nat, (∀ j, j < n → ∃ a, P j a) → ∃ l : List α, l.length = n ∧ ∀ j, j < n → P j (l.getD j d)
  | 0, _ => ⟨[], rfl, fun j hj => by omega⟩
  | n + 1, h => by
    obtain ⟨l, hl, hp⟩ := list_of_all d P n (fun j hj => h j (by omega))
    obtain ⟨a, ha⟩ := h n (by omega)
    refine ⟨l ++ [a], by rw [List.length_append, hl]; rfl, fun j hj => ?_⟩
    by_cases e : j < n
    · rw [List.getD_eq_getElem?_getD, List.getElem?_append_left (by omega), ← List.getD_eq_getElem?_getD]
      exact hp j e
    · obtain rfl : j = n := by omega
      rw [List.getD_eq_getElem?_getD, List.getElem?_append_right (by omega), hl, Nat.sub_self]
      exact ha
theorem spot_of_cell {w : World} {b o : Nat} {s : Option Nat} {v : Value} (h : w.cell? ⟨b, o, s⟩ = some v) : s = none := by
  cases s with
  | none => rfl
  | some x =>
    unfold World.cell? at h
    cases hx : w.heap[b]? with
    | none => simp [hx] at h
    | some ob => cases ob <;> simp [hx] at h
section
variable {H : Type} {enc : TypeId × Value → H} {w : World} {base : Nat} {spare : Nat → Bool} {held : Bool}
/-- a slice that reads: each of its elements is of some kind, so it is a slice of such ones -/
theorem rin_of {α : Type} (f : α → List Value) (m : Nat) (d : α) (hm : 0 < m) (hf : ∀ q, (f q).length = m) (P : α → Prop) (a : Addr) (len cap : Nat)
    (each : ∀ j, j < len → ∃ q : α, (∀ i x, (f q)[i]? = some x → w.cell? ((a.add (j * m)).add i) = some x) ∧ P q) : ∃ qs : List α, Rin f m d w (.slice (some a) len cap) qs ∧ qs.length = len ∧ ∀ q ∈ qs, P q := by
  obtain ⟨qs, hql, hqs⟩ := list_of_all d _ len each
  refine ⟨qs, ⟨some a, cap, by rw [hql], ?_⟩, hql, fun q hq => ?_⟩
  · by_cases h0 : len = 0
    · exact .inl (by omega)
    · obtain ⟨b, off, spot⟩ := a
      obtain ⟨x, hx⟩ : ∃ x, (f (qs.getD 0 d))[0]? = some x := ⟨_, List.getElem?_eq_getElem (by rw [hf]; exact hm)⟩
      have hc0 := (hqs 0 (by omega)).1 0 x hx
      have hadd : ((⟨b, off, spot⟩ : Addr).add (0 * m)).add 0 = ⟨b, off, spot⟩ := by rw [Nat.zero_mul]; rfl
      rw [hadd] at hc0
      obtain rfl : spot = none := spot_of_cell hc0
      refine .inr ⟨b, off, rfl, fun j hj i x hx => ?_⟩
      have h1 := (hqs j (by omega)).1 i x hx
      rw [Lib.add_plain, Lib.add_plain] at h1
      exact h1
  · obtain ⟨j, hj, rfl⟩ := List.getElem_of_mem hq
    have h := (hqs j (by omega)).2
    rwa [List.getD_eq_getElem?_getD, List.getElem?_eq_getElem hj] at h
theorem weigh_lit {P : Program} {t : TypeId} (l : List UInt8) : l.length ∈ DataW.weights P t (.lit (.string l) : DataW H) := by simp [DataW.weights]
theorem weigh_two {P : Program} {t : TypeId} {f0 f1 : Field} (ht : P.underlying t = some (.struct #[f0, f1])) (a b : DataW H) {n : Nat} (h : n ∈ a.weights P f0.type ∨ n ∈ b.weights P f1.type) : n ∈ DataW.weights P t (.agg [a, b]) := by
  simp only [DataW.weights, ht, DataW.weightsEach, List.map_cons, List.map_nil]
  simpa using h
theorem weigh_all {P : Program} {e : TypeId} {d : DataW H} {n : Nat} (hn : n ∈ d.weights P e) : ∀ {l : List (DataW H)}, d ∈ l → n ∈ DataW.weightsAll P e l
  | x :: l, h => by
    simp only [DataW.weightsAll, List.mem_append]
    rcases List.mem_cons.1 h with rfl | h
    · exact .inl hn
    · exact .inr (weigh_all hn h)
theorem weigh_slice {P : Program} {t e : TypeId} (ht : P.underlying t = some (.slice e)) {d : DataW H} {a b : List (DataW H)} {n : Nat} (hd : d ∈ a) (hn : n ∈ d.weights P e) : n ∈ DataW.weights P t (.slice a b) := by
  simp only [DataW.weights, ht, List.mem_cons, List.mem_append]
  exact .inr (.inl (weigh_all hn hd))
end
end Go.Proofs.YtheaichiglfmjaaGreatDoor

/- response: heads that come in. No conditions but those that each law states. -/
namespace Go.Proofs.YtheaichiglfmjaaGreatDoor
set_option linter.unusedVariables false
set_option linter.unusedSimpArgs false
open Go.RowKit Go.Shelf Go.WideShapes Go.ChangeShapes Go.ChangeAt
set_option maxHeartbeats 8000000
set_option maxRecDepth 100000
/-- a head: its first line, its fields, where they lie -/
abbrev HQ := List UInt8 × List Hp.Hd × Value
def hqC (q : HQ) : List Value := [Hp.sx q.1, q.2.2]
theorem hqC_len (q : HQ) : (hqC q).length = 2 := rfl
def hqd : HQ := ([], [], undef)
def hdC (q : Hp.Hd) : List Value := [Hp.sx q.1, Hp.sx q.2]
theorem hdC_len (q : Hp.Hd) : (hdC q).length = 2 := rfl
def HdIn (w : World) (v : Value) (hs : List HQ) : Prop := Rin hqC 2 hqd w v hs ∧ ∀ q ∈ hs, HS w q.2.2 q.2.1
theorem HdIn.below {w w' : World} {v : Value} {hs : List HQ} (h : HdIn w v hs) (hb : Below w.heap.size w w') : HdIn w' v hs := ⟨h.1.below hb, fun q hq => (h.2 q hq).below hb⟩
theorem hs_rin {w : World} {v : Value} {fs : List Hp.Hd} (h : Rin hdC 2 ([], []) w v fs) : HS w v fs := by
  obtain ⟨p, c, h1, h2⟩ := h
  rcases h2 with h0 | ⟨g, o, rfl, h3⟩
  · exact .inl ⟨p, c, by rw [h1, h0], List.length_eq_zero_iff.1 h0⟩
  · exact .inr ⟨g, o, c, h1, fun j hj => ⟨h3 j hj 0 _ rfl, h3 j hj 1 _ rfl⟩⟩
theorem sx_back (k : ByteArray) : Hp.sx k.data.toList = .string k := rfl
section
variable {H : Type} {enc : TypeId × Value → H} {w : World} {base : Nat} {spare : Nat → Bool} {held : Bool}
theorem hs_in {fuel : Nat} {v : Value} {y : DataW H × List MemPlace} (h : DataW.trod enc Tryz.prog w base spare held fuel 26 [v] = some y) (hwt : ∀ n ∈ y.1.weights Tryz.prog 26, n ≤ reachBytes) :
    ∃ fs, HS w v fs ∧ (∀ f ∈ fs, f.1.length ≤ reachBytes ∧ f.2.length ≤ reachBytes) ∧ fs.length ≤ maxLen := by
  have hc2 : Tryz.prog.cellsOf 56 = 2 := by kernel_rfl
  have hc1 : Tryz.prog.cellsOf 9 = 1 := by kernel_rfl
  rcases DataW.trod_slice Tryz.underlying26 h with ⟨hcs, _⟩ | ⟨a, len, cap, elems, rest, n, _, hcs, hyd, hb, hl, hm, hlen, hel, _, _⟩
  · simp only [List.cons.injEq, and_true] at hcs
    subst hcs
    exact ⟨[], .inl ⟨none, 0, rfl, rfl⟩, (fun q hq => by cases hq), by simp⟩
  · simp only [List.cons.injEq, and_true] at hcs
    subst hcs
    have each : ∀ j, j < len → ∃ q : Hp.Hd, (∀ i x, (hdC q)[i]? = some x → w.cell? ((a.add (j * 2)).add i) = some x) ∧ (q.1.length ≤ reachBytes ∧ q.2.length ≤ reachBytes) := by
      intro j hj
      have h1 := hel j hj
      rw [List.getElem?_eq_getElem (by omega), Option.bind_eq_some_iff, hc2] at h1
      obtain ⟨cs, h2, h3⟩ := h1
      have h6 := (World.cells?_some h2).2
      match cs, h6.1, h3, h6.2 with
      | [c0, c1], _, h3, h6 =>
        obtain ⟨y0, y1, n', hx, _, h4, h5⟩ := trod_struct2 Tryz.underlying56 h3
        simp [hc1] at h4 h5
        obtain ⟨k, hk, hy0, hks⟩ := DataW.trod_string Tryz.underlying9 h4
        obtain ⟨u, hu, hy1, hus⟩ := DataW.trod_string Tryz.underlying9 h5
        simp only [List.cons.injEq, and_true] at hk hu
        subst hk
        subst hu
        have hin : (elems[j]'(by omega)).1 ∈ elems.map (·.1) := List.mem_map_of_mem (List.getElem_mem _)
        have hle : ∀ n ∈ (elems[j]'(by omega)).1.weights Tryz.prog 56, n ≤ reachBytes := fun n hn => hwt n (by rw [hyd]; exact weigh_slice Tryz.underlying26 hin hn)
        rw [hx, hy0, hy1] at hle
        refine ⟨(k.data.toList, u.data.toList), fun i x hx => ?_, hle _ (weigh_two Tryz.underlying56 _ _ (.inl (weigh_lit k.data.toList))), hle _ (weigh_two Tryz.underlying56 _ _ (.inr (weigh_lit u.data.toList)))⟩
        have hi : i < 2 := by
          rcases Nat.lt_or_ge i 2 with h | h
          · exact h
          · rw [List.getElem?_eq_none (by show 2 ≤ i; exact h)] at hx; cases hx
        have h7 := h6 i hi
        unfold hdC at hx
        simp only [sx_back] at hx
        rw [hx] at h7
        exact h7
    obtain ⟨fs, h1, h2, h3⟩ := rin_of hdC 2 ([], []) (by decide) hdC_len _ a len cap each
    exact ⟨fs, hs_rin h1, h3, by omega⟩
theorem heads_in {r : Reach} {b0 : Nat} {v : Value} {d : DataW H} {p : List MemPlace} (hv : Value.okWide Tryz.prog w r b0 22 v) (h : DataW.Trod enc Tryz.prog w base spare held 22 v d p) (hwt : ∀ n ∈ d.weights Tryz.prog 22, n ≤ reachBytes) :
    ∃ hs, HdIn w v hs ∧ (∀ q ∈ hs, q.1.length ≤ reachBytes ∧ (∀ f ∈ q.2.1, f.1.length ≤ reachBytes ∧ f.2.length ≤ reachBytes) ∧ q.2.1.length ≤ maxLen) ∧ hs.length ≤ maxLen := by
  obtain ⟨a0, len0, cap0, rfl⟩ := okWide_slice Tryz.underlying22 hv
  have hc2 : Tryz.prog.cellsOf 28 = 2 := by kernel_rfl
  have hc1 : Tryz.prog.cellsOf 9 = 1 := by kernel_rfl
  have hc3 : Tryz.prog.cellsOf 26 = 1 := by kernel_rfl
  obtain ⟨fuel, hf⟩ := h
  rcases DataW.trod_slice Tryz.underlying22 hf with ⟨hcs, _⟩ | ⟨a, len, cap, elems, rest, n, _, hcs, hyd, hb, hl, hm, hlen, hel, _, _⟩
  · simp [Value.cells] at hcs
    obtain ⟨rfl, rfl, rfl⟩ := hcs
    exact ⟨[], ⟨Rin.nil w, fun q hq => by cases hq⟩, (fun q hq => by cases hq), by simp⟩
  · simp [Value.cells] at hcs
    obtain ⟨rfl, rfl, rfl⟩ := hcs
    have each : ∀ j, j < len0 → ∃ q : HQ, (∀ i x, (hqC q)[i]? = some x → w.cell? ((a.add (j * 2)).add i) = some x) ∧ (HS w q.2.2 q.2.1 ∧ q.1.length ≤ reachBytes ∧ (∀ f ∈ q.2.1, f.1.length ≤ reachBytes ∧ f.2.length ≤ reachBytes) ∧ q.2.1.length ≤ maxLen) := by
      intro j hj
      have h1 := hel j hj
      rw [List.getElem?_eq_getElem (by omega), Option.bind_eq_some_iff, hc2] at h1
      obtain ⟨cs, h2, h3⟩ := h1
      have h6 := (World.cells?_some h2).2
      match cs, h6.1, h3, h6.2 with
      | [c0, c1], _, h3, h6 =>
        obtain ⟨y0, y1, n', hx, _, h4, h5⟩ := trod_struct2 Tryz.underlying28 h3
        simp [hc1, hc3] at h4 h5
        obtain ⟨k, hk, hy0, hks⟩ := DataW.trod_string Tryz.underlying9 h4
        simp only [List.cons.injEq, and_true] at hk
        subst hk
        have hin : (elems[j]'(by omega)).1 ∈ elems.map (·.1) := List.mem_map_of_mem (List.getElem_mem _)
        have hle : ∀ n ∈ (elems[j]'(by omega)).1.weights Tryz.prog 28, n ≤ reachBytes := fun n hn => hwt n (by rw [show d = _ from congrArg Prod.fst hyd]; exact weigh_slice Tryz.underlying22 hin hn)
        rw [hx, hy0] at hle
        obtain ⟨fs, g1, g2, g3⟩ := hs_in h5 (fun n hn => hle n (weigh_two Tryz.underlying28 _ _ (.inr hn)))
        refine ⟨(k.data.toList, fs, c1), fun i x hx => ?_, g1, hle _ (weigh_two Tryz.underlying28 _ _ (.inl (weigh_lit k.data.toList))), g2, g3⟩
        have hi : i < 2 := by
          rcases Nat.lt_or_ge i 2 with h | h
          · exact h
          · rw [List.getElem?_eq_none (by show 2 ≤ i; exact h)] at hx; cases hx
        have h7 := h6 i hi
        unfold hqC at hx
        simp only [sx_back] at hx
        rw [hx] at h7
        exact h7
    obtain ⟨hs, h1, h2, h3⟩ := rin_of hqC 2 hqd (by decide) hqC_len _ a len0 cap0 each
    exact ⟨hs, ⟨h1, fun q hq => (h3 q hq).1⟩, fun q hq => (h3 q hq).2, by omega⟩
end
end Go.Proofs.YtheaichiglfmjaaGreatDoor

/- response: the reference's What. No conditions but those that the law states. -/
namespace Go.Proofs.YtheaichiglfmjaaGreatDoor
set_option linter.unusedVariables false
set_option linter.unusedSimpArgs false
open Go.RowKit Go.Shelf
set_option maxHeartbeats 4000000
set_option maxRecDepth 100000
theorem rf_What (st : Int) (ev ck sz : Bool) (ln : Int) (w : World) :
    Calls Tryz.prog 9 #[repV (st, ev, ck, sz, ln)] w fun e w' => e = .returned (.int .i64 (Rs.what (st, ev, ck, sz, ln))) ∧ Below w.heap.size w w' := by
  unfold repV
  dsimp only
  obtain ⟨B, hB⟩ : ∃ z, w.heap.size = z := ⟨_, rfl⟩
  obtain ⟨W, hW⟩ : ∃ z, w.alloc (.cells #[.int .i64 st, .bool ev, .bool ck, .bool sz, .int .u64 ln] 31) = z := ⟨_, rfl⟩
  have hr : W.heap[B]? = some (repC (st, ev, ck, sz, ln)) := by rw [← hW, ← hB]; exact World.alloc_heap_new _ _
  obtain ⟨c0, c1, _⟩ := rep_cell hr
  dsimp only at c0 c1
  have HBW := Lib.hid (show Below w.heap.size w W by rw [← hW]; exact (Below.refl _ _).alloc (Nat.le_refl _) _)
  have HW := Lib.hid hW
  have HB := Lib.hid hB
  clear hr hW hB
  rw [← HW.out, ← HB.out] at c0 c1
  unfold Rs.what
  dsimp only
  by_cases h1 : st < 100
  · rw [if_neg (by omega)]
    go_enter Tryz.func9, Tryz.ntmps9
    go_wp2_with fail
    go_ret
    exact ⟨rfl, by rw [HW.out]; exact HBW.out⟩
  · by_cases h2 : 599 < st
    · rw [if_neg (by omega)]
      go_enter Tryz.func9, Tryz.ntmps9
      go_wp2_with fail
      go_ret
      exact ⟨rfl, by rw [HW.out]; exact HBW.out⟩
    · rw [if_pos (by omega)]
      by_cases h3 : st = 200
      · subst h3
        have q2 : ((200 : Int) == 204) = false := rfl
        have q3 : ((200 : Int) == 200) = true := rfl
        cases ev with
        | true =>
          rw [if_pos ⟨rfl, rfl⟩]
          go_enter Tryz.func9, Tryz.ntmps9
          go_wp2_with fail
          go_ret
          exact ⟨rfl, by rw [HW.out]; exact HBW.out⟩
        | false =>
          rw [if_neg (by decide), if_neg (by decide)]
          go_enter Tryz.func9, Tryz.ntmps9
          go_wp2_with fail
          go_ret
          exact ⟨rfl, by rw [HW.out]; exact HBW.out⟩
      · have q3 : (st == 200) = false := beq_eq_false_iff_ne.2 h3
        rw [if_neg (fun h => h3 h.1)]
        by_cases h4 : st = 204
        · have q4 : (st == 204) = true := beq_iff_eq.2 h4
          rw [if_pos h4]
          clear h3 h4
          go_enter Tryz.func9, Tryz.ntmps9
          go_wp2_with fail
          go_ret
          exact ⟨rfl, by rw [HW.out]; exact HBW.out⟩
        · have q4 : (st == 204) = false := beq_eq_false_iff_ne.2 h4
          rw [if_neg h4]
          clear h3 h4
          go_enter Tryz.func9, Tryz.ntmps9
          go_wp2_with fail
          go_ret
          exact ⟨rfl, by rw [HW.out]; exact HBW.out⟩
end Go.Proofs.YtheaichiglfmjaaGreatDoor

/- response: Each; a row of numbers in a box, to which a drawn region appends what a call tells. No conditions but those that each law states. -/
namespace Go.Proofs.YtheaichiglfmjaaGreatDoor
set_option linter.unusedVariables false
set_option linter.unusedSimpArgs false
open Go.RowKit Go.Shelf
set_option maxHeartbeats 8000000
set_option maxRecDepth 100000
/-- a row of the call's own in a box -/
def RwI (e T : TypeId) (w : World) (X B : Nat) (xs : List Value) (W : World) : Prop := ∃ V, Boxed W X T V ∧ W.ownsRow B e 1 V xs.length xs ∧ B ≤ W.heap.size ∧ w.heap.size ≤ X ∧ X < B ∧ Below w.heap.size w W
theorem RwI.next {e T : TypeId} {w W W' : World} {X B : Nat} {xs : List Value} (h : RwI e T w X B xs W) (k : Below W.heap.size W W') : RwI e T w X B xs W' := by
  obtain ⟨V, h1, h2, h3, h4, h5, h6⟩ := h
  exact ⟨V, (k.block _ h1.lt).trans h1, own_bel h2 k, Nat.le_trans h3 k.size, h4, h5, h6.trans (k.mono h6.size)⟩
structure PuI (e T : TypeId) (w0 : World) (X B n : Nat) (V0 : Value) (xs : List Value) (f : Nat → Bool) (w : World) : Prop where
  bel : Below B w0 w
  an : w.heap[X]? = some (.cells #[V0] T (0, 0))
  oth : ∀ (k : Nat) (cs : Array Value) (t : TypeId), t ≠ e → w0.heap[k]? = some (.cells cs t (0, 0)) → w.heap[k]? = some (.cells cs t (0, 0))
  own : f 4 = false → w.ownsRow B e 1 V0 n xs
  n0 : f 0 = false → f 4 = false
  n3 : f 3 = false → f 4 = false
theorem PuI.step {e T : TypeId} {w0 w w' : World} {X B n : Nat} {V0 : Value} {xs : List Value} {f : Nat → Bool} {i : Nat} (h : PuI e T w0 X B n V0 xs f w) (hB : B ≤ w.heap.size) (k : Below w.heap.size w w') (h1 : i ≠ 4) : PuI e T w0 X B n V0 xs (fun j => if j = i then true else f j) w' := by
  refine ⟨h.bel.trans (k.mono hB), (k.block _ (Array.getElem?_eq_some_iff.1 h.an).1).trans h.an, fun b cs t ht hk => (k.block _ (Array.getElem?_eq_some_iff.1 (h.oth b cs t ht hk)).1).trans (h.oth b cs t ht hk), fun h3 => own_bel (h.own (by simpa [Ne.symm h1] using h3)) k, fun h3 => ?_, fun h3 => ?_⟩
  · have : f 0 = false := by by_cases e : 0 = i <;> simp_all
    simpa [Ne.symm h1] using h.n0 this
  · have : f 3 = false := by by_cases e : 3 = i <;> simp_all
    simpa [Ne.symm h1] using h.n3 this
def puT (B n : Nat) (x : Int) (av V1 : Value) (xs : List Value) : Nat → World → Value → Prop
  | 0, _, v => v = V1
  | 1, _, v => v = av
  | 2, _, v => v = .int .i64 x
  | 3, w, v => ∃ g, v = .slice (some ⟨g, 0, none⟩) 1 1 ∧ w.heap[g]? = some (.cells #[.int .i64 x] 38 (0, 0)) ∧ some g ≠ V1.ownBlock
  | 4, w, v => w.ownsRow B 38 1 v (n + 1) (xs ++ [.int .i64 x])
  | _, _, _ => False
theorem puT_below {B n : Nat} {x : Int} {av V1 : Value} {xs : List Value} {w w' : World} (hb : Below w.heap.size w w') {j : Nat} {v : Value} (h : puT B n x av V1 xs j w v) : puT B n x av V1 xs j w' v := by
  match j, h with
  | 0, h | 1, h | 2, h => exact h
  | 3, ⟨g, h1, h2, h3⟩ => exact ⟨g, h1, (hb.block g (Array.getElem?_eq_some_iff.1 h2).1).trans h2, h3⟩
  | 4, h => exact own_bel h hb
  | n + 5, h => exact h.elim
/-- what is to be done of a head -/
def Rs.todo (F : List UInt8) (fs : List Hp.Hd) : Int := Rs.what (if Hr.okB F fs = true then (Rs.of F fs).getD rep0 else rep0)
/-- what Of tells of a head that is looked at -/
def ofAll (F : List UInt8) (fs : List Hp.Hd) : Ending := if Hr.okB F fs = true then ofOut (Rs.of F fs) else .returned (.tuple #[repV rep0, .int .i64 2])
theorem ofAll_pair (F : List UInt8) (fs : List Hp.Hd) : ∃ n : Int, ofAll F fs = .returned (.tuple #[repV (if Hr.okB F fs = true then (Rs.of F fs).getD rep0 else rep0), .int .i64 n]) := by
  unfold ofAll
  cases Hr.okB F fs with
  | false => exact ⟨2, rfl⟩
  | true =>
    simp only [if_true]
    cases Rs.of F fs with
    | none => exact ⟨250, rfl⟩
    | some r => exact ⟨0, rfl⟩
theorem rs_OfAll (F : List UInt8) (v : Value) (fs : List Hp.Hd) (w : World) (hv : HS w v fs) (hfew : Rs.few F fs = true) (hk : KR w) :
    Calls Tryz.prog 13 #[.agg #[Hp.sx F, v]] w fun e w' => e = ofAll F fs ∧ Below w.heap.size w w' := by
  obtain ⟨h1, h2, h3⟩ := Rs.few_is hfew
  have hs : ∀ f ∈ fs, f.1.length ≤ 100000 ∧ f.2.length ≤ 100000 := fun f hf => by have := h3 f hf; omega
  unfold ofAll
  cases hok : Hr.okB F fs with
  | false =>
    simp only [Bool.false_eq_true, if_false]
    exact rs_OfNo F v fs w hv hok (by omega) (by omega) hs
  | true =>
    simp only [if_true]
    exact rs_OfL F v fs w hv (Hr.hok_of hok) (by omega) (by omega) hs ⟨Rs.joined_le h1 h3, Rs.joined_le h1 h3, Rs.joined_le h1 h3⟩ hk
theorem rf_OfAll (F : List UInt8) (v : Value) (fs : List Hp.Hd) (w : World) (hv : HS w v fs) (hfew : Rs.few F fs = true) :
    Calls Tryz.prog 8 #[.agg #[Hp.sx F, v]] w fun e w' => e = ofAll F fs ∧ Below w.heap.size w w' := by
  obtain ⟨h1, h2, h3⟩ := Rs.few_is hfew
  exact rf_Of F v fs w hv (by omega) (by omega) (fun f hf => by have := h3 f hf; omega) ⟨Rs.joined_le h1 h3, Rs.joined_le h1 h3, Rs.joined_le h1 h3⟩
def tdC (q : HQ) : Value := .int .i64 (Rs.todo q.1 q.2.1)
theorem rs_Each (v : Value) (hs : List HQ) (w : World) (hv : HdIn w v hs) (hl : hs.length ≤ 8) (hfew : ∀ q ∈ hs, Rs.few q.1 q.2.1 = true) (hk : KR w) :
    Calls Tryz.prog 10 #[v] w fun e w' => ∃ X B, e = .returned (.func (.func 27) #[] #[.pointer (some ⟨X, 0, none⟩)]) ∧ RwI 38 67 w X B (hs.map tdC) w' := by
  obtain ⟨p, c, rfl⟩ := hv.1.slice
  obtain ⟨N, hN⟩ : ∃ z, hs.length = z := ⟨_, rfl⟩
  rw [hN] at hv hl ⊢
  obtain ⟨X, hX⟩ : ∃ X, w.heap.size = X := ⟨_, rfl⟩
  obtain ⟨W1, hW1⟩ : ∃ Z, w.alloc (.cells #[.slice none 0 0] 67) = Z := ⟨_, rfl⟩
  have HST := Lib.hid (show RwI 38 67 w X (X + 1) [] W1 from ⟨.slice none 0 0, by rw [← hW1, ← hX]; exact Boxed.new _ _ _, World.ownsRow_nil _ _ _ _, by rw [← hW1]; simp [hX], by omega, by omega, by rw [← hW1]; exact (Below.refl _ _).alloc (Nat.le_refl _) _⟩)
  obtain ⟨i0, hi, hz0, hz1, hz2'⟩ := info_parts (show (Tryz.prog.info? 38).map (fun i => (i.zero, i.size, i.bytes)) = some (some (.int .i64 0), 1, 8) by kernel_rfl)
  have hz2 := hz2'
  have HV := Lib.hid hv
  have HK := Lib.hid hk
  have HF := Lib.hid hfew
  have HN := Lib.hid hN
  have HW1 := Lib.hid hW1
  have HX := Lib.hid hX
  have WH := Lib.hid (fun st ev ck sz ln W => rs_What st ev ck sz ln W)
  clear hv hk hfew hN hW1 hX hz2'
  go_enter Tryz.func10, Tryz.ntmps10
  go_wp2_with fail
  rw [HW1.out, HX.out]
  go_loopw [10] (fun i wr => ∃ k : Nat, k ≤ N ∧ i = .int .i64 k ∧ RwI 38 67 w X (X + 1) ((hs.take k).map tdC) wr) (fun i _ => N - (intOf i).toNat)
  case atStart => exact ⟨0, Nat.zero_le _, rfl, HST.out⟩
  case round =>
    obtain ⟨k, hk, rfl, hst⟩ := hrel
    by_cases hlt : k < N
    · have hI : (k : Int) < (N : Int) := by omega
      have HBB := Lib.hid (show Below w.heap.size w wr by obtain ⟨_, _, _, _, _, _, h⟩ := hst; exact h)
      have HVR := Lib.hid (HV.out.below HBB.out)
      obtain ⟨g, o, c', hsl, hcl⟩ := HVR.out.1.at (j := k) (by rw [HN.out]; exact hlt)
      obtain ⟨rfl, rfl⟩ : p = some ⟨g, o, none⟩ ∧ c = c' := by
        simp only [Value.slice.injEq] at hsl
        exact ⟨hsl.1, hsl.2.2⟩
      obtain ⟨⟨F, fs, V⟩, hq⟩ : ∃ x, hs.getD k hqd = x := ⟨_, rfl⟩
      have hmem : hs.getD k hqd ∈ hs := by rw [List.getD_eq_getElem?_getD, List.getElem?_eq_getElem (by rw [HN.out]; exact hlt)]; exact List.getElem_mem _
      have hHS := HVR.out.2 _ hmem
      have hfw := HF.out _ hmem
      have htk : hs.take (k + 1) = hs.take k ++ [hs.getD k hqd] := by
        rw [List.take_add_one, List.getD_eq_getElem?_getD, List.getElem?_eq_getElem (by rw [HN.out]; exact hlt)]; rfl
      rw [hq] at hHS hfw hcl htk
      have x0 := hcl 0 _ rfl
      have x1 := hcl 1 _ rfl
      rw [Nat.add_zero] at x0
      simp only at hHS hfw x1
      obtain ⟨p2, c2, rfl⟩ := hHS.slice
      obtain ⟨fb, hfb⟩ : ∃ z : ByteArray, (⟨F.toArray⟩ : ByteArray) = z := ⟨_, rfl⟩
      have KO := (fun W (h : Below wr.heap.size wr W) => rs_OfAll F (.slice p2 fs.length c2) fs W (hHS.below h) hfw ((HK.out.below HBB.out).below h))
      obtain ⟨n2, hn2⟩ := ofAll_pair F fs
      obtain ⟨⟨st, ev, ck, sz, ln⟩, hr⟩ : ∃ r, (if Hr.okB F fs = true then (Rs.of F fs).getD rep0 else rep0) = r := ⟨_, rfl⟩
      obtain ⟨x, hx⟩ : ∃ z, Rs.what (st, ev, ck, sz, ln) = z := ⟨_, rfl⟩
      have htd : tdC (F, fs, .slice p2 fs.length c2) = .int .i64 x := by unfold tdC Rs.todo; simp only; rw [hr, hx]
      rw [hn2, hr] at KO
      unfold Hp.sx at KO x0
      rw [hfb] at KO x0
      unfold repV at KO
      simp only at KO
      obtain ⟨m, hm⟩ : ∃ z, fs.length = z := ⟨_, rfl⟩
      rw [hm] at KO x1 htd htk
      have WH2 := Lib.hid (fun W => WH.out st ev ck sz ln W)
      rw [hx] at WH2
      unfold repV at WH2
      simp only at WH2
      obtain ⟨xs, hxs⟩ : ∃ z, (hs.take k).map tdC = z := ⟨_, rfl⟩
      have hxl : xs.length = k := by rw [← hxs, List.length_map, List.length_take]; have := HN.out; omega
      have HTK := Lib.hid (show (hs.take (k + 1)).map tdC = xs ++ [.int .i64 x] by rw [htk, List.map_append, hxs, List.map_singleton, htd])
      rw [hxs] at hst
      have HLX := Lib.hid hxl
      have HS0 := Lib.hid hst
      obtain ⟨W3, hW3⟩ : ∃ z, wr.alloc (.cells #[.string fb, .slice p2 m c2] 28) = z := ⟨_, rfl⟩
      have hb3 : Below wr.heap.size wr W3 := by rw [← hW3]; exact (Below.refl _ _).alloc (Nat.le_refl _) _
      have hH3 : W3.heap[wr.heap.size]? = some (.cells #[.string fb, .slice p2 m c2] 28 (0, 0)) := by rw [← hW3]; exact World.alloc_heap_new _ _
      obtain ⟨D, hD⟩ : ∃ z, wr.heap.size = z := ⟨_, rfl⟩
      rw [hD] at hH3
      have y0 : W3.cell? ⟨D, 0, none⟩ = some (.string fb) := by simp [World.cell?, hH3]
      have y1 : W3.cell? ⟨D, 1, none⟩ = some (.slice p2 m c2) := by simp [World.cell?, hH3]
      have KO3 := Lib.hid (KO W3 hb3)
      have HS3 := Lib.hid (HS0.out.next hb3)
      have HW3 := Lib.hid hW3
      have HD := Lib.hid hD
      clear hst hHS hfw hmem hq hcl htk hfb KO hn2 hr hx htd hxs hxl hb3 hH3 hW3 hD hm
      go_wp2_with fail
      rw [HW3.out, HD.out]
      refine KO3.out.mono ?_
      rintro e w4 ⟨rfl, hb⟩
      have HS4 := Lib.hid (HS3.out.next hb)
      clear hb x0 x1 y0 y1
      obtain ⟨A, hA⟩ : ∃ z, w4.heap.size = z := ⟨_, rfl⟩
      obtain ⟨w5, hw5⟩ : ∃ z, w4.alloc (.cells #[.int .i64 st, .bool ev, .bool ck, .bool sz, .int .u64 ln] 31) = z := ⟨_, rfl⟩
      have hb5 : Below w4.heap.size w4 w5 := by rw [← hw5]; exact (Below.refl _ _).alloc (Nat.le_refl _) _
      have HR5 := Lib.hid (show w5.heap[A]? = some (repC (st, ev, ck, sz, ln)) by rw [← hw5, ← hA]; exact World.alloc_heap_new _ _)
      have hst := HS4.out.next hb5
      have HW5 := Lib.hid hw5
      have HA := Lib.hid hA
      obtain ⟨V1, hA1, hO1, hB1, h01, hA01, hb1⟩ := hst
      rw [HLX.out] at hO1
      have HA1 := Lib.hid hA1
      have HO1 := Lib.hid hO1
      have HBR0 := Lib.hid hB1
      have HQ1 := Lib.hid (And.intro h01 (And.intro hA01 hb1))
      clear hA1 hO1 hB1 h01 hA01 hb1 hb5 hw5 hA
      go_upto_region 6 with (fail)
      rw [HW5.out, HA.out]
      refine region_last2 5 (fun i => 19 + min i 4) (puT (X + 1) (k) (x) (.agg #[.int .i64 st, .bool ev, .bool ck, .bool sz, .int .u64 ln]) V1 xs) (PuI 38 67 w5 (X) (X + 1) (k) V1 xs) (by kernel_rfl) (by kernel_rfl) rfl (by kernel_rfl) (fun i => by show 19 + min i 4 < _; simp; omega) (fun i j hi hj h => by have h : 19 + min i 4 = 19 + min j 4 := h; omega) ?start ?dst ?step ?last
      case dst =>
        intro i o hi ho
        match i, hi, ho with
        | 0, _, ho => cases ho; rfl
        | 1, _, ho => cases ho; rfl
        | 2, _, ho => cases ho; rfl
        | 3, _, ho => cases ho; rfl
        | 4, _, ho => cases ho; rfl
        | n + 5, hi, _ => exact absurd hi (by omega)
      case step =>
        intro f a' W i o hib ho hfi hpre hT hrest
        match i, hib, ho with
        | 0, _, ho =>
          cases ho
          have q3 : a'.tmps.getD 3 undef = .pointer (some ⟨X, 0, none⟩) := (hrest 3 (by intro i hi; show 19 + min i 4 ≠ _; omega))
          have hBW : X + 1 ≤ W.heap.size := Nat.le_trans HBR0.out hT.bel.size
          have c1 : W.cell? ⟨X, 0, none⟩ = some V1 := by simp [World.cell?, hT.an]
          have e3 := rg_ev q3
          exact rg_same2 (V1) (by unfold Oper.wp execOp; go_simp; all_goals ((try simp only [e3]); (try go_simp); (try rw [if_pos (by omega)]); (try rw [if_neg (by omega)]); first | done | rfl | exact ⟨rfl, rfl⟩ | trivial)) rfl (hT.step hBW (Below.refl _ _) (by decide))
        | 1, _, ho =>
          cases ho
          have q6 : a'.tmps.getD 6 undef = .pointer (some ⟨A, 0, none⟩) := (hrest 6 (by intro i hi; show 19 + min i 4 ≠ _; omega))
          have hBW : X + 1 ≤ W.heap.size := Nat.le_trans HBR0.out hT.bel.size
          obtain ⟨c2, c3, c4, c5, c6⟩ := rep_cell (show W.heap[A]? = some (repC (st, ev, ck, sz, ln)) from hT.oth A _ _ (by decide) HR5.out)
          dsimp only at c2 c3 c4 c5 c6
          have e6 := rg_ev q6
          exact rg_same2 (.agg #[.int .i64 st, .bool ev, .bool ck, .bool sz, .int .u64 ln]) (by unfold Oper.wp execOp; go_simp; all_goals ((try simp only [e6]); (try go_simp); (try rw [if_pos (by omega)]); (try rw [if_neg (by omega)]); first | done | rfl | exact ⟨rfl, rfl⟩ | trivial)) rfl (hT.step hBW (Below.refl _ _) (by decide))
        | 2, _, ho =>
          cases ho
          have f20 := (hpre { on := 1, ground := .data } (by simp) rfl).1
          have q20 : a'.tmps.getD 20 undef = .agg #[.int .i64 st, .bool ev, .bool ck, .bool sz, .int .u64 ln] := (hpre { on := 1, ground := .data } (by simp) rfl).2
          have hBW : X + 1 ≤ W.heap.size := Nat.le_trans HBR0.out hT.bel.size
          exact rg_call 20 15 _ _ _ rfl q20 (enters_of Tryz.func15 (by kernel_rfl) rfl) (WH2.out W) (fun e w' h => by
            obtain ⟨rfl, hb⟩ := h
            exact ⟨_, rfl, _, rfl, rfl, hT.step hBW hb (by decide), fun j u _ hF => puT_below hb hF⟩)
        | 3, _, ho =>
          cases ho
          have f21 := (hpre { on := 2, ground := .data } (by simp) rfl).1
          have q21 : a'.tmps.getD 21 undef = .int .i64 x := (hpre { on := 2, ground := .data } (by simp) rfl).2
          have hBW : X + 1 ≤ W.heap.size := Nat.le_trans HBR0.out hT.bel.size
          have e21 := rg_ev q21
          have hO := hT.own (hT.n3 hfi)
          unfold Oper.wp execOp
          go_simp
          (try simp only [e21])
          (try go_simp)
          refine ⟨_, rfl, ⟨W.heap.size, rfl, World.alloc_heap_new _ _, fun h => Nat.lt_irrefl _ (hO.lt _ h.symm).2⟩, ?_, fun j u _ h => puT_below ((Below.refl _ _).alloc (Nat.le_refl _) _) h⟩
          first | exact hT.step (i := 3) hBW ((Below.refl _ _).alloc (Nat.le_refl _) _) (by decide) | (rw [show (fun j => decide (j = 3) || f j) = (fun j => if j = 3 then true else f j) by funext j; by_cases h : j = 3 <;> simp [h]]; exact hT.step (i := 3) hBW ((Below.refl _ _).alloc (Nat.le_refl _) _) (by decide))
        | 4, _, ho =>
          cases ho
          have f19 := (hpre { on := 0, ground := .data } (by simp) rfl).1
          have q19 : a'.tmps.getD 19 undef = V1 := (hpre { on := 0, ground := .data } (by simp) rfl).2
          have f22 := (hpre { on := 3, ground := .data } (by simp) rfl).1
          have h22 := (hpre { on := 3, ground := .data } (by simp) rfl).2
          have hBW : X + 1 ≤ W.heap.size := Nat.le_trans HBR0.out hT.bel.size
          obtain ⟨g, hg1, hg2, hg3⟩ := h22
          have qa : a'.eval (.tmp 19) = V1 := q19
          have qb : a'.eval (.tmp 22) = .slice (some ⟨g, 0, none⟩) 1 1 := hg1
          have hO := hT.own hfi
          refine wp_append_own _ _ _ 67 rfl (X + 1) 38 i0 (.int .i64 0) 1 8 Tryz.underlying67 hi hz0 hz1 hz2 rfl (by decide) V1 (k) xs qa hO ⟨g, 0, none⟩ 1 1 [.int .i64 (x)] qb rfl ?_ ?_ ?_ ?_ ?_ ?_
          · intro j u hj
            match j, hj with
            | 0, hj => simp at hj; subst hj; simp [Addr.add, World.cell?, hg2]
          · intro u hu; simp at hu; rcases hu with rfl; rfl
          · unfold maxLen; omega
          · omega
          · exact hBW
          · intro v' w' hown' hgrow _
            have keep : ∀ (k : Nat) (cs : Array Value) (t : TypeId) (fr : Nat × Nat), t ≠ 38 → W.heap[k]? = some (.cells cs t fr) → w'.heap[k]? = some (.cells cs t fr) := fun k cs t fr ht hk => (hgrow.block k (Array.getElem?_eq_some_iff.1 hk).1 (own_cellsQ hO ht hk)).trans hk
            refine ⟨v', rfl, hown', ⟨Below.grown hT.bel hgrow hBW (fun k hk => (hO.lt k hk).1), keep _ _ _ _ (by decide) hT.an, fun k cs t ht hk => keep _ _ _ _ ht (hT.oth k cs t ht hk), fun h => by simp at h, fun h => by simp [f19] at h, fun h => by simp [f22] at h⟩, fun j u hj hF => ?_⟩
            match j, hF with
            | 0, h | 1, h | 2, h => exact h
            | 3, ⟨g', h1, h2, h3⟩ => exact ⟨g', h1, (hgrow.block g' (Array.getElem?_eq_some_iff.1 h2).1 h3).trans h2, h3⟩
            | 4, h => rw [hfi] at hj; cases hj
            | n + 5, h => exact h.elim
        | n + 5, hib, _ => exact absurd hib (by omega)
      case last =>
        intro f vs W oL ho hall hT hvs
        have hopL : oL.op = Op.store 67 (.tmp 3) (.tmp 23) := by cases ho; rfl
        have hdsL : oL.dst = none := by cases ho; rfl
        clear ho hall
        have v0 : vs 0 = V1 := hvs 0 (by decide)
        have v1 : vs 1 = .agg #[.int .i64 st, .bool ev, .bool ck, .bool sz, .int .u64 ln] := hvs 1 (by decide)
        have v2 : vs 2 = .int .i64 x := hvs 2 (by decide)
        obtain ⟨y3, v3, w3⟩ : ∃ z, vs 3 = z ∧ puT (X + 1) (k) (x) (.agg #[.int .i64 st, .bool ev, .bool ck, .bool sz, .int .u64 ln]) V1 xs 3 W z := ⟨_, rfl, hvs 3 (by decide)⟩
        obtain ⟨y4, v4, w4⟩ : ∃ z, vs 4 = z ∧ puT (X + 1) (k) (x) (.agg #[.int .i64 st, .bool ev, .bool ck, .bool sz, .int .u64 ln]) V1 xs 4 W z := ⟨_, rfl, hvs 4 (by decide)⟩
        simp only [fillN, List.size_toArray, List.length_cons, List.length_nil, Nat.reduceAdd, show List.range 5 = [0, 1, 2, 3, 4] from rfl, List.foldl_cons, List.foldl_nil, show 19 + min 0 4 = 19 from rfl, show 19 + min 1 4 = 20 from rfl, show 19 + min 2 4 = 21 from rfl, show 19 + min 3 4 = 22 from rfl, show 19 + min 4 4 = 23 from rfl, v0, v1, v2, v3, v4]
        clear v0 v1 v2 v3 v4 hvs
        obtain ⟨g14, c14, rfl⟩ := Go.Joins.ownsRow_form (show W.ownsRow (X + 1) 38 1 y4 (k + 1) (xs ++ [.int .i64 (x)]) from w4) (by omega)
        have hAn := hT.an
        have hcA : W.cell? ⟨X, 0, none⟩ = some V1 := by simp [World.cell?, hAn]
        have hzA : W.frozen? ⟨X, 0, none⟩ = false := frozen_of_row _ _ _ _ _ hAn
        have HST := Lib.hid (show RwI 38 67 w (X) (X + 1) (xs ++ [.int .i64 (x)]) (W.setCell ⟨X, 0, none⟩ (.slice (some ⟨g14, 0, none⟩) (k + 1) c14)) from ⟨_, Boxed.set (v := V1) _ hAn, by
          rw [List.length_append, List.length_singleton, HLX.out]
          exact own_set w4 HQ1.out.2.1, by simpa using Nat.le_trans HBR0.out hT.bel.size, HQ1.out.1, HQ1.out.2.1, (HQ1.out.2.2.trans (hT.bel.mono (Nat.le_trans HQ1.out.1 (Nat.le_of_lt HQ1.out.2.1)))).setCell (p := ⟨X, 0, none⟩) HQ1.out.1 _⟩)
  
        clear hT hAn
        unfold Oper.wp execOp
        simp only [hopL]
        go_simp
        clear hcA hzA w3 w4 hopL hdsL
        go_wp2_with fail
        go_roundw
        case rel => exact ⟨k + 1, hlt, by go_num, by rw [HTK.out]; exact HST.out⟩
        case measure => simp [intOf]; omega
      case start =>
        exact ⟨(Below.refl _ _).drew, HA1.out, fun k cs t ht h => h, fun _ => own_bel HO1.out (Below.refl _ _).drew, fun _ => rfl, fun _ => rfl⟩
    · obtain rfl : k = N := by omega
      have HS2 := Lib.hid (show RwI 38 67 w X (X + 1) (hs.map tdC) wr by rwa [List.take_of_length_le (by rw [HN.out]; exact Nat.le_refl _)] at hst)
      have hI : ¬ (k : Int) < (k : Int) := by omega
      clear hst
      go_wp2_with fail
      go_ret
      exact ⟨X, rfl, X + 1, HS2.out⟩
end Go.Proofs.YtheaichiglfmjaaGreatDoor

/- response: the iterator of Each (XHq's proofs turned to a row of numbers). No conditions but those that each law states. -/
namespace Go.Proofs.YtheaichiglfmjaaGreatDoor
set_option linter.unusedVariables false
set_option linter.unusedSimpArgs false
open Go.RowKit Go.Shelf
attribute [local go_sem] Oper.semAt_some
set_option maxHeartbeats 8000000
set_option maxRecDepth 100000
/-- a slice of so many numbers -/
def InRow (X : World) (p : Option Addr) (N : Nat) (t : Nat → Int) : Prop := ∀ k, k < N → ∃ g o, p = some ⟨g, o, none⟩ ∧ X.cell? ⟨g, o + k, none⟩ = some (.int .i64 (t k))
theorem sl_allT (F : Fence) (n : Nat) (h : F.fn 28) (hro : F.round = none) (v : Value) (p : Option Addr) (m c : Nat) (hv : v = .slice p m c) (w : World) :
    CallsIn F n Tryz.prog 28 #[v] w fun e w' => e = .returned (.func (.func 50) #[] #[.pointer (some ⟨w.heap.size, 0, none⟩)]) ∧ w' = w.alloc (.cells #[v] 67) := by
  subst hv
  refine callsIn_of_wp Tryz.func28 rfl h ?_ hro
  simp only [Tryz.ntmps28, List.size_toArray, List.length_cons, List.length_nil, Nat.reduceAdd, Nat.reduceSub, Array.replicate_succ, Array.replicate_zero, List.push_toArray, List.append_toArray, List.nil_append, List.cons_append]
  gi_wp2
  go_ret
  exact ⟨rfl, rfl⟩
theorem all1T_it (m : Nat) (p : Option Addr) (N c B : Nat) (t : Nat → Int) (hN : N ≤ 1000000) (own : Nat → Prop) (Kp : World → World → Prop) (S : World → Prop) (W : World) (hB : ¬ own B)
    (hS : ∀ X, S X → InRow X p N t) (hKp : ∀ X Y, Kp X Y → S X → S Y) (hTu : ∀ X Y, Turn W.heap.size own X Y → S X → S Y)
    (hWB : Boxed W B 67 (.slice p N c)) (hv : S W) :
    IterAt Fence.wide m Tryz.prog 50 #[.pointer (some ⟨B, 0, none⟩)] (fun k => #[.int .i64 k, .int .i64 (t k)]) N own Kp W := by
  intro l J Jx hJ hJx hY h0
  have HV := Lib.hid hv
  have hc0 := hWB.cell
  clear hv
  refine callsIn_of_wp Tryz.func50 rfl trivial ?_ rfl
  simp only [Tryz.ntmps50, List.size_toArray, List.length_cons, List.length_nil, Nat.reduceAdd, Nat.reduceSub, Array.replicate_succ, Array.replicate_zero, List.push_toArray, List.append_toArray, List.nil_append, List.cons_append]
  gi_wp2
  gi_loopw [7] (fun i wr => ∃ k : Nat, k ≤ N ∧ i = .int .i64 k ∧ J k wr ∧ S wr) (fun i _ => N - (intOf i).toNat)
  case atStart => exact ⟨0, Nat.zero_le _, rfl, h0, HV.out⟩
  case round =>
    obtain ⟨k, hk, rfl, hj, hp⟩ := hrel
    by_cases hlt : k < N
    · have hI : (k : Int) < (N : Int) := by omega
      obtain ⟨g, o, rfl, h1⟩ := hS _ hp k hlt
      have HJ := Lib.hid hj
      have HP := Lib.hid hp
      obtain ⟨a, ha⟩ : ∃ z, t k = z := ⟨_, rfl⟩
      rw [ha] at h1
      obtain ⟨fn, tmps, assign, body, hy, hR⟩ := hY k _ hlt HJ.out
      rw [ha] at hy
      clear hj hp ha
      gi_wp2
      refine ⟨(fun h => by cases h), hR.mono ?_⟩
      rintro z Y (⟨rfl, hj', hkp, _⟩ | ⟨rfl, hjx, _⟩)
      · have HPY := Lib.hid (hKp _ _ hkp HP.out)
        clear hy
        gi_wp2
        go_roundw
        case rel => exact ⟨k + 1, hlt, by go_num, hj', HPY.out⟩
        case measure => simp [intOf]; omega
      · gi_wp2
        refine bodyPost_ret (results_none rfl _ _ _) rfl ?_
        exact ⟨⟨_, rfl⟩, .inr hjx⟩
    · have hI : ¬ (k : Int) < (N : Int) := by omega
      have hkN : k = N := by omega
      subst hkN
      gi_wp2
      go_end0
      exact ⟨⟨_, rfl⟩, .inl hj⟩
theorem turn_belowV {B : Nat} {own : Nat → Prop} {W W' : World} (h : Below W.heap.size W W') : Turn B own W W' :=
  ⟨h.os, h.tape, h.output, h.size, fun k hk _ _ => h.block k hk⟩
theorem keeps_belowV {B : Nat} {W W' : World} (h : Below W.heap.size W W') : KeepsFrom B W W' :=
  ⟨h.size, fun k o _ hk _ => (h.block k (Array.getElem?_eq_some_iff.1 hk).1).trans hk⟩
theorem each1_it (C E : Nat) (p : Option Addr) (N c : Nat) (t : Nat → Int) (hN : N ≤ 1000000) (Kp : World → World → Prop) (S : World → Prop) (W : World) (hE : W.heap.size = E)
    (hS : ∀ X, S X → InRow X p N t ∧ Boxed X C 67 (.slice p N c)) (hKp : ∀ X Y, Kp X Y → S X → S Y) (hTu : ∀ X Y, Turn E (fun _ => False) X Y → S X → S Y) (hPu : ∀ X l o', E ≤ l → S X → S (X.putObj l o'))
    (hKf : ∀ X Y u, Kp X Y → Boxed X E 68 u → Boxed Y E 68 u)
    (hv : S W) :
    IterAt Fence.wide 9 Tryz.prog 27 #[.pointer (some ⟨C, 0, none⟩)] (fun k => #[.int .i64 k, .int .i64 (t k)]) N (fun _ => False) Kp W := by
  intro l J Jx hJ hJx hY h0
  have hbC := (hS _ hv).2
  have hCE : C < E := by rw [← hE]; exact hbC.lt
  refine callsIn_of_wp_marks Tryz.func27 rfl trivial ?_ rfl
  simp only [Tryz.ntmps27, List.size_toArray, List.length_cons, List.length_nil, Nat.reduceAdd, Nat.reduceSub, Array.replicate_succ, Array.replicate_zero, List.push_toArray, List.append_toArray, List.nil_append, List.cons_append]
  have LW := Lib.hid (fun X => sl_allT Fence.wide 8 trivial rfl (.slice p N c) _ _ _ rfl X)
  have HV := Lib.hid hv
  have cC := hbC.cell
  obtain ⟨W1, hW1⟩ : ∃ W1, W.alloc (.cells #[.func (.yield l) #[] #[]] 68) = W1 := ⟨_, rfl⟩
  have cC1 : W1.cell? ⟨C, 0, none⟩ = some (.slice p N c) := by rw [← hW1]; exact (hbC.alloc _).cell
  have HW1 := Lib.hid hW1
  have HEE := Lib.hid hE
  clear hv hbC hW1 hE
  gi_wp2_with fail
  rw [HW1.out, HEE.out]
  refine wpW_scope ?_
  gi_step
  apply wpIn_label
  gi_wp2_with fail
  refine ⟨trivial, (LW.out _).mono ?_⟩
  rintro e w' ⟨rfl, rfl⟩
  have hW1 := HW1.out
  have hE := HEE.out
  obtain ⟨W0, hW0⟩ : ∃ W0, W1.alloc (.cells #[.slice p N c] 67) = W0 := ⟨_, rfl⟩
  have hs0 : W0.heap.size = E + 2 := by rw [← hW0, ← hW1]; simp; omega
  have bY : Boxed W0 E 68 (.func (.yield l) #[] #[]) := by
    rw [← hW0, ← hW1, ← hE]; exact (Boxed.new W _ _).alloc _
  have hsz : W1.heap.size = E + 1 := by rw [← hW1]; simp; omega
  have bN : Boxed W0 (E + 1) 67 (.slice p N c) := by
    rw [← hW0, ← hsz]; exact Boxed.new W1 _ _
  have j0 : J 0 W0 := by rw [← hW0, ← hW1]; exact hJ _ _ _ (hJ _ _ _ h0 (.alloc _ _)) (.alloc _ _)
  have s0 : S W0 := by rw [← hW0, ← hW1]; exact hTu _ _ (.alloc _ _) (hTu _ _ (.alloc _ _) HV.out)
  rw [hsz, hW0]
  clear hW0 hsz hW1 cC cC1 h0
  gi_wp2_with fail
  refine rf_outerE (N := N) (own := fun _ => False) (Kp := fun X Y => S X → S Y) (encs := fun k => #[.int .i64 k, .int .i64 (t k)]) rfl (by omega) (gf := 50) (lb := #[.pointer (some ⟨E + 1, 0, none⟩)]) rfl trivial (enters_of Tryz.func50 (by kernel_rfl) rfl)
    (fun _ => rfl) (fun b hb => hb.elim)
    (fun X hX hs => by
      exact all1T_it 8 p N c (E + 1) t hN (fun _ => False) (fun X Y => S X → S Y) S X (fun h => h) (fun X h => (hS X h).1) (fun _ _ h => h) (fun A B h => hTu A B (h.mono (by omega) (fun _ h => h)))
        ((hX.block _ (by omega)).trans bN) (hTu _ _ (turn_belowV hX) s0))
    (fun h k hs => k (h hs)) (fun X o o' h2 h3 hs => hPu _ _ _ (by omega) hs)
    (fun k X => J k X ∧ Boxed X E 68 (.func (.yield l) #[] #[]) ∧ S X) (fun c X => c = .exit 0 ∧ Jx X)
    (fun k X Y hs ht => ⟨hJ _ _ _ hs.1 (ht.mono (by omega) (fun b hb => hb)), ht.boxed hs.2.1 (fun h => h), hTu _ _ (ht.mono (by omega) (fun b hb => hb)) hs.2.2⟩)
    (fun c X Y hs ht => ⟨hs.1, hJx _ _ hs.2 (ht.mono (by omega) (fun b hb => hb))⟩) ⟨j0, bY, s0⟩ ?E
  case E =>
    apply Exists.intro
    refine ⟨?asg, ?bod, ?don, ?stp⟩
    case asg =>
      intro l' k X K hk hi hK
      have HKK := Lib.hid hK
      clear hK
      gi_wp2
      exact HKK.out _ (KeepsFrom.refl _ _) (fun h => h) hi
    case bod =>
      rintro l' k X hl' ⟨r, hr⟩ hk ⟨hj, hb, hs⟩
      have cY := hb.cell
      obtain ⟨fn, tmps, assign, body, hy, hR⟩ := hY k X hk hj
      have hR' := roundIn_any 6 hR
      obtain ⟨a, ha⟩ : ∃ z, t k = z := ⟨_, rfl⟩
      rw [ha] at hy
      clear hR
      gi_wp2
      refine RoundIn.mono (F := Fence.wide) hR' ?_
      rintro e Y (⟨rfl, hj', hkp, hkf⟩ | ⟨rfl, hjx, hkf⟩)
      · have hbY := hKf _ _ _ hkp hb
        have hsY := hKp _ _ hkp hs
        gi_wp2
        exact ⟨⟨hkf.size, fun i o hi h1 h2 => hkf.same i o (by omega) h1 h2⟩, fun _ => hsY, hj', hbY, hsY⟩
      · gi_wp2
        exact ⟨⟨hkf.size, fun i o hi h1 h2 => hkf.same i o (by omega) h1 h2⟩, rfl, hjx⟩
    case don =>
      rintro D X hD ⟨hj, _, _⟩ hK
      gi_wp2
      rw [Exit.noGoto_normal]
      refine ⟨by simp, .inl ⟨_, _, rfl, run_takeDeferred hK, ?_⟩⟩
      exact ⟨_, results_none rfl _ _ _, ⟨_, rfl⟩, .inl (hJ _ _ _ hj (.putObj _ (by omega) hK rfl))⟩
    case stp =>
      rintro D c X hD ⟨rfl, hjx⟩ hK
      gi_wp2
      rw [Exit.noGoto_normal]
      refine ⟨by simp, .inl ⟨_, _, rfl, run_takeDeferred hK, ?_⟩⟩
      exact ⟨_, results_none rfl _ _ _, ⟨_, rfl⟩, .inr (hJx _ _ hjx (.putObj _ (by omega) hK rfl))⟩
theorem InRow.own {W : World} {B n c : Nat} {e : TypeId} {p : Option Addr} {xs : List Value} (h : W.ownsRow B e 1 (.slice p n c) n xs) (t : Nat → Int) (ht : ∀ k, k < n → xs[k]? = some (.int .i64 (t k))) : InRow W p n t := by
  intro k hk
  rcases h.2 with ⟨hv, h0⟩ | ⟨g, cap, cur, hv, hBg, hg, hnc, hcm, hcs, htk⟩
  · omega
  · cases hv
    have h2 := h.cells (g := g) rfl k _ (ht k hk)
    have hadd : (⟨g, 0, none⟩ : Addr).add k = ⟨g, 0 + k, none⟩ := by unfold Addr.add; split <;> simp_all
    rw [hadd] at h2
    exact ⟨g, 0, rfl, h2⟩
/-- the old blocks as they were -/
def AgV (W X : World) : Prop := ∀ b, b < W.heap.size → X.heap[b]? = W.heap[b]?
theorem AgV.size {W X : World} (h : AgV W X) : W.heap.size ≤ X.heap.size := by
  rcases Nat.eq_zero_or_pos W.heap.size with h0 | h0
  · omega
  · have h1 := h (W.heap.size - 1) (by omega)
    rw [Array.getElem?_eq_getElem (by omega : W.heap.size - 1 < W.heap.size)] at h1
    have := (Array.getElem?_eq_some_iff.1 h1).1
    omega
theorem AgV.of {W X : World} (h : Below W.heap.size W X) : AgV W X := fun b hb => h.block b hb
theorem AgV.turn {B : Nat} {W X Y : World} (h : AgV W X) (ht : Turn B (fun _ => False) X Y) (hB : W.heap.size ≤ B) : AgV W Y :=
  fun b hb => (ht.block b (Nat.lt_of_lt_of_le hb h.size) id (fun h => by omega)).trans (h b hb)
theorem AgV.keep {W X Y : World} {E n : Nat} (hn : W.heap.size = n) (h : AgV W X) (ht : KeepB n E X Y) : AgV W Y :=
  fun b hb => (ht b (.inl (by omega)) (Nat.lt_of_lt_of_le hb h.size)).trans (h b hb)
theorem AgV.cell {W X : World} (h : AgV W X) {g i : Nat} {v : Value} (ha : W.cell? ⟨g, i, none⟩ = some v) : X.cell? ⟨g, i, none⟩ = some v := by
  have hb : g < W.heap.size := lt_of_cell ha
  unfold World.cell? at ha ⊢
  simp only at ha ⊢
  rw [h _ hb]
  exact ha
theorem AgV.row {W X : World} {p : Option Addr} {n : Nat} {t : Nat → Int} (h : AgV W X) (hr : InRow W p n t) : InRow X p n t := fun k hk => by
  obtain ⟨g, o, h1, h2⟩ := hr k hk
  exact ⟨g, o, h1, h.cell h2⟩
end Go.Proofs.YtheaichiglfmjaaGreatDoor
