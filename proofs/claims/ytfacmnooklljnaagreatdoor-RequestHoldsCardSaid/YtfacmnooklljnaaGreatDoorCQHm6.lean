/- Texts of this claim, one behind the other: Zk, Qf, Qg, Qh, Qi, Qj, Qk, Qu, Qv, Zl, RB. -/
import Derived.Test.YtfacmnooklljnaaGreatDoorCQHm5
import Derived.Deep.Cut
import Derived.Test.YtfacmnooklljnaaGreatDoorCQHm2
import Derived.Test.YtfacmnooklljnaaGreatDoorCQHm1
import Derived.Test.YtfacmnooklljnaaGreatDoorCQHm4
import Derived.Lib.AppendIntMem
/- request: looked. What a head is that is looked at: its look, its status. No conditions but those that each law states. Printed by genZk.py. -/
namespace Go.Proofs.YtfacmnooklljnaaGreatDoor
set_option linter.unusedVariables false
set_option linter.unusedSimpArgs false
open Go.RowKit Go.Shelf
attribute [local go_sem] Oper.semAt_some
set_option maxHeartbeats 8000000
set_option maxRecDepth 100000
theorem Rq.line_inv {F : List UInt8} {l : List UInt8 × Rq.Tg × List UInt8} (h : Rq.line F = some l) : Rq.ver l.2.2 ≠ 0 ∧ ∃ t, Gt.parse t = some l.2.1 ∧ t.length ≤ F.length := by
  unfold Rq.line at h
  have hp := Gs.parts_len 32 F []
  generalize Gs.parts 32 [] F = L at h hp
  match L, h, hp with
  | [m, t, v], h, hp =>
    have h : (if Tp.isTok m = true then (Gt.parse t).bind fun g => if Rq.ver v = 0 then none else some (m, g, v) else none) = some l := h
    by_cases h1 : Tp.isTok m = true
    · rw [if_pos h1] at h
      cases hg : Gt.parse t with
      | none => rw [hg] at h; cases h
      | some g =>
        rw [hg] at h
        have h : (if Rq.ver v = 0 then none else some (m, g, v)) = some l := h
        by_cases h2 : Rq.ver v = 0
        · rw [if_pos h2] at h; cases h
        · rw [if_neg h2] at h
          cases h
          refine ⟨h2, t, hg, ?_⟩
          have := hp t (by simp)
          simpa using this
    · rw [if_neg h1] at h; cases h
theorem rq_mustB (b : Bool) (n : Int) (w : World) :
    Calls Tryz.prog 73 #[.bool b, .int .i64 n] w fun e w' => (if b = true then e = .returned (.tuple #[]) else e = .panicked [{ v := stat n, recovered := false }]) ∧ w' = w := by
  cases b with
  | true => exact (rq_must n w).mono fun e w' h => ⟨by rw [if_pos rfl]; exact h.1, h.2⟩
  | false => exact (rq_must_no n w).mono fun e w' h => ⟨by rw [if_neg (by decide)]; exact h.1, h.2⟩
theorem rq_caughtD_idle (p : Addr) (w : World) :
    CallsD Tryz.prog 70 #[.pointer (some p)] .returning w fun e u' w' => e = .returned (.tuple #[]) ∧ u' = .returning ∧ w' = w := by
  refine callsD_of_wpS Tryz.func70 rfl fun c₀ cs hu => ?_
  apply wpS_seq
  apply wpS_region
  simp [wpOpsS, go_sem, recoverD, hu, Tryz.ntmps70, Exit.thenS]
  apply wpS_seq
  apply wpS_region
  simp [wpOpsS, go_sem, recoverD, hu, Exit.thenS]
  refine wpS_cond (t := false) (by simp [Act.eval, Array.replicate]) ?_
  simp only [Bool.false_eq_true, if_false]
  refine wpS_of_wp (wp_skip ?_)
  cases c₀
  simp_all [bodyPostS, results, Tryz.results70]
theorem rq_caughtD (p : Addr) (n : Int) (older : List PanicEntry) (w : World) (old : Value) (hc : w.cell? p = some old) (hz : w.frozen? p = false) :
    CallsD Tryz.prog 70 #[.pointer (some p)] (.panicking ({ v := stat n, recovered := false } :: older)) w fun e u' w' =>
      e = .returned (.tuple #[]) ∧ u' = .panicking ({ v := stat n, recovered := true } :: older) ∧ w' = w.setCell p (.int .i64 n) := by
  refine callsD_of_wpS Tryz.func70 rfl fun c₀ cs hu => ?_
  apply wpS_seq
  apply wpS_region
  simp [wpOpsS, go_sem, recoverD, hu, Tryz.ntmps70, Exit.thenS]
  apply wpS_seq
  apply wpS_region
  simp [wpOpsS, go_sem, recoverD, hu, Exit.thenS, stat]
  refine wpS_cond (t := true) (by simp [Act.eval, Array.replicate]) ?_
  simp only [if_true]
  refine wpS_of_wp ?_
  simp [Array.replicate, List.replicate, List.setIfInBounds_toArray]
  have hta : ∀ (v : Value) (W : World), (Instr.typeAssert (.iface 3 v) 20 3 true).run Tryz.prog W = .ok (.tuple #[v, .bool true]) W := stat_is
  go_wp2_with fail
  simp [bodyPostS, results, Tryz.results70, go_sem]
theorem Rq.ruN_ne : ∀ k, Rq.ruN k ≠ 200
  | 0 | 1 | 2 | 3 | 4 | 5 => by decide
  | n + 6 => by show (406 : Int) ≠ 200; decide
/-- how looked gives up -/
theorem rq_door (a : Act) (S E : Nat) (W : World) (n : Int) (Q : Ending → World → Prop) (hd : a.defers = [{ target := Target.fn (Fn.func 70) #[], args := #[.pointer (some ⟨E, 0, none⟩)] }]) (h2 : a.tmps.getD 2 undef = .pointer (some ⟨S, 0, none⟩)) (h3 : a.tmps.getD 3 undef = .pointer (some ⟨E, 0, none⟩))
    (hE : Boxed W E 3 (.int .i64 0)) (hQ : Q (.returned (.tuple #[.pointer (some ⟨S, 0, none⟩), .int .i64 n])) (W.setCell ⟨E, 0, none⟩ (.int .i64 n))) :
    bodyPostD Tryz.prog Tryz.f26 Q (.panic [{ v := stat n, recovered := false }]) a W := by
  obtain ⟨tm, df⟩ := a
  simp only at hd h2 h3
  subst hd
  have e2 := rg_ev (a := ⟨tm, []⟩) h2
  have e3 := rg_ev (a := ⟨tm, []⟩) h3
  simp only at e2 e3
  refine leaves_cons (f := 70) (args := #[.pointer (some ⟨E, 0, none⟩)]) (by simp) (by simp [go_sem]) ?_
  refine (rq_caughtD ⟨E, 0, none⟩ n [] W _ hE.cell hE.frozen).mono ?_
  rintro e u' w'' ⟨rfl, rfl, rfl⟩
  have xe := (Boxed.set (v := .int .i64 0) (.int .i64 n) hE).cell
  obtain ⟨X, hX⟩ : ∃ X, W.setCell ⟨E, 0, none⟩ (.int .i64 n) = X := ⟨_, rfl⟩
  rw [hX] at xe hQ ⊢
  clear hX hE
  simp [Leaves, settle, results, Tryz.results26, go_sem, e2, e3, xe]
  exact hQ
theorem rg_callV {P : Program} {o : Oper} {a : Act} {w : World} {K : Act → World → Prop} {Q : Exit → Act → World → Prop} (s t k : Nat) (cap : Array Value) (ty : Array TypeId) (v : Value) (R : Ending → World → Prop) (ho : o.op = Op.call { callee := .value (.tmp s), args := #[.tmp t], argTypes := ty })
    (hs : a.tmps.getD s undef = .func (.func k) #[] cap) (hv : a.tmps.getD t undef = v)
    (eg : ∀ args w, (callFunc k args).run P w = .ok (.enter k args) w) (hc : Calls P k (#[v] ++ cap) w R) (hR : ∀ e w', R e w' → ∃ r, e = .returned r ∧ K (a.put o.dst r) w') : o.wp P a w K Q := by
  have e := rg_ev hv
  have e2 := rg_ev hs
  unfold Oper.wp execOp
  simp [ho, resolve, invoke, e2, e, eg, go_sem]
  refine hc.mono ?_
  intro z w' hz
  obtain ⟨r, rfl, hk⟩ := hR z w' hz
  exact hk
theorem rg_callP2 {P : Program} {o : Oper} {a : Act} {w : World} {K : Act → World → Prop} {Q : Exit → Act → World → Prop} (s t k : Nat) (ty : Array TypeId) (u v : Value) (R : Ending → World → Prop) (ho : o.op = Op.call { callee := .value (.func k), args := #[.tmp s, .tmp t], argTypes := ty }) (hu : a.tmps.getD s undef = u) (hv : a.tmps.getD t undef = v)
    (eg : ∀ args w, (callFunc k args).run P w = .ok (.enter k args) w) (hc : Calls P k #[u, v] w R) (hR : ∀ e w', R e w' → (∃ r, e = .returned r ∧ K (a.put o.dst r) w') ∨ ∃ ch, e = .panicked ch ∧ Q (.panic ch) a w') : o.wp P a w K Q := by
  have e := rg_ev hv
  have e1 := rg_ev hu
  have e2 : a.eval (.func k) = .func (.func k) #[] #[] := rfl
  unfold Oper.wp execOp
  simp [ho, resolve, invoke, e2, e, e1, eg, go_sem]
  refine hc.mono ?_
  intro z w' hz
  rcases hR z w' hz with ⟨r, rfl, hk⟩ | ⟨ch, rfl, hk⟩
  · exact hk
  · exact hk
/-- the rules: each is a closure of which it is known what it tells -/
theorem rq_rule (A C D : Nat) (F : ByteArray) (V P : Value) (fs : List Hp.Hd) (l : List UInt8 × Rq.Tg × List UInt8) (q : Option Addr) (n c : Nat) (w : World) (h : LkW w A F V fs ⟨l.1.toArray⟩ ⟨l.2.2.toArray⟩ P (.slice q n c)) (hT : TS w P l.2.1.1) (hL : l.2.1.1.length ≤ 300) (hs : ∀ p ∈ l.2.1.1, p.length ≤ 300)
    (hj : (Rq.joined Rq.nAcc fs).length ≤ 100000) (hC : Boxed w C 9 (.string ⟨#[108, 97, 115, 116, 45, 101, 118, 101, 110, 116, 45, 105, 100]⟩)) (hD : Boxed w D 3 (.int .i64 0)) (k : Nat) (hk : k < 7) :
    ∃ fid cap, (∀ W, (Instr.index 114 (.agg (ruC C D)) (.int .i64 (k : Int))).run Tryz.prog W = .ok (.agg #[.int .i64 (Rq.ruN k), .func (.func fid) #[] cap]) W) ∧ (∀ args W, (callFunc fid args).run Tryz.prog W = .ok (.enter fid args) W) ∧
      ∀ W, Below w.heap.size w W → Calls Tryz.prog fid (#[.pointer (some ⟨A, 0, none⟩)] ++ cap) W fun e w' => e = .returned (.bool (Rq.ruB l fs k)) ∧ Below W.heap.size W w' := by
  have ev : (⟨l.2.2.toArray⟩ : ByteArray).toList = l.2.2 := ba_list _
  have em : (⟨l.1.toArray⟩ : ByteArray).toList = l.1 := ba_list _
  match k, hk with
  | 0, _ =>
    refine ⟨105, #[], fun W => rfl, enters_of Tryz.func105 (by kernel_rfl) rfl, fun W hb => ?_⟩
    have K := rq_r1 A F V fs ⟨l.1.toArray⟩ ⟨l.2.2.toArray⟩ P (.slice q n c) W (h.below hb)
    rw [ev] at K
    exact K
  | 1, _ =>
    refine ⟨107, #[], fun W => rfl, enters_of Tryz.func107 (by kernel_rfl) rfl, fun W hb => ?_⟩
    exact rq_r2 A F V fs ⟨l.1.toArray⟩ ⟨l.2.2.toArray⟩ P (.slice q n c) W (h.below hb)
  | 2, _ =>
    refine ⟨108, #[], fun W => rfl, enters_of Tryz.func108 (by kernel_rfl) rfl, fun W hb => ?_⟩
    exact rq_r3 A F V fs ⟨l.1.toArray⟩ ⟨l.2.2.toArray⟩ P (.slice q n c) W (h.below hb)
  | 3, _ =>
    refine ⟨136, #[.pointer (some ⟨C, 0, none⟩), .pointer (some ⟨D, 0, none⟩)], fun W => rfl, lone1_in, fun W hb => ?_⟩
    exact rq_lone1 A C D F ⟨#[108, 97, 115, 116, 45, 101, 118, 101, 110, 116, 45, 105, 100]⟩ 0 V fs ⟨l.1.toArray⟩ ⟨l.2.2.toArray⟩ P (.slice q n c) W (h.below hb) (by decide) (boxed_below hC hb) (boxed_below hD hb)
  | 4, _ =>
    refine ⟨109, #[], fun W => rfl, enters_of Tryz.func109 (by kernel_rfl) rfl, fun W hb => ?_⟩
    have K := rq_r4 A F V ⟨l.1.toArray⟩ ⟨l.2.2.toArray⟩ P (.slice q n c) W (h.below hb).c
    rw [ev] at K
    exact K.mono fun e w' h => ⟨h.1, by rw [h.2]; exact Below.refl _ _⟩
  | 5, _ =>
    refine ⟨110, #[], fun W => rfl, enters_of Tryz.func110 (by kernel_rfl) rfl, fun W hb => ?_⟩
    have K := rq_r5 A F V ⟨l.1.toArray⟩ ⟨l.2.2.toArray⟩ P (.slice q n c) W (h.below hb).c
    rw [em] at K
    exact K.mono fun e w' h => ⟨h.1, by rw [h.2]; exact Below.refl _ _⟩
  | 6, _ =>
    refine ⟨111, #[], fun W => rfl, enters_of Tryz.func111 (by kernel_rfl) rfl, fun W hb => ?_⟩
    exact rq_r6 A F V fs ⟨l.1.toArray⟩ ⟨l.2.2.toArray⟩ P l.2.1.1 q n c W (h.below hb) (hT.below hb) hL hs hj
  | k + 7, hk => exact absurd hk (by omega)
def Rq.sto (o : Option (List UInt8 × Rq.Tg × List UInt8)) (fs : List Hp.Hd) : Int := match o with
  | none => 400
  | some l => Rq.stat3 l fs
/-- what looked tells -/
def LkO (F : ByteArray) (V : Value) (fs : List Hp.Hd) (e : Ending) (w' : World) : Prop := ∃ A, e = .returned (.tuple #[.pointer (some ⟨A, 0, none⟩), .int .i64 (Rq.status F.data.toList fs)]) ∧
  (Rq.status F.data.toList fs = 200 → ∃ m g v p n c q k d, Rq.line F.data.toList = some (m, g, v) ∧ LkW w' A F V fs ⟨m.toArray⟩ ⟨v.toArray⟩ (.slice p n c) (.slice q k d) ∧ SwRow w' (.slice p n c) g.1 ∧ PrRow w' (.slice q k d) g.2)
def rlF (A R : Nat) (fid : FuncId) (cap : Array Value) (sn : Int) (b : Bool) : Nat → World → Value → Prop
  | 0, _, v => v = .pointer (some ⟨R, 1, none⟩)
  | 1, _, v => v = .func (.func fid) #[] cap
  | 2, _, v => v = .pointer (some ⟨A, 0, none⟩)
  | 3, _, v => v = .bool b
  | 4, _, v => v = .pointer (some ⟨R, 0, none⟩)
  | 5, _, v => v = .int .i64 sn
  | 6, w, v => b = true ∧ v = .tuple #[]
  | _, _, _ => False
theorem rq_looked (F : ByteArray) (p : Option Addr) (n c : Nat) (fs : List Hp.Hd) (w : World) (hv : HS w (.slice p n c) fs) (hl : fs.length ≤ 1000) (hf : ∀ f ∈ fs, f.1.length ≤ 100000 ∧ f.2.length ≤ 100000) (hF : F.size ≤ 250) (hj : (Rq.joined Rq.nAcc fs).length ≤ 100000) (hm : Mx w) :
    Calls Tryz.prog 26 #[.agg #[.string F, .slice p n c]] w fun e w' => LkO F (.slice p n c) fs e w' ∧ Below w.heap.size w w' := by
  have h0 : 0 < w.heap.size := by obtain ⟨m, hm⟩ := hm; exact lt_of_cell hm
  obtain ⟨B, hB⟩ : ∃ z, w.heap.size = z := ⟨_, rfl⟩
  obtain ⟨W3, hW3⟩ : ∃ z, ((w.alloc (.cells #[.string F, .slice p n c] 25)).alloc (.cells #[.int .i64 0] 3)).alloc (.cells #[.string F, .slice p n c, .string ⟨#[]⟩, .string ⟨#[]⟩, .slice none 0 0, .slice none 0 0] 71) = z := ⟨_, rfl⟩
  have hb3 : Below w.heap.size w W3 := by rw [← hW3]; exact (((Below.refl _ _).alloc (Nat.le_refl _) _).alloc (by simp) _).alloc (by simp; omega) _
  have hz3 : W3.heap.size = B + 3 := by rw [← hW3, ← hB]; simp
  have hE3 : Boxed W3 (B + 1) 3 (.int .i64 0) := by
    rw [← hW3, ← hB]
    refine Boxed.alloc ?_ _
    have := Boxed.new (w.alloc (.cells #[.string F, .slice p n c] 25)) 3 (.int .i64 0)
    simpa using this
  have hA3 : W3.heap[B + 2]? = some (lkC F (.slice p n c) ⟨#[]⟩ ⟨#[]⟩ (.slice none 0 0) (.slice none 0 0)) := by
    rw [← hW3, ← hB]
    have := World.alloc_heap_new ((w.alloc (.cells #[.string F, .slice p n c] 25)).alloc (.cells #[.int .i64 0] 3)) (lkC F (.slice p n c) ⟨#[]⟩ ⟨#[]⟩ (.slice none 0 0) (.slice none 0 0))
    simpa [lkC] using this
  have KL := Lib.hid (rq_line (B + 2) F p n c W3 hA3 hF (hm.below hb3 h0) (by omega))
  obtain ⟨o, ho⟩ : ∃ z, Rq.line F.data.toList = z := ⟨_, rfl⟩
  rw [ho] at KL
  have KR := Lib.hid (fun W => rq_rules W)
  have HV := Lib.hid hv
  have HL := Lib.hid hl
  have HF := Lib.hid hf
  have HJ := Lib.hid hj
  have HB := Lib.hid hB
  have HW3 := Lib.hid hW3
  have HB3 := Lib.hid hb3
  have HZ3 := Lib.hid hz3
  have HE3 := Lib.hid hE3
  have HO := Lib.hid ho
  have HFZ := Lib.hid hF
  have HZT := Lib.hid (show Rq.status F.data.toList fs = Rq.sto o fs by rw [← ho]; rfl)
  unfold LkO
  rw [ho]
  obtain ⟨st, hst⟩ : ∃ z, Rq.status F.data.toList fs = z := ⟨_, rfl⟩
  rw [hst] at HZT ⊢
  clear hv hl hf hF hj hm hB hW3 hb3 hz3 hE3 hA3 ho hst h0
  go_enter_defers Tryz.func26, Tryz.ntmps26
  go_wp2_with fail
  rw [HW3.out, HB.out]
  refine KL.out.mono ?_
  rintro e w4 ⟨hb4, hln⟩
  have HE4 := Lib.hid ((hb4.block _ (by omega)).trans HE3.out : Boxed w4 (B + 1) 3 (.int .i64 0))
  have HB4 := Lib.hid (show Below w.heap.size w w4 from HB3.out.trans (hb4.mono (by rw [HB.out]; omega)))
  have HZ4 := Lib.hid (show B + 3 ≤ w4.heap.size from HZ3.out ▸ hb4.size)
  clear hb4
  cases o with
  | none =>
    have hln : e = _ := hln
    subst hln
    have HS := Lib.hid (show st = 400 from HZT.out)
    refine rq_door _ (B + 2) (B + 1) w4 400 _ rfl rfl rfl HE4.out ⟨⟨_, by rw [HS.out], fun h => absurd (HS.out.symm.trans h) (by decide)⟩, HB4.out.setCell (p := ⟨B + 1, 0, none⟩) (by rw [HB.out]; exact Nat.le_succ _) _⟩
  | some l =>
    obtain ⟨rfl, p1, q1, n1, c1, k1, d1, hA4, hts, hps⟩ := hln
    have HA4 := Lib.hid hA4
    have HTS := Lib.hid hts
    have HPS := Lib.hid hps
    have HST := Lib.hid (show st = Rq.stN l fs 7 0 from HZT.out.trans (Rq.stat3_is fs (Rq.line_inv HO.out).1))
    clear hA4 hts hps
    go_wp2_with fail
    refine (KR.out _).mono ?_
    rintro e w5 ⟨C, D, rfl, hC, hD, hb5⟩
    have HB5 := Lib.hid (HB4.out.trans (hb5.mono HB4.out.size))
    have hA5 := (hb5.block _ (Array.getElem?_eq_some_iff.1 HA4.out).1).trans HA4.out
    have HLK := Lib.hid (show LkW w5 (B + 2) F (.slice p n c) fs ⟨l.1.toArray⟩ ⟨l.2.2.toArray⟩ (.slice p1 n1 c1) (.slice q1 k1 d1) from ⟨hA5, HV.out.below HB5.out, HL.out, HF.out⟩)
    have HE5 := Lib.hid (boxed_below HE4.out hb5)
    have HZ5 := Lib.hid (show B + 3 ≤ w5.heap.size from Nat.le_trans HZ4.out hb5.size)
    have HT5 := Lib.hid (HTS.out.below hb5)
    have HP5 := Lib.hid (HPS.out.belowW hb5)
    have HRU := Lib.hid (fun k hk => rq_rule (B + 2) C D F (.slice p n c) (.slice p1 n1 c1) fs l q1 k1 d1 w5 HLK.out (TS.of HT5.out.str)
      (by obtain ⟨_, t, h1, h2⟩ := Rq.line_inv HO.out
          have h3 := (Gt.tg_bound t).1
          rw [h1] at h3
          have h4 : F.data.toList.length = F.size := rfl
          have h5 := HFZ.out
          exact Nat.le_trans h3 (by omega))
      (by obtain ⟨_, t, h1, h2⟩ := Rq.line_inv HO.out
          have h3 := (Gt.tg_bound t).2.2.1
          rw [h1] at h3
          have h4 : F.data.toList.length = F.size := rfl
          have h5 := HFZ.out
          exact fun p hp => Nat.le_trans (h3 p hp) (by omega)) HJ.out hC hD k hk)
    clear hC hD hb5 hA5
    obtain ⟨ru, hru⟩ : ∃ z, ruC C D = z := ⟨_, rfl⟩
    rw [hru] at HRU ⊢
    clear hru
    go_wp2_with fail
    go_loopw [12] (fun i wr => ∃ k : Nat, k ≤ 7 ∧ i = .int .i64 (k : Int) ∧ Below w5.heap.size w5 wr ∧ st = Rq.stN l fs (7 - k) k) (fun i _ => (7 - intOf i).toNat)
    case atStart => exact ⟨0, by omega, rfl, Below.refl _ _, HST.out⟩
    case round =>
      obtain ⟨k, hk, rfl, hbr, hsk⟩ := hrel
      by_cases hlt : k < 7
      · obtain ⟨fid, cap, hix, eg, hc⟩ := HRU.out k hlt
        have hsn : st = if Rq.ruB l fs k = true then Rq.stN l fs (7 - (k + 1)) (k + 1) else Rq.ruN k := by
          rw [hsk, show 7 - k = (7 - (k + 1)) + 1 by omega]; rfl
        obtain ⟨b, hb⟩ : ∃ z, Rq.ruB l fs k = z := ⟨_, rfl⟩
        rw [hb] at hsn
        simp only [hb] at hc
        obtain ⟨sn, hsn'⟩ : ∃ z, Rq.ruN k = z := ⟨_, rfl⟩
        rw [hsn'] at hsn
        simp only [hsn'] at hix
        obtain ⟨W6, hW6⟩ : ∃ z, wr.alloc (.cells #[.int .i64 sn, .func (.func fid) #[] cap] 113) = z := ⟨_, rfl⟩
        obtain ⟨R, hR⟩ : ∃ z, wr.heap.size = z := ⟨_, rfl⟩
        have HR6 := Lib.hid (show W6.heap[R]? = some (.cells #[.int .i64 sn, .func (.func fid) #[] cap] 113 (0, 0)) by rw [← hW6, ← hR]; exact World.alloc_heap_new _ _)
        have HB6 := Lib.hid (show Below w5.heap.size w5 W6 by rw [← hW6]; exact hbr.alloc hbr.size _)
        have HC := Lib.hid hc
        have HSN := Lib.hid hsn
        have HS2 := Lib.hid (show sn ≠ 200 by rw [← hsn']; exact Rq.ruN_ne k)
        have HW6 := Lib.hid hW6
        have HRR := Lib.hid hR
        have hI : (k : Int) < 7 := by omega
        clear hbr hsk hc hb hsn' hsn hW6 hR
        go_wp2_with (simp only [hix])
        rw [HW6.out, HRR.out]
        refine region_slotsP (fun i => 15 + min i 6) (rlF (B + 2) R fid cap sn b) (fun _ => true) (by kernel_rfl) (by kernel_rfl) (fun i => by show 15 + min i 6 < _; simp; omega) (fun i j hi hj h => by have hi : i < 7 := hi; have hj : j < 7 := hj; omega) ?mono ?dst ?gu ?ng ?skip ?step ?done
        case mono =>
          intro i W W' v h hbw
          match i, h with
          | 0, h | 1, h | 2, h | 3, h | 4, h | 5, h => exact h
          | 6, h => exact h
          | n + 7, h => exact h.elim
        case dst =>
          intro i o ho
          match i, ho with
          | 0, ho | 1, ho | 2, ho | 3, ho | 4, ho | 5, ho | 6, ho => cases ho; rfl
          | n + 7, ho => exact absurd ho (by simp)
        case gu =>
          intro i o g b ho hgd W v hv
          match i, ho with
          | 0, ho => cases ho; cases hgd
          | 1, ho => cases ho; cases hgd
          | 2, ho => cases ho; cases hgd
          | 3, ho => cases ho; cases hgd
          | 4, ho => cases ho; cases hgd
          | 5, ho => cases ho; cases hgd
          | 6, ho => cases ho; cases hgd
          | n + 7, ho => exact absurd ho (by simp)
        case ng =>
          intro i o ho hgd
          match i, ho with
          | 0, ho => cases ho; first | rfl | cases hgd
          | 1, ho => cases ho; first | rfl | cases hgd
          | 2, ho => cases ho; first | rfl | cases hgd
          | 3, ho => cases ho; first | rfl | cases hgd
          | 4, ho => cases ho; first | rfl | cases hgd
          | 5, ho => cases ho; first | rfl | cases hgd
          | 6, ho => cases ho; first | rfl | cases hgd
          | n + 7, ho => exact absurd ho (by simp)
        case skip =>
          intro i W hi hsel
          match i, hi, hsel with
          | 0, _, hsel => first | exact absurd hsel (by decide) | rfl
          | 1, _, hsel => first | exact absurd hsel (by decide) | rfl
          | 2, _, hsel => first | exact absurd hsel (by decide) | rfl
          | 3, _, hsel => first | exact absurd hsel (by decide) | rfl
          | 4, _, hsel => first | exact absurd hsel (by decide) | rfl
          | 5, _, hsel => first | exact absurd hsel (by decide) | rfl
          | 6, _, hsel => first | exact absurd hsel (by decide) | rfl
          | n + 7, hi, _ => exact absurd hi (by simp)
        case step =>
          intro f a' W i o ho hsel hpre hbel hrest hdf
          match i, ho, hsel with
          | 0, ho, _ =>
            cases ho
            have q5 : a'.tmps.getD 5 undef = .pointer (some ⟨R, 0, none⟩) := (hrest 5 (by intro i hi; have hi : i < 7 := hi; show 15 + min i 6 ≠ _; omega))
            have e5 := rg_ev q5
            exact rg_same (.pointer (some ⟨R, 1, none⟩)) (by unfold Oper.wp execOp; go_simp; all_goals ((try simp only [e5]); (try go_simp); (try rw [if_pos (by omega)]); (try rw [if_neg (by omega)]); first | done | rfl | exact ⟨rfl, rfl⟩ | trivial)) rfl
          | 1, ho, _ =>
            cases ho
            have q15 : a'.tmps.getD 15 undef = .pointer (some ⟨R, 1, none⟩) := (hpre { on := 0, ground := .data } (by simp) rfl)
            have c1 : W.cell? ⟨R, 1, none⟩ = some (.func (.func fid) #[] cap) := (hbel.cell (p := ⟨R, 1, none⟩) (Array.getElem?_eq_some_iff.1 HR6.out).1).trans (by simp [World.cell?, HR6.out])
            have e15 := rg_ev q15
            exact rg_same (.func (.func fid) #[] cap) (by unfold Oper.wp execOp; go_simp; all_goals ((try simp only [e15]); (try go_simp); (try rw [if_pos (by omega)]); (try rw [if_neg (by omega)]); first | done | rfl | exact ⟨rfl, rfl⟩ | trivial)) rfl
          | 2, ho, _ =>
            cases ho
            have q2 : a'.tmps.getD 2 undef = .pointer (some ⟨B + 2, 0, none⟩) := (hrest 2 (by intro i hi; have hi : i < 7 := hi; show 15 + min i 6 ≠ _; omega))
            have e2 := rg_ev q2
            exact rg_same (.pointer (some ⟨B + 2, 0, none⟩)) (by unfold Oper.wp execOp; go_simp; all_goals ((try simp only [e2]); (try go_simp); (try rw [if_pos (by omega)]); (try rw [if_neg (by omega)]); first | done | rfl | exact ⟨rfl, rfl⟩ | trivial)) rfl
          | 3, ho, _ =>
            cases ho
            have q16 : a'.tmps.getD 16 undef = .func (.func fid) #[] cap := (hpre { on := 1, ground := .data } (by simp) rfl)
            have q17 : a'.tmps.getD 17 undef = .pointer (some ⟨B + 2, 0, none⟩) := (hpre { on := 2, ground := .data } (by simp) rfl)
            exact rg_callV 16 17 fid cap _ _ _ rfl q16 q17 eg (HC.out W (HB6.out.trans (hbel.mono HB6.out.size))) (fun e w' h => ⟨_, h.1, _, rfl, rfl, h.2⟩)
          | 4, ho, _ =>
            cases ho
            have q5 : a'.tmps.getD 5 undef = .pointer (some ⟨R, 0, none⟩) := (hrest 5 (by intro i hi; have hi : i < 7 := hi; show 15 + min i 6 ≠ _; omega))
            have e5 := rg_ev q5
            exact rg_same (.pointer (some ⟨R, 0, none⟩)) (by unfold Oper.wp execOp; go_simp; all_goals ((try simp only [e5]); (try go_simp); (try rw [if_pos (by omega)]); (try rw [if_neg (by omega)]); first | done | rfl | exact ⟨rfl, rfl⟩ | trivial)) rfl
          | 5, ho, _ =>
            cases ho
            have q19 : a'.tmps.getD 19 undef = .pointer (some ⟨R, 0, none⟩) := (hpre { on := 4, ground := .data } (by simp) rfl)
            have c0 : W.cell? ⟨R, 0, none⟩ = some (.int .i64 sn) := (hbel.cell (p := ⟨R, 0, none⟩) (Array.getElem?_eq_some_iff.1 HR6.out).1).trans (by simp [World.cell?, HR6.out])
            have e19 := rg_ev q19
            exact rg_same (.int .i64 sn) (by unfold Oper.wp execOp; go_simp; all_goals ((try simp only [e19]); (try go_simp); (try rw [if_pos (by omega)]); (try rw [if_neg (by omega)]); first | done | rfl | exact ⟨rfl, rfl⟩ | trivial)) rfl
          | 6, ho, _ =>
            cases ho
            have q18 : a'.tmps.getD 18 undef = .bool b := (hpre { on := 3, ground := .data } (by simp) rfl)
            have q20 : a'.tmps.getD 20 undef = .int .i64 sn := (hpre { on := 5, ground := .data } (by simp) rfl)
            refine rg_callP2 18 20 73 _ _ _ _ rfl q18 q20 (enters_of Tryz.func73 (by kernel_rfl) rfl) (rq_mustB b sn W) ?_
            rintro e w' ⟨he, rfl⟩
            cases b with
            | true =>
              rw [if_pos rfl] at he
              exact .inl ⟨_, he, _, rfl, ⟨rfl, rfl⟩, Below.refl _ _⟩
            | false =>
              rw [if_neg (by decide)] at he
              have hs : st = sn := HSN.out
              refine .inr ⟨_, he, rq_door _ (B + 2) (B + 1) w' sn _ hdf (hrest 2 (by intro i hi; show 15 + min i 6 ≠ _; omega)) (hrest 3 (by intro i hi; show 15 + min i 6 ≠ _; omega)) (boxed_below HE5.out (HB6.out.trans (hbel.mono HB6.out.size))) ⟨⟨_, by rw [hs], fun h => ?_⟩, ?_⟩⟩
              · exact absurd (hs.symm.trans h) HS2.out
              · exact ((HB5.out.trans ((HB6.out.trans (hbel.mono HB6.out.size)).mono HB5.out.size)).setCell (p := ⟨B + 1, 0, none⟩) (by rw [HB.out]; exact Nat.le_succ _) _)
          | n + 7, ho, _ => exact absurd ho (by simp)
        case done =>
          intro vs W hbel hvs
          have v0 : vs 0 = .pointer (some ⟨R, 1, none⟩) := hvs 0 (by decide)
          have v1 : vs 1 = .func (.func fid) #[] cap := hvs 1 (by decide)
          have v2 : vs 2 = .pointer (some ⟨B + 2, 0, none⟩) := hvs 2 (by decide)
          have v3 : vs 3 = .bool b := hvs 3 (by decide)
          have v4 : vs 4 = .pointer (some ⟨R, 0, none⟩) := hvs 4 (by decide)
          have v5 : vs 5 = .int .i64 sn := hvs 5 (by decide)
          obtain ⟨hbt, v6⟩ : b = true ∧ vs 6 = .tuple #[] := hvs 6 (by decide)
          have HBR := Lib.hid hbel
          simp only [fillN, List.size_toArray, List.length_cons, List.length_nil, Nat.reduceAdd, show List.range 7 = [0, 1, 2, 3, 4, 5, 6] from rfl, List.foldl_cons, List.foldl_nil, show 15 + min 0 6 = 15 from rfl, show 15 + min 1 6 = 16 from rfl, show 15 + min 2 6 = 17 from rfl, show 15 + min 3 6 = 18 from rfl, show 15 + min 4 6 = 19 from rfl, show 15 + min 5 6 = 20 from rfl, show 15 + min 6 6 = 21 from rfl, v0, v1, v2, v3, v4, v5, v6]
          clear v0 v1 v2 v3 v4 v5 v6 hvs hbel
          go_simp
          subst hbt
          have HN := Lib.hid (show st = Rq.stN l fs (7 - (k + 1)) (k + 1) from HSN.out)
          clear eg hix
          go_wp2_with fail
          go_roundw
          case rel => exact ⟨k + 1, by omega, by go_num, HB6.out.trans (HBR.out.mono HB6.out.size), HN.out⟩
          case measure => simp [intOf]; omega
      · have h7 : k = 7 := by omega
        have HSK := Lib.hid (show st = 200 by rw [hsk, h7]; rfl)
        have hI : ¬ ((k : Int) < 7) := by omega
        have HBR := Lib.hid hbr
        have he := boxed_below HE5.out hbr
        have ce := he.cell
        have ze := he.frozen
        have HE6 := Lib.hid he
        have HT6 := Lib.hid ((HT5.out.below hbr).keep (w' := wr.setCell ⟨B + 1, 0, none⟩ (.int .i64 200)) (t := 3) he (by decide) fun j hj => Below.heap_setCell _ _ _ _ (by show j ≠ B + 1; exact hj))
        have HP6 := Lib.hid ((HP5.out.belowW hbr).keep (w' := wr.setCell ⟨B + 1, 0, none⟩ (.int .i64 200)) (t := 3) he (by decide) fun j hj => Below.heap_setCell _ _ _ _ (by show j ≠ B + 1; exact hj))
        have HBF := Lib.hid (show Below w.heap.size w (wr.setCell ⟨B + 1, 0, none⟩ (.int .i64 200)) from (HB5.out.trans (hbr.mono HB5.out.size)).setCell (p := ⟨B + 1, 0, none⟩) (by rw [HB.out]; exact Nat.le_succ _) _)
        have HAF := Lib.hid ((Below.heap_setCell wr ⟨B + 1, 0, none⟩ (.int .i64 200) (B + 2) (by show B + 2 ≠ B + 1; omega)).trans ((hbr.block _ (Array.getElem?_eq_some_iff.1 HLK.out.c).1).trans HLK.out.c))
        have cf := (Boxed.set (v := .int .i64 0) (.int .i64 200) he).cell
        clear hsk h7 hbr he hlt
        go_wp2_with fail
        obtain ⟨X, hX⟩ : ∃ X, wr.setCell ⟨B + 1, 0, none⟩ (.int .i64 200) = X := ⟨_, rfl⟩
        rw [hX] at cf HT6 HP6 HBF HAF ⊢
        clear hX ce ze
        refine leaves_cons (f := 70) (args := #[.pointer (some ⟨B + 1, 0, none⟩)]) (by simp) (by simp [go_sem]) ?_
        refine (rq_caughtD_idle _ _).mono ?_
        rintro e u' w'' ⟨rfl, rfl, rfl⟩
        simp [Leaves, settle, results, Tryz.results26, go_sem, cf]
        exact ⟨⟨B + 2, ⟨rfl, HSK.out.symm⟩, fun _ => ⟨l.1, l.2.1.1, l.2.1.2, l.2.2, rfl, p1, n1, c1, q1, k1, d1, ⟨HAF.out, HV.out.below HBF.out, HL.out, HF.out⟩, HT6.out, HP6.out⟩⟩, HBF.out⟩
end Go.Proofs.YtfacmnooklljnaaGreatDoor

/- response: status, lone. No conditions but those that each law states. -/
namespace Go.Proofs.YtfacmnooklljnaaGreatDoor
set_option linter.unusedVariables false
set_option linter.unusedSimpArgs false
open Go.RowKit Go.Shelf
set_option maxHeartbeats 4000000
set_option maxRecDepth 100000
namespace Rs
theorem rd_step {c : UInt8} {l : List UInt8} {n M : Int} (h0 : 0 ≤ M) (hc : Dp.digV c.toNat < 10) (hc0 : 0 ≤ Dp.digV c.toNat) (hn : 0 ≤ n) (h : ∀ m, 0 ≤ m → m ≤ n * 10 + 9 → 0 ≤ (Dp.rd 10 l m).1 ∧ (Dp.rd 10 l m).1 ≤ M) : 0 ≤ (Dp.rd 10 (c :: l) n).1 ∧ (Dp.rd 10 (c :: l) n).1 ≤ M := by
  simp only [Dp.rd]
  by_cases h1 : Dp.mulE n 10 ≠ 0
  · rw [if_pos h1]; exact ⟨Int.le_refl _, h0⟩
  · rw [if_neg h1]
    by_cases h2 : Dp.addE (Dp.mulN n 10) (Dp.digV c.toNat) ≠ 0
    · rw [if_pos h2]; exact ⟨Int.le_refl _, h0⟩
    · rw [if_neg h2]
      refine h _ ?_ ?_
      · unfold Dp.addN Dp.mulN; split <;> split <;> omega
      · unfold Dp.addN Dp.mulN; split <;> split <;> omega
theorem num_three {l : List UInt8} (h : l.length = 3) : 0 ≤ Dp.numN 10 l ∧ Dp.numN 10 l ≤ 999 := by
  match l, h with
  | [a, b, c], _ =>
    unfold Dp.numN
    by_cases hd : [a, b, c] = [] ∨ Dp.allD 10 [a, b, c] = false
    · rw [if_pos hd]; omega
    · rw [if_neg hd]
      have ha : Dp.allD 10 [a, b, c] = true := by
        cases e : Dp.allD 10 [a, b, c] with
        | true => rfl
        | false => exact absurd (.inr e) hd
      simp [Dp.allD] at ha
      obtain ⟨h1, h2, h3⟩ := ha
      have l1 := Dp.digV_lo (a.toNat : Int)
      have l2 := Dp.digV_lo (b.toNat : Int)
      have l3 := Dp.digV_lo (c.toNat : Int)
      refine rd_step (by omega) h1 l1.1 (by omega) (fun m m0 m1 => rd_step (by omega) h2 l2.1 m0 (fun k k0 k1 => rd_step (by omega) h3 l3.1 k0 (fun j j0 j1 => ?_)))
      show 0 ≤ j ∧ j ≤ 999
      omega
end Rs
end Go.Proofs.YtfacmnooklljnaaGreatDoor

/- response: what Of tells, plainly; the clearing of what it tells. No conditions but those that each law states. -/
namespace Go.Proofs.YtfacmnooklljnaaGreatDoor
set_option linter.unusedVariables false
set_option linter.unusedSimpArgs false
open Go.RowKit Go.Shelf
set_option maxHeartbeats 4000000
set_option maxRecDepth 100000
namespace Rs
/-- a reply: its status; whether it is an event stream, chunked, sized; its length -/
abbrev Rep := Int × Bool × Bool × Bool × Int
/-- a name's values, joined -/
def joined (nm : List UInt8) (fs : List Hp.Hd) : List UInt8 := Lib.join (Hg.vals nm fs) [44, 32]
def isEv (fs : List Hp.Hd) : Bool := decide ((Hg.vals Hp.ct fs).length = 1) && (Tp.lower (Tp.cut (joined Hp.ct fs) 59).1 == Hp.es)
def ofK (st : Int) (fs : List Hp.Hd) : Option Rep :=
  if 0 < (Hg.vals Hp.te fs).length then
    (if (Hg.vals Hp.cl fs).length = 0 ∧ (Tp.items (joined Hp.te fs)).length = 1 ∧ Tp.lower ((Tp.items (joined Hp.te fs)).getD 0 []) = Hp.ch then some (st, isEv fs, true, false, 0) else none)
  else if 0 < (Hg.vals Hp.cl fs).length then
    (if (Hg.vals Hp.cl fs).length = 1 ∧ Dp.numE 10 (joined Hp.cl fs) = 0 then some (st, isEv fs, false, true, Dp.numN 10 (joined Hp.cl fs)) else none)
  else some (st, isEv fs, false, false, 0)
def of (F : List UInt8) (fs : List Hp.Hd) : Option Rep := (status F).bind fun st => ofK st fs
end Rs
/-- a reply's cells, stored -/
def stR (w : World) (R : Nat) (r : Rs.Rep) : World := ((((w.setCell ⟨R, 0, none⟩ (.int .i64 r.1)).setCell ⟨R, 1, none⟩ (.bool r.2.1)).setCell ⟨R, 2, none⟩ (.bool r.2.2.1)).setCell ⟨R, 3, none⟩ (.bool r.2.2.2.1)).setCell ⟨R, 4, none⟩ (.int .u64 r.2.2.2.2)
end Go.Proofs.YtfacmnooklljnaaGreatDoor

/- response: Of, of a head that may be. No conditions but those that each law states. -/
namespace Go.Proofs.YtfacmnooklljnaaGreatDoor
set_option linter.unusedVariables false
set_option linter.unusedSimpArgs false
open Go.RowKit Go.Shelf
set_option maxHeartbeats 8000000
set_option maxRecDepth 100000
end Go.Proofs.YtfacmnooklljnaaGreatDoor

/- response: Of's walk. No conditions but those that each law states. -/
namespace Go.Proofs.YtfacmnooklljnaaGreatDoor
set_option linter.unusedVariables false
set_option linter.unusedSimpArgs false
open Go.RowKit Go.Shelf
set_option maxHeartbeats 8000000
set_option maxRecDepth 100000
theorem Tp.trim_len (l : List UInt8) : (Tp.trim l).length ≤ l.length := by
  unfold Tp.trim Tp.trimR Tp.trimL
  rw [List.length_reverse]
  refine Nat.le_trans (List.dropWhile_sublist _).length_le ?_
  rw [List.length_reverse]
  exact (List.dropWhile_sublist _).length_le
theorem Tp.items_len {l p : List UInt8} (hp : p ∈ Tp.items l) : p.length ≤ l.length := by
  obtain ⟨r, hr, rfl⟩ := List.mem_map.1 (List.mem_filter.1 hp).1
  have h1 := Tp.parts_len l [] r hr
  exact Nat.le_trans (Tp.trim_len _) (by simpa using h1)
end Go.Proofs.YtfacmnooklljnaaGreatDoor

/- response: names, Name, the reference's; a number's text, both. No conditions but those that each law states. -/
namespace Go.Proofs.YtfacmnooklljnaaGreatDoor
set_option linter.unusedVariables false
set_option linter.unusedSimpArgs false
open Go.RowKit Go.Shelf
set_option maxHeartbeats 4000000
set_option maxRecDepth 100000
/-- what a kind is called -/
def Rs.name (k : Int) : Value := if k = 1 then .string ⟨#[115, 116, 114, 101, 97, 109]⟩ else if k = 2 then .string ⟨#[115, 116, 111, 112]⟩ else if k = 3 then .string ⟨#[97, 103, 97, 105, 110]⟩ else .string ⟨#[]⟩
end Go.Proofs.YtfacmnooklljnaaGreatDoor

/- response: the kit of heads put together; the reference's Same; num. No conditions but those that each law states. -/
namespace Go.Proofs.YtfacmnooklljnaaGreatDoor
set_option linter.unusedVariables false
set_option linter.unusedSimpArgs false
open Go.RowKit Go.Shelf
set_option maxHeartbeats 8000000
set_option maxRecDepth 100000
/-- headers' cells -/
def hds (l : List Hp.Hd) : List Value := l.flatMap fun p => [Hp.sx p.1, Hp.sx p.2]
theorem hds_snoc (l : List Hp.Hd) (p : Hp.Hd) : hds (l ++ [p]) = hds l ++ [Hp.sx p.1, Hp.sx p.2] := by unfold hds; rw [List.flatMap_append]; simp
theorem hds_get : ∀ (L : List Hp.Hd) (j : Nat), j < L.length → (hds L)[j * 2]? = some (Hp.sx (L.getD j ([], [])).1) ∧ (hds L)[j * 2 + 1]? = some (Hp.sx (L.getD j ([], [])).2)
  | p :: L, 0, _ => ⟨rfl, rfl⟩
  | p :: L, j + 1, h => by
    have := hds_get L j (by simpa using h)
    have e : hds (p :: L) = Hp.sx p.1 :: Hp.sx p.2 :: hds L := rfl
    rw [e, show (j + 1) * 2 = j * 2 + 1 + 1 by omega]
    simpa using this
theorem HS.own {w : World} {B : Nat} {v : Value} {fs : List Hp.Hd} (h : w.ownsRow B 59 2 v fs.length (hds fs)) : HS w v fs := by
  rcases h.2 with ⟨rfl, h0⟩ | ⟨g, cap, cur, rfl, hBg, hg, hnc, _, hcs, htk⟩
  · exact .inl ⟨none, 0, rfl, List.length_eq_zero_iff.1 h0⟩
  · refine .inr ⟨g, 0, cap, rfl, fun j hj => ?_⟩
    have hp := hds_get fs j hj
    rw [← htk] at hp
    rw [List.getElem?_take_of_lt (by omega), List.getElem?_take_of_lt (by omega)] at hp
    rw [Nat.zero_add]
    refine ⟨?_, ?_⟩
    · rw [← hp.1]; simp [World.cell?, hg]
    · rw [← hp.2]; simp [World.cell?, hg]
theorem heap_alloc_old' {w : World} {k : Nat} {x : Obj} (o : Obj) (h : w.heap[k]? = some x) : (w.alloc o).heap[k]? = some x := by
  rw [Below.heap_alloc _ _ _ (Array.getElem?_eq_some_iff.1 h).1]; exact h
theorem own_ne {w : World} {B n : Nat} {v : Value} {xs : List Value} (h : w.ownsRow B 59 2 v n xs) {k : Nat} {cs : Array Value} {t : TypeId} {fr : Nat × Nat} (hk : w.heap[k]? = some (.cells cs t fr)) (ht : t ≠ 59) : some k ≠ v.ownBlock := by
  rcases h.2 with ⟨rfl, h0⟩ | ⟨g, cap, cur, rfl, hBg, hg, hnc, _, hcs, htk⟩
  · intro e; cases e
  · intro e
    obtain rfl : k = g := by simpa [Value.ownBlock] using e
    rw [hk] at hg
    cases hg
    exact ht rfl
/-- a head that the reference puts together -/
def RSt (w0 : World) (A B : Nat) (F : ByteArray) (fs : List Hp.Hd) (w : World) : Prop := ∃ V, w.heap[A]? = some (.cells #[.string F, V] 25 (0, 0)) ∧ w.ownsRow B 59 2 V fs.length (hds fs) ∧ B ≤ w.heap.size ∧ w0.heap.size ≤ B ∧ w0.heap.size ≤ A ∧ Below w0.heap.size w0 w
theorem HS.cellsN {w : World} {p : Option Addr} {n c : Nat} {L : List Hp.Hd} (h : HS w (.slice p n c) L) (hn : L.length = n) {k : Nat} (hk : k < L.length) : ∃ b off, p = some ⟨b, off, none⟩ ∧ ∀ j, j < L.length → w.cell? ⟨b, off + j * 2, none⟩ = some (Hp.sx (L.getD j ([], [])).1) ∧ w.cell? ⟨b, off + j * 2 + 1, none⟩ = some (Hp.sx (L.getD j ([], [])).2) := h.cells hk
theorem hd_in (a b : ByteArray) (W : World) : (Op.equalIn 10000 59 (.agg #[.string a, .string b]) (.agg #[.string a, .string b])).run Tryz.prog W = .ok true W := by
  have u9 := Tryz.underlying9
  have hS : Tryz.prog.underlying 59 = some (.struct (Tryz.prog.fieldsOf 59)) := by kernel_rfl
  have hp : Tryz.prog.stoodInHeld 59 = false := by kernel_rfl
  rw [show (10000 : Nat) = 9999 + 1 from rfl, run_equalIn_agg W 9999 59 _ _ hS hp]
  simp only [Program.fieldsOf, Tryz.underlying59]
  go_simp
theorem hd_neq (a b : ByteArray) : ∀ W : World, (binOp .neq 59 (.agg #[.string a, .string b]) (.agg #[.string a, .string b])).run Tryz.prog W = .ok (.bool false) W := by
  intro W
  rw [run_neq_struct, hd_in]
  rfl
theorem rf_Same (F : List UInt8) (v1 v2 : Value) (fs : List Hp.Hd) (w : World) (h1 : HS w v1 fs) (h2 : HS w v2 fs) (hl : fs.length ≤ 1000) :
    Calls Tryz.prog 9 #[.agg #[Hp.sx F, v1], .agg #[Hp.sx F, v2]] w fun e w' => e = .returned (.bool true) ∧ Below w.heap.size w w' := by
  obtain ⟨p1, c1, rfl⟩ := h1.slice
  obtain ⟨p2, c2, rfl⟩ := h2.slice
  obtain ⟨fb, hfb⟩ : ∃ z : ByteArray, (⟨F.toArray⟩ : ByteArray) = z := ⟨_, rfl⟩
  unfold Hp.sx
  rw [hfb]
  obtain ⟨n, hn⟩ : ∃ n, fs.length = n := ⟨_, rfl⟩
  obtain ⟨W2, hW2⟩ : ∃ z, (w.alloc (.cells #[.string fb, .slice p1 n c1] 25)).alloc (.cells #[.string fb, .slice p2 n c2] 25) = z := ⟨_, rfl⟩
  have hb : Below w.heap.size w W2 := by rw [← hW2]; exact ((Below.refl _ _).alloc (Nat.le_refl _) _).alloc (by simp) _
  have hA : W2.heap[w.heap.size]? = some (.cells #[.string fb, .slice p1 n c1] 25 (0, 0)) := by
    rw [← hW2, Below.heap_alloc _ _ _ (by simp)]; exact World.alloc_heap_new _ _
  have hB : W2.heap[w.heap.size + 1]? = some (.cells #[.string fb, .slice p2 n c2] 25 (0, 0)) := by
    have h := World.alloc_heap_new (w.alloc (.cells #[.string fb, .slice p1 n c1] 25)) (.cells #[.string fb, .slice p2 n c2] 25)
    rw [hW2] at h
    simpa using h
  have a0 : W2.cell? ⟨w.heap.size, 0, none⟩ = some (.string fb) := by simp [World.cell?, hA]
  have a1 : W2.cell? ⟨w.heap.size, 1, none⟩ = some (.slice p1 n c1) := by simp [World.cell?, hA]
  have b0 : W2.cell? ⟨w.heap.size + 1, 0, none⟩ = some (.string fb) := by simp [World.cell?, hB]
  have b1 : W2.cell? ⟨w.heap.size + 1, 1, none⟩ = some (.slice p2 n c2) := by simp [World.cell?, hB]
  have HB := Lib.hid hb
  have HW2 := Lib.hid hW2
  rw [hn] at h1 h2
  have H1 := Lib.hid (h1.below hb)
  have H2 := Lib.hid (h2.below hb)
  have HN := Lib.hid hn
  have hq : (fb.toList != fb.toList) = false := by simp
  rw [hn] at hl ⊢
  clear hb hA hB hW2 h1 h2 hn hfb
  go_enter Tryz.func9, Tryz.ntmps9
  go_upto_region 1 with (fail)
  rw [HW2.out]
  go_wp2_with fail
  go_loopw [5] (fun i wr => ∃ k : Nat, k ≤ n ∧ i = .int .i64 k ∧ Below W2.heap.size W2 wr) (fun i _ => n - (intOf i).toNat)
  case atStart => exact ⟨0, Nat.zero_le _, rfl, Below.refl _ _⟩
  case round =>
    obtain ⟨k, hk, rfl, hbr⟩ := hrel
    have HBR := Lib.hid hbr
    have A1 := cell_below hbr a1
    have B1 := cell_below hbr b1
    clear hbr a0 a1 b0 b1
    by_cases hlt : k < n
    · have hlt2 : k < fs.length := by rw [HN.out]; exact hlt
      obtain ⟨b1', o1, rfl, hc1⟩ := (H1.out.below HBR.out).cellsN HN.out hlt2
      obtain ⟨b2', o2, rfl, hc2⟩ := (H2.out.below HBR.out).cellsN HN.out hlt2
      obtain ⟨x0, x1⟩ := hc1 k hlt2
      obtain ⟨z0, z1⟩ := hc2 k hlt2
      obtain ⟨⟨xn, xv⟩, hq⟩ : ∃ q, fs.getD k ([], []) = q := ⟨_, rfl⟩
      rw [hq] at x0 x1 z0 z1
      unfold Hp.sx at x0 x1 z0 z1
      obtain ⟨nb, hnb⟩ : ∃ z : ByteArray, (⟨xn.toArray⟩ : ByteArray) = z := ⟨_, rfl⟩
      obtain ⟨vb, hvb⟩ : ∃ z : ByteArray, (⟨xv.toArray⟩ : ByteArray) = z := ⟨_, rfl⟩
      simp only [hnb, hvb] at x0 x1 z0 z1
      have HNE := Lib.hid (hd_neq nb vb)
      have hne := HNE.out
      clear hc1 hc2 hq hnb hvb
      go_upto_region 6 with (fail)
      go_region
      go_wp2_with fail
      go_roundw
      case rel => exact ⟨k + 1, hlt, by go_num, HBR.out.trans ⟨rfl, rfl, rfl, Nat.le_refl _, fun _ _ => rfl⟩⟩
      case measure => simp [intOf]; omega
    · obtain rfl : k = n := by omega
      go_wp2_with fail
      go_ret
      exact ⟨rfl, HB.out.trans (HBR.out.mono HB.out.size)⟩
end Go.Proofs.YtfacmnooklljnaaGreatDoor

/- The reference's heads: Right, of any head. -/
namespace Go.Proofs.YtfacmnooklljnaaGreatDoor
set_option linter.unusedVariables false
set_option linter.unusedSimpArgs false
open Go.RowKit Go.Shelf
set_option maxHeartbeats 8000000
set_option maxRecDepth 100000
namespace Hr
def fldB (f : Hp.Hd) : Bool := Tp.isTok f.1 && (Tp.lower f.1 == f.1) && Tp.isVal f.2
/-- may a head be? -/
def okB (F : List UInt8) (fs : List Hp.Hd) : Bool := (match F with | [] => false | c :: _ => !(decide ((c.toNat : Int) = 9) || decide ((c.toNat : Int) = 32))) && Tp.isVal (120 :: F ++ [120]) && fs.all fldB
theorem hok_of {F : List UInt8} {fs : List Hp.Hd} (h : okB F fs = true) : Hp.HOk F fs := by
  unfold okB at h
  rw [Bool.and_eq_true, Bool.and_eq_true, List.all_eq_true] at h
  obtain ⟨⟨h1, h2⟩, h3⟩ := h
  match F, h1 with
  | c :: l, h1 =>
    refine ⟨by simp, ?_, h2, fun f hf => ?_⟩
    · show Tp.trim [c] ≠ []
      simp at h1
      have hb : Tp.blankB c = false := by
        unfold Tp.blankB Tp.blank
        simp
        omega
      unfold Tp.trim
      rw [Hp.trimL_no hb, show [c] = [] ++ [c] from rfl, Hp.trimR_no hb]
      simp
    · have := h3 f hf
      unfold fldB at this
      simp at this
      exact ⟨this.1.1, this.1.2, this.2⟩
end Hr
def rrA (C : Nat) (nb vb lb : ByteArray) (q3 : Bool) : Nat → World → Value → Prop
  | 0, _, v => v = .pointer (some ⟨C, 0, none⟩)
  | 1, _, v => v = .string nb
  | 2, _, v => v = .bool false
  | 3, _, v => v = .bool true
  | 4, _, v => v = .bool true
  | 5, _, v => v = undef
  | 6, _, v => v = undef
  | 7, _, v => v = undef
  | 8, _, v => v = undef
  | 9, _, v => v = undef
  | 10, _, v => v = undef
  | 11, _, v => v = .bool true
  | 12, _, v => v = .bool true
  | 13, _, v => v = undef
  | 14, _, v => v = undef
  | 15, _, v => v = undef
  | 16, _, v => v = undef
  | 17, _, v => v = .bool true
  | _, _, _ => False
def rrB (C : Nat) (nb vb lb : ByteArray) (q3 : Bool) : Nat → World → Value → Prop
  | 0, _, v => v = .pointer (some ⟨C, 0, none⟩)
  | 1, _, v => v = .string nb
  | 2, _, v => v = .bool true
  | 3, _, v => v = .bool false
  | 4, _, v => v = .bool false
  | 5, _, v => v = .pointer (some ⟨C, 0, none⟩)
  | 6, _, v => v = .string nb
  | 7, _, v => v = .string lb
  | 8, _, v => v = .pointer (some ⟨C, 0, none⟩)
  | 9, _, v => v = .string nb
  | 10, _, v => v = .bool true
  | 11, _, v => v = .bool true
  | 12, _, v => v = .bool true
  | 13, _, v => v = undef
  | 14, _, v => v = undef
  | 15, _, v => v = undef
  | 16, _, v => v = undef
  | 17, _, v => v = .bool true
  | _, _, _ => False
def rrC (C : Nat) (nb vb lb : ByteArray) (q3 : Bool) : Nat → World → Value → Prop
  | 0, _, v => v = .pointer (some ⟨C, 0, none⟩)
  | 1, _, v => v = .string nb
  | 2, _, v => v = .bool true
  | 3, _, v => v = .bool false
  | 4, _, v => v = .bool false
  | 5, _, v => v = .pointer (some ⟨C, 0, none⟩)
  | 6, _, v => v = .string nb
  | 7, _, v => v = .string lb
  | 8, _, v => v = .pointer (some ⟨C, 0, none⟩)
  | 9, _, v => v = .string nb
  | 10, _, v => v = .bool false
  | 11, _, v => v = .bool false
  | 12, _, v => v = .bool false
  | 13, _, v => v = .pointer (some ⟨C, 1, none⟩)
  | 14, _, v => v = .string vb
  | 15, _, v => v = .bool q3
  | 16, _, v => v = .bool (!q3)
  | 17, _, v => v = .bool (!q3)
  | _, _, _ => False
theorem rf_Right (F : List UInt8) (V : Value) (fs : List Hp.Hd) (w : World) (hv : HS w V fs) (hF : F.length ≤ 100000) (hl : fs.length ≤ 1000) (hs : ∀ f ∈ fs, f.1.length ≤ 100000 ∧ f.2.length ≤ 100000) :
    Calls Tryz.prog 12 #[.agg #[Hp.sx F, V]] w fun e w' => e = .returned (.bool (Hr.okB F fs)) ∧ Below w.heap.size w w' := by
  obtain ⟨p, c, rfl⟩ := hv.slice
  obtain ⟨N, hN⟩ : ∃ N, fs.length = N := ⟨_, rfl⟩
  rw [hN] at hv hl ⊢
  unfold Hp.sx
  obtain ⟨fb, hfb⟩ : ∃ z : ByteArray, (⟨F.toArray⟩ : ByteArray) = z := ⟨_, rfl⟩
  rw [hfb]
  have hfs : fb.size ≤ 100000 := by rw [← hfb]; exact hF
  obtain ⟨H, hH⟩ : ∃ H, w.heap.size = H := ⟨_, rfl⟩
  obtain ⟨W1, hW1⟩ : ∃ Z, w.alloc (.cells #[.string fb, .slice p N c] 25) = Z := ⟨_, rfl⟩
  have HB1 := Lib.hid (show Below H w W1 by rw [← hW1, ← hH]; exact (Below.refl _ _).alloc (Nat.le_refl _) _)
  have HG1 := Lib.hid (show W1.heap[H]? = some (.cells #[.string fb, .slice p N c] 25 (0, 0)) by rw [← hW1, ← hH]; exact World.alloc_heap_new _ _)
  have hc0 : W1.cell? ⟨H, 0, none⟩ = some (.string fb) := by simp [World.cell?, HG1.out]
  have HC0 := Lib.hid hc0
  have HV := Lib.hid hv
  have HW1 := Lib.hid hW1
  have HHH := Lib.hid hH
  have HNN := Lib.hid hN
  have HSZ := Lib.hid hs
  have HFB := Lib.hid hfb
  clear hv hs hN hfb hH hW1 hc0
  by_cases h0 : fb.size = 0
  · have hF0 : F = [] := by rw [← List.length_eq_zero_iff]; rw [← HFB.out] at h0; exact h0
    subst hF0
    have hf0 : fb = ⟨#[]⟩ := HFB.out.symm
    subst hf0
    have hc0 := HC0.out
    go_enter Tryz.func12, Tryz.ntmps12
    go_wp2_with fail
    rw [HHH.out, HW1.out]
    go_wp2_with fail
    go_ret
    exact ⟨rfl, HB1.out⟩
  · have hpos : 0 < fb.size := Nat.pos_of_ne_zero h0
    obtain ⟨c0, F', hFF⟩ : ∃ c0 F', F = c0 :: F' := by
      match F, HFB.out with
      | [], h => exfalso; apply h0; rw [← h]; rfl
      | c0 :: F', _ => exact ⟨c0, F', rfl⟩
    have hc : (fb[0]).toNat = c0.toNat := by
      have h := HFB.out
      subst h
      subst hFF
      rfl
    have HOB := Lib.hid (show Hr.okB F fs = (!(decide (((fb[0]).toNat : Int) = 9) || decide (((fb[0]).toNat : Int) = 32)) && Tp.isVal (120 :: F ++ [120]) && fs.all Hr.fldB) by rw [hc, hFF]; rfl)
    have e0 : (fb.toList == []) = false := by
      rw [ByteArray.toList_eq, beq_eq_false_iff_ne]
      intro h
      apply h0
      show fb.data.size = 0
      rw [← Array.length_toList, h]; rfl
    clear hc hFF
    by_cases h9 : ((fb[0]).toNat : Int) = 9
    · have hc0 := HC0.out
      have HO2 := Lib.hid (show Hr.okB F fs = false by rw [HOB.out, decide_eq_true h9]; rfl)
      go_enter Tryz.func12, Tryz.ntmps12
      go_wp2_with fail
      rw [HHH.out, HW1.out]
      go_wp2_with fail
      go_ret
      exact ⟨by rw [HO2.out]; rfl, by first | exact HB1.out | (rw [HHH.out]; exact HB1.out)⟩
    · by_cases h32 : ((fb[0]).toNat : Int) = 32
      · have hc0 := HC0.out
        have HO2 := Lib.hid (show Hr.okB F fs = false by rw [HOB.out, decide_eq_true h32, Bool.or_true]; rfl)
        go_enter Tryz.func12, Tryz.ntmps12
        go_wp2_with fail
        rw [HHH.out, HW1.out]
        go_wp2_with fail
        go_ret
        exact ⟨by rw [HO2.out]; rfl, by first | exact HB1.out | (rw [HHH.out]; exact HB1.out)⟩
      · have HO2 := Lib.hid (show Hr.okB F fs = (Tp.isVal (120 :: F ++ [120]) && fs.all Hr.fldB) by rw [HOB.out, decide_eq_false h9, decide_eq_false h32]; rfl)
        have hc0 := HC0.out
        have K1 := rtk_value ((⟨#[120]⟩ : ByteArray) ++ fb ++ (⟨#[120]⟩ : ByteArray)) W1 (by rw [ByteArray.size_append, ByteArray.size_append]; have : (⟨#[120]⟩ : ByteArray).size = 1 := rfl; omega)
        rw [show ((⟨#[120]⟩ : ByteArray) ++ fb ++ (⟨#[120]⟩ : ByteArray)).data.toList = 120 :: F ++ [120] by rw [← HFB.out]; simp] at K1
        have K1 := Lib.hid K1
        obtain ⟨bv, hbv⟩ : ∃ z, Tp.isVal (120 :: F ++ [120]) = z := ⟨_, rfl⟩
        rw [hbv] at K1 HO2
        have h9b : (((fb[0]).toNat : Int) == 9) = false := by simpa using h9
        have h32b : (((fb[0]).toNat : Int) == 32) = false := by simpa using h32
        clear hbv HOB h9 h32
        go_enter Tryz.func12, Tryz.ntmps12
        go_wp2_with fail
        rw [HHH.out, HW1.out]
        go_wp2_with fail
        refine K1.out.mono ?_
        rintro e w1 ⟨rfl, hw⟩
        subst w1
        cases bv
        · go_wp2_with fail
          go_ret
          exact ⟨by rw [HO2.out]; rfl, by first | exact HB1.out | (rw [HHH.out]; exact HB1.out)⟩
        · go_wp2_with fail
          clear h9b h32b e0
          go_loopw [3] (fun i wr => ∃ k : Nat, k ≤ N ∧ i = .int .i64 k ∧ (fs.take k).all Hr.fldB = true ∧ wr.heap[H]? = some (.cells #[.string fb, .slice p N c] 25 (0, 0)) ∧ Below H w wr) (fun i _ => N - (intOf i).toNat)
          case atStart => exact ⟨0, Nat.zero_le _, rfl, rfl, HG1.out, HB1.out⟩
          case round =>
            obtain ⟨k, hk, rfl, hall, hg, hbl⟩ := hrel
            have HALL := Lib.hid hall
            have HG := Lib.hid hg
            have HBL := Lib.hid hbl
            have a1 : wr.cell? ⟨H, 1, none⟩ = some (.slice p N c) := by simp [World.cell?, hg]
            clear hall hg hbl
            by_cases hlt : k < N
            · have HTK := Lib.hid (show fs.take (k + 1) = fs.take k ++ [fs.getD k ([], [])] by
                rw [List.take_add_one, List.getElem?_eq_getElem (by rw [HNN.out]; exact hlt), List.getD_eq_getElem?_getD, List.getElem?_eq_getElem (by rw [HNN.out]; exact hlt)]; rfl)
              have HMM := Lib.hid (show fs.getD k ([], []) ∈ fs by rw [List.getD_eq_getElem?_getD, List.getElem?_eq_getElem (by rw [HNN.out]; exact hlt)]; exact List.getElem_mem _)
              have hszf := HSZ.out _ HMM.out
              have HVR := Lib.hid (HV.out.below (by rw [HHH.out]; exact HBL.out))
              obtain ⟨g1, o1, rfl, hc1⟩ := HVR.out.cells (k := k) (by rw [HNN.out]; exact hlt)
              obtain ⟨hx, hy⟩ := hc1 k (by rw [HNN.out]; exact hlt)
              obtain ⟨⟨n0, v0⟩, hf⟩ : ∃ x, fs.getD k ([], []) = x := ⟨_, rfl⟩
              rw [hf] at hx hy HTK HMM hszf
              simp only at hx hy hszf
              obtain ⟨nb, hnb⟩ : ∃ z : ByteArray, (⟨n0.toArray⟩ : ByteArray) = z := ⟨_, rfl⟩
              obtain ⟨vb, hvb⟩ : ∃ z : ByteArray, (⟨v0.toArray⟩ : ByteArray) = z := ⟨_, rfl⟩
              rw [show Hp.sx n0 = .string nb by rw [← hnb]; rfl] at hx
              rw [show Hp.sx v0 = .string vb by rw [← hvb]; rfl] at hy
              have hns : nb.size ≤ 100000 := by rw [← hnb]; exact hszf.1
              have hvs : vb.size ≤ 100000 := by rw [← hvb]; exact hszf.2
              have KT0 := fun W => rtk_token nb W (by omega)
              have KL0 := fun W => rtk_lower nb W (by omega)
              have KV0 := fun W => rtk_value vb W (by omega)
              rw [show nb.data.toList = n0 by rw [← hnb]] at KT0 KL0
              rw [show vb.data.toList = v0 by rw [← hvb]] at KV0
              obtain ⟨lb, hlb⟩ : ∃ z : ByteArray, (⟨(Tp.lower n0).toArray⟩ : ByteArray) = z := ⟨_, rfl⟩
              rw [hlb] at KL0
              have hq : (lb.toList == nb.toList) = (Tp.lower n0 == n0) := by
                rw [← hlb, ← hnb, ByteArray.toList_eq, ByteArray.toList_eq]
              obtain ⟨q1, hq1⟩ : ∃ z, Tp.isTok n0 = z := ⟨_, rfl⟩
              obtain ⟨q2, hq2⟩ : ∃ z, (Tp.lower n0 == n0) = z := ⟨_, rfl⟩
              obtain ⟨q3, hq3⟩ : ∃ z, Tp.isVal v0 = z := ⟨_, rfl⟩
              rw [hq1] at KT0
              rw [hq2] at hq
              rw [hq3] at KV0
              have HFB2 := Lib.hid (show Hr.fldB (n0, v0) = (q1 && q2 && q3) by rw [← hq1, ← hq2, ← hq3]; rfl)
              have KT := Lib.hid KT0
              have KL := Lib.hid KL0
              have KV := Lib.hid KV0
              have HQ := Lib.hid hq
              clear hc1 hf hszf hnb hvb KT0 KL0 KV0 hlb hq hq1 hq2 hq3 hns hvs
              go_upto_region 7 with (fail)
              obtain ⟨C, hC⟩ : ∃ z, wr.heap.size = z := ⟨_, rfl⟩
              obtain ⟨w0, hw0⟩ : ∃ z, wr.alloc (.cells #[.string nb, .string vb] 59) = z := ⟨_, rfl⟩
              have hb : Below wr.heap.size wr w0 := by rw [← hw0]; exact (Below.refl _ _).alloc (Nat.le_refl _) _
              have hh : w0.heap[C]? = some (.cells #[.string nb, .string vb] 59 (0, 0)) := by rw [← hw0, ← hC]; exact World.alloc_heap_new _ _
              have HCE := Lib.hid (show ∀ W, Below w0.heap.size w0 W → W.cell? ⟨C, 0, none⟩ = some (.string nb) ∧ W.cell? ⟨C, 1, none⟩ = some (.string vb) from fun W h => by
                have h2 := (h.block _ (Array.getElem?_eq_some_iff.1 hh).1).trans hh
                constructor <;> simp [World.cell?, h2])
              have HG := Lib.hid ((hb.block _ (Array.getElem?_eq_some_iff.1 HG.out).1).trans HG.out)
              have HB0 := Lib.hid (show Below H w w0 from HBL.out.trans (hb.mono (HHH.out ▸ HBL.out.size)))
              have HZ := Lib.hid (show H ≤ w0.heap.size from HHH.out ▸ HB0.out.size)
              rw [hC, hw0]
              clear hb hh hC hw0 a1 hx hy
              cases q1
              · refine region_slotsG (fun i => 40 + min i 17) (rrA C nb vb lb q3) (fun i => ([true, true, true, true, true, false, false, false, false, false, false, true, true, false, false, false, false, true] : List Bool).getD i true) (by kernel_rfl) (by kernel_rfl) (fun i => by show 40 + min i 17 < _; simp; omega) (fun i j hi hj h => by have hi : i < 18 := hi; have hj : j < 18 := hj; omega) ?mono ?dst ?gu ?ng ?skip ?step ?done
                case mono =>
                  intro i W W' v h hbw
                  match i, h with
                  | 0, h | 1, h | 2, h | 3, h | 4, h | 5, h | 6, h | 7, h | 8, h | 9, h | 10, h | 11, h | 12, h | 13, h | 14, h | 15, h | 16, h | 17, h => exact h
                  | n + 18, h => exact h.elim
                case dst =>
                  intro i o ho
                  match i, ho with
                  | 0, ho | 1, ho | 2, ho | 3, ho | 4, ho | 5, ho | 6, ho | 7, ho | 8, ho | 9, ho | 10, ho | 11, ho | 12, ho | 13, ho | 14, ho | 15, ho | 16, ho | 17, ho => cases ho; rfl
                  | n + 18, ho => exact absurd ho (by simp)
                case gu =>
                  intro i o g b ho hgd W v hv
                  match i, ho with
                  | 0, ho => cases ho; cases hgd
                  | 1, ho => cases ho; cases hgd
                  | 2, ho => cases ho; cases hgd
                  | 3, ho => cases ho; cases hgd
                  | 4, ho => cases ho; cases hgd
                  | 5, ho => cases ho; cases hgd; exact hv
                  | 6, ho => cases ho; cases hgd; exact hv
                  | 7, ho => cases ho; cases hgd; exact hv
                  | 8, ho => cases ho; cases hgd; exact hv
                  | 9, ho => cases ho; cases hgd; exact hv
                  | 10, ho => cases ho; cases hgd; exact hv
                  | 11, ho => cases ho; cases hgd
                  | 12, ho => cases ho; cases hgd
                  | 13, ho => cases ho; cases hgd; exact hv
                  | 14, ho => cases ho; cases hgd; exact hv
                  | 15, ho => cases ho; cases hgd; exact hv
                  | 16, ho => cases ho; cases hgd; exact hv
                  | 17, ho => cases ho; cases hgd
                  | n + 18, ho => exact absurd ho (by simp)
                case ng =>
                  intro i o ho hgd
                  match i, ho with
                  | 0, ho => cases ho; first | rfl | cases hgd
                  | 1, ho => cases ho; first | rfl | cases hgd
                  | 2, ho => cases ho; first | rfl | cases hgd
                  | 3, ho => cases ho; first | rfl | cases hgd
                  | 4, ho => cases ho; first | rfl | cases hgd
                  | 5, ho => cases ho; first | rfl | cases hgd
                  | 6, ho => cases ho; first | rfl | cases hgd
                  | 7, ho => cases ho; first | rfl | cases hgd
                  | 8, ho => cases ho; first | rfl | cases hgd
                  | 9, ho => cases ho; first | rfl | cases hgd
                  | 10, ho => cases ho; first | rfl | cases hgd
                  | 11, ho => cases ho; first | rfl | cases hgd
                  | 12, ho => cases ho; first | rfl | cases hgd
                  | 13, ho => cases ho; first | rfl | cases hgd
                  | 14, ho => cases ho; first | rfl | cases hgd
                  | 15, ho => cases ho; first | rfl | cases hgd
                  | 16, ho => cases ho; first | rfl | cases hgd
                  | 17, ho => cases ho; first | rfl | cases hgd
                  | n + 18, ho => exact absurd ho (by simp)
                case skip =>
                  intro i W hi hsel
                  match i, hi, hsel with
                  | 0, _, hsel => first | exact absurd hsel (by decide) | rfl
                  | 1, _, hsel => first | exact absurd hsel (by decide) | rfl
                  | 2, _, hsel => first | exact absurd hsel (by decide) | rfl
                  | 3, _, hsel => first | exact absurd hsel (by decide) | rfl
                  | 4, _, hsel => first | exact absurd hsel (by decide) | rfl
                  | 5, _, hsel => first | exact absurd hsel (by decide) | rfl
                  | 6, _, hsel => first | exact absurd hsel (by decide) | rfl
                  | 7, _, hsel => first | exact absurd hsel (by decide) | rfl
                  | 8, _, hsel => first | exact absurd hsel (by decide) | rfl
                  | 9, _, hsel => first | exact absurd hsel (by decide) | rfl
                  | 10, _, hsel => first | exact absurd hsel (by decide) | rfl
                  | 11, _, hsel => first | exact absurd hsel (by decide) | rfl
                  | 12, _, hsel => first | exact absurd hsel (by decide) | rfl
                  | 13, _, hsel => first | exact absurd hsel (by decide) | rfl
                  | 14, _, hsel => first | exact absurd hsel (by decide) | rfl
                  | 15, _, hsel => first | exact absurd hsel (by decide) | rfl
                  | 16, _, hsel => first | exact absurd hsel (by decide) | rfl
                  | 17, _, hsel => first | exact absurd hsel (by decide) | rfl
                  | n + 18, hi, _ => exact absurd hi (by simp)
                case step =>
                  intro f a' W i o ho hsel hpre hbel hrest
                  match i, ho, hsel with
                  | 0, ho, _ =>
                    cases ho
                    have q4 : a'.tmps.getD 4 undef = .pointer (some ⟨C, 0, none⟩) := (hrest 4 (by intro i hi; have hi : i < 18 := hi; show 40 + min i 17 ≠ _; omega))
                    have e4 := rg_ev q4
                    exact rg_same (.pointer (some ⟨C, 0, none⟩)) (by unfold Oper.wp execOp; go_simp; all_goals ((try simp only [e4]); (try go_simp); (try rw [if_pos (by omega)]); (try rw [if_neg (by omega)]); first | done | rfl | exact ⟨rfl, rfl⟩ | trivial)) rfl
                  | 1, ho, _ =>
                    cases ho
                    have q40 : a'.tmps.getD 40 undef = .pointer (some ⟨C, 0, none⟩) := (hpre { on := 0, ground := .data } (by simp) rfl)
                    have ce := HCE.out W hbel
                    have c0 := ce.1
                    have c1 := ce.2
                    have e40 := rg_ev q40
                    exact rg_same (.string nb) (by unfold Oper.wp execOp; go_simp; all_goals ((try simp only [e40]); (try go_simp); (try rw [if_pos (by omega)]); (try rw [if_neg (by omega)]); first | done | rfl | exact ⟨rfl, rfl⟩ | trivial)) rfl
                  | 2, ho, _ =>
                    cases ho
                    have q41 : a'.tmps.getD 41 undef = .string nb := (hpre { on := 1, ground := .data } (by simp) rfl)
                    exact rg_call 41 33 _ _ _ rfl q41 (enters_of Tryz.func33 (by kernel_rfl) rfl) (KT.out W) (fun e w' h => ⟨_, h.1, _, rfl, rfl, by rw [h.2]; exact Below.refl _ _⟩)
                  | 3, ho, _ =>
                    cases ho
                    have q42 : a'.tmps.getD 42 undef = .bool false := (hpre { on := 2, ground := .data } (by simp) rfl)
                    have e42 := rg_ev q42
                    exact rg_same (.bool true) (by unfold Oper.wp execOp; go_simp; all_goals ((try simp only [e42]); (try go_simp); (try rw [if_pos (by omega)]); (try rw [if_neg (by omega)]); first | done | rfl | exact ⟨rfl, rfl⟩ | trivial)) rfl
                  | 4, ho, _ =>
                    cases ho
                    have q43 : a'.tmps.getD 43 undef = .bool true := (hpre { on := 3, ground := .data } (by simp) rfl)
                    have e43 := rg_ev q43
                    exact rg_same (.bool true) (by unfold Oper.wp execOp; go_simp; all_goals ((try simp only [e43]); (try go_simp); (try rw [if_pos (by omega)]); (try rw [if_neg (by omega)]); first | done | rfl | exact ⟨rfl, rfl⟩ | trivial)) rfl
                  | 5, ho, hsel => exact absurd hsel (by decide)
                  | 6, ho, hsel => exact absurd hsel (by decide)
                  | 7, ho, hsel => exact absurd hsel (by decide)
                  | 8, ho, hsel => exact absurd hsel (by decide)
                  | 9, ho, hsel => exact absurd hsel (by decide)
                  | 10, ho, hsel => exact absurd hsel (by decide)
                  | 11, ho, _ =>
                    cases ho
                    have q44 : a'.tmps.getD 44 undef = .bool true := (hpre { on := 4, ground := .data } (by simp) rfl)
                    have q50 : a'.tmps.getD 50 undef = undef := (hpre { on := 10, ground := .data } (by simp) rfl)
                    have e44 := rg_ev q44
                    have e50 := rg_ev q50
                    exact rg_same (.bool true) (by unfold Oper.wp execOp; go_simp; all_goals ((try simp only [e44, e50]); (try go_simp); (try rw [if_pos (by omega)]); (try rw [if_neg (by omega)]); first | done | rfl | exact ⟨rfl, rfl⟩ | trivial)) rfl
                  | 12, ho, _ =>
                    cases ho
                    have q51 : a'.tmps.getD 51 undef = .bool true := (hpre { on := 11, ground := .data } (by simp) rfl)
                    have e51 := rg_ev q51
                    exact rg_same (.bool true) (by unfold Oper.wp execOp; go_simp; all_goals ((try simp only [e51]); (try go_simp); (try rw [if_pos (by omega)]); (try rw [if_neg (by omega)]); first | done | rfl | exact ⟨rfl, rfl⟩ | trivial)) rfl
                  | 13, ho, hsel => exact absurd hsel (by decide)
                  | 14, ho, hsel => exact absurd hsel (by decide)
                  | 15, ho, hsel => exact absurd hsel (by decide)
                  | 16, ho, hsel => exact absurd hsel (by decide)
                  | 17, ho, _ =>
                    cases ho
                    have q52 : a'.tmps.getD 52 undef = .bool true := (hpre { on := 12, ground := .data } (by simp) rfl)
                    have q56 : a'.tmps.getD 56 undef = undef := (hpre { on := 16, ground := .data } (by simp) rfl)
                    have e52 := rg_ev q52
                    have e56 := rg_ev q56
                    exact rg_same (.bool true) (by unfold Oper.wp execOp; go_simp; all_goals ((try simp only [e52, e56]); (try go_simp); (try rw [if_pos (by omega)]); (try rw [if_neg (by omega)]); first | done | rfl | exact ⟨rfl, rfl⟩ | trivial)) rfl
                  | n + 18, ho, _ => exact absurd ho (by simp)
                case done =>
                  intro vs W hbel hvs
                  have v0 : vs 0 = .pointer (some ⟨C, 0, none⟩) := hvs 0 (by decide)
                  have v1 : vs 1 = .string nb := hvs 1 (by decide)
                  have v2 : vs 2 = .bool false := hvs 2 (by decide)
                  have v3 : vs 3 = .bool true := hvs 3 (by decide)
                  have v4 : vs 4 = .bool true := hvs 4 (by decide)
                  have v5 : vs 5 = undef := hvs 5 (by decide)
                  have v6 : vs 6 = undef := hvs 6 (by decide)
                  have v7 : vs 7 = undef := hvs 7 (by decide)
                  have v8 : vs 8 = undef := hvs 8 (by decide)
                  have v9 : vs 9 = undef := hvs 9 (by decide)
                  have v10 : vs 10 = undef := hvs 10 (by decide)
                  have v11 : vs 11 = .bool true := hvs 11 (by decide)
                  have v12 : vs 12 = .bool true := hvs 12 (by decide)
                  have v13 : vs 13 = undef := hvs 13 (by decide)
                  have v14 : vs 14 = undef := hvs 14 (by decide)
                  have v15 : vs 15 = undef := hvs 15 (by decide)
                  have v16 : vs 16 = undef := hvs 16 (by decide)
                  have v17 : vs 17 = .bool true := hvs 17 (by decide)
                  have HBR := Lib.hid hbel
                  simp only [fillN, List.size_toArray, List.length_cons, List.length_nil, Nat.reduceAdd, show List.range 18 = [0, 1, 2, 3, 4, 5, 6, 7, 8, 9, 10, 11, 12, 13, 14, 15, 16, 17] from rfl, List.foldl_cons, List.foldl_nil, show 40 + min 0 17 = 40 from rfl, show 40 + min 1 17 = 41 from rfl, show 40 + min 2 17 = 42 from rfl, show 40 + min 3 17 = 43 from rfl, show 40 + min 4 17 = 44 from rfl, show 40 + min 5 17 = 45 from rfl, show 40 + min 6 17 = 46 from rfl, show 40 + min 7 17 = 47 from rfl, show 40 + min 8 17 = 48 from rfl, show 40 + min 9 17 = 49 from rfl, show 40 + min 10 17 = 50 from rfl, show 40 + min 11 17 = 51 from rfl, show 40 + min 12 17 = 52 from rfl, show 40 + min 13 17 = 53 from rfl, show 40 + min 14 17 = 54 from rfl, show 40 + min 15 17 = 55 from rfl, show 40 + min 16 17 = 56 from rfl, show 40 + min 17 17 = 57 from rfl, v0, v1, v2, v3, v4, v5, v6, v7, v8, v9, v10, v11, v12, v13, v14, v15, v16, v17]
                  clear v0 v1 v2 v3 v4 v5 v6 v7 v8 v9 v10 v11 v12 v13 v14 v15 v16 v17 hvs hbel
                  go_simp
                  go_wp2_with fail
                  go_ret
                  refine ⟨?_, ?_⟩
                  · rw [HO2.out, Bool.true_and, show fs.all Hr.fldB = false from List.all_eq_false.2 ⟨_, HMM.out, by rw [HFB2.out]; simp⟩]; rfl
                  · first | exact HB0.out.trans (HBR.out.mono HZ.out) | (rw [HHH.out]; exact HB0.out.trans (HBR.out.mono HZ.out))
              · cases q2
                · have hn : (lb.toList == nb.toList) = false := HQ.out
                  have hn2 : (lb.toList != nb.toList) = true := by simp [bne, hn]
                  refine region_slotsG (fun i => 40 + min i 17) (rrB C nb vb lb q3) (fun i => ([true, true, true, true, true, true, true, true, true, true, true, true, true, false, false, false, false, true] : List Bool).getD i true) (by kernel_rfl) (by kernel_rfl) (fun i => by show 40 + min i 17 < _; simp; omega) (fun i j hi hj h => by have hi : i < 18 := hi; have hj : j < 18 := hj; omega) ?mono ?dst ?gu ?ng ?skip ?step ?done
                  case mono =>
                    intro i W W' v h hbw
                    match i, h with
                    | 0, h | 1, h | 2, h | 3, h | 4, h | 5, h | 6, h | 7, h | 8, h | 9, h | 10, h | 11, h | 12, h | 13, h | 14, h | 15, h | 16, h | 17, h => exact h
                    | n + 18, h => exact h.elim
                  case dst =>
                    intro i o ho
                    match i, ho with
                    | 0, ho | 1, ho | 2, ho | 3, ho | 4, ho | 5, ho | 6, ho | 7, ho | 8, ho | 9, ho | 10, ho | 11, ho | 12, ho | 13, ho | 14, ho | 15, ho | 16, ho | 17, ho => cases ho; rfl
                    | n + 18, ho => exact absurd ho (by simp)
                  case gu =>
                    intro i o g b ho hgd W v hv
                    match i, ho with
                    | 0, ho => cases ho; cases hgd
                    | 1, ho => cases ho; cases hgd
                    | 2, ho => cases ho; cases hgd
                    | 3, ho => cases ho; cases hgd
                    | 4, ho => cases ho; cases hgd
                    | 5, ho => cases ho; cases hgd; exact hv
                    | 6, ho => cases ho; cases hgd; exact hv
                    | 7, ho => cases ho; cases hgd; exact hv
                    | 8, ho => cases ho; cases hgd; exact hv
                    | 9, ho => cases ho; cases hgd; exact hv
                    | 10, ho => cases ho; cases hgd; exact hv
                    | 11, ho => cases ho; cases hgd
                    | 12, ho => cases ho; cases hgd
                    | 13, ho => cases ho; cases hgd; exact hv
                    | 14, ho => cases ho; cases hgd; exact hv
                    | 15, ho => cases ho; cases hgd; exact hv
                    | 16, ho => cases ho; cases hgd; exact hv
                    | 17, ho => cases ho; cases hgd
                    | n + 18, ho => exact absurd ho (by simp)
                  case ng =>
                    intro i o ho hgd
                    match i, ho with
                    | 0, ho => cases ho; first | rfl | cases hgd
                    | 1, ho => cases ho; first | rfl | cases hgd
                    | 2, ho => cases ho; first | rfl | cases hgd
                    | 3, ho => cases ho; first | rfl | cases hgd
                    | 4, ho => cases ho; first | rfl | cases hgd
                    | 5, ho => cases ho; first | rfl | cases hgd
                    | 6, ho => cases ho; first | rfl | cases hgd
                    | 7, ho => cases ho; first | rfl | cases hgd
                    | 8, ho => cases ho; first | rfl | cases hgd
                    | 9, ho => cases ho; first | rfl | cases hgd
                    | 10, ho => cases ho; first | rfl | cases hgd
                    | 11, ho => cases ho; first | rfl | cases hgd
                    | 12, ho => cases ho; first | rfl | cases hgd
                    | 13, ho => cases ho; first | rfl | cases hgd
                    | 14, ho => cases ho; first | rfl | cases hgd
                    | 15, ho => cases ho; first | rfl | cases hgd
                    | 16, ho => cases ho; first | rfl | cases hgd
                    | 17, ho => cases ho; first | rfl | cases hgd
                    | n + 18, ho => exact absurd ho (by simp)
                  case skip =>
                    intro i W hi hsel
                    match i, hi, hsel with
                    | 0, _, hsel => first | exact absurd hsel (by decide) | rfl
                    | 1, _, hsel => first | exact absurd hsel (by decide) | rfl
                    | 2, _, hsel => first | exact absurd hsel (by decide) | rfl
                    | 3, _, hsel => first | exact absurd hsel (by decide) | rfl
                    | 4, _, hsel => first | exact absurd hsel (by decide) | rfl
                    | 5, _, hsel => first | exact absurd hsel (by decide) | rfl
                    | 6, _, hsel => first | exact absurd hsel (by decide) | rfl
                    | 7, _, hsel => first | exact absurd hsel (by decide) | rfl
                    | 8, _, hsel => first | exact absurd hsel (by decide) | rfl
                    | 9, _, hsel => first | exact absurd hsel (by decide) | rfl
                    | 10, _, hsel => first | exact absurd hsel (by decide) | rfl
                    | 11, _, hsel => first | exact absurd hsel (by decide) | rfl
                    | 12, _, hsel => first | exact absurd hsel (by decide) | rfl
                    | 13, _, hsel => first | exact absurd hsel (by decide) | rfl
                    | 14, _, hsel => first | exact absurd hsel (by decide) | rfl
                    | 15, _, hsel => first | exact absurd hsel (by decide) | rfl
                    | 16, _, hsel => first | exact absurd hsel (by decide) | rfl
                    | 17, _, hsel => first | exact absurd hsel (by decide) | rfl
                    | n + 18, hi, _ => exact absurd hi (by simp)
                  case step =>
                    intro f a' W i o ho hsel hpre hbel hrest
                    match i, ho, hsel with
                    | 0, ho, _ =>
                      cases ho
                      have q4 : a'.tmps.getD 4 undef = .pointer (some ⟨C, 0, none⟩) := (hrest 4 (by intro i hi; have hi : i < 18 := hi; show 40 + min i 17 ≠ _; omega))
                      have e4 := rg_ev q4
                      exact rg_same (.pointer (some ⟨C, 0, none⟩)) (by unfold Oper.wp execOp; go_simp; all_goals ((try simp only [e4]); (try go_simp); (try rw [if_pos (by omega)]); (try rw [if_neg (by omega)]); first | done | rfl | exact ⟨rfl, rfl⟩ | trivial)) rfl
                    | 1, ho, _ =>
                      cases ho
                      have q40 : a'.tmps.getD 40 undef = .pointer (some ⟨C, 0, none⟩) := (hpre { on := 0, ground := .data } (by simp) rfl)
                      have ce := HCE.out W hbel
                      have c0 := ce.1
                      have c1 := ce.2
                      have e40 := rg_ev q40
                      exact rg_same (.string nb) (by unfold Oper.wp execOp; go_simp; all_goals ((try simp only [e40]); (try go_simp); (try rw [if_pos (by omega)]); (try rw [if_neg (by omega)]); first | done | rfl | exact ⟨rfl, rfl⟩ | trivial)) rfl
                    | 2, ho, _ =>
                      cases ho
                      have q41 : a'.tmps.getD 41 undef = .string nb := (hpre { on := 1, ground := .data } (by simp) rfl)
                      exact rg_call 41 33 _ _ _ rfl q41 (enters_of Tryz.func33 (by kernel_rfl) rfl) (KT.out W) (fun e w' h => ⟨_, h.1, _, rfl, rfl, by rw [h.2]; exact Below.refl _ _⟩)
                    | 3, ho, _ =>
                      cases ho
                      have q42 : a'.tmps.getD 42 undef = .bool true := (hpre { on := 2, ground := .data } (by simp) rfl)
                      have e42 := rg_ev q42
                      exact rg_same (.bool false) (by unfold Oper.wp execOp; go_simp; all_goals ((try simp only [e42]); (try go_simp); (try rw [if_pos (by omega)]); (try rw [if_neg (by omega)]); first | done | rfl | exact ⟨rfl, rfl⟩ | trivial)) rfl
                    | 4, ho, _ =>
                      cases ho
                      have q43 : a'.tmps.getD 43 undef = .bool false := (hpre { on := 3, ground := .data } (by simp) rfl)
                      have e43 := rg_ev q43
                      exact rg_same (.bool false) (by unfold Oper.wp execOp; go_simp; all_goals ((try simp only [e43]); (try go_simp); (try rw [if_pos (by omega)]); (try rw [if_neg (by omega)]); first | done | rfl | exact ⟨rfl, rfl⟩ | trivial)) rfl
                    | 5, ho, _ =>
                      cases ho
                      have q4 : a'.tmps.getD 4 undef = .pointer (some ⟨C, 0, none⟩) := (hrest 4 (by intro i hi; have hi : i < 18 := hi; show 40 + min i 17 ≠ _; omega))
                      have e4 := rg_ev q4
                      exact rg_same (.pointer (some ⟨C, 0, none⟩)) (by unfold Oper.wp execOp; go_simp; all_goals ((try simp only [e4]); (try go_simp); (try rw [if_pos (by omega)]); (try rw [if_neg (by omega)]); first | done | rfl | exact ⟨rfl, rfl⟩ | trivial)) rfl
                    | 6, ho, _ =>
                      cases ho
                      have q45 : a'.tmps.getD 45 undef = .pointer (some ⟨C, 0, none⟩) := (hpre { on := 5, ground := .data } (by simp) rfl)
                      have ce := HCE.out W hbel
                      have c0 := ce.1
                      have c1 := ce.2
                      have e45 := rg_ev q45
                      exact rg_same (.string nb) (by unfold Oper.wp execOp; go_simp; all_goals ((try simp only [e45]); (try go_simp); (try rw [if_pos (by omega)]); (try rw [if_neg (by omega)]); first | done | rfl | exact ⟨rfl, rfl⟩ | trivial)) rfl
                    | 7, ho, _ =>
                      cases ho
                      have q46 : a'.tmps.getD 46 undef = .string nb := (hpre { on := 6, ground := .data } (by simp) rfl)
                      exact rg_call 46 34 _ _ _ rfl q46 (enters_of Tryz.func34 (by kernel_rfl) rfl) (KL.out W) (fun e w' h => ⟨_, h.1, _, rfl, rfl, h.2⟩)
                    | 8, ho, _ =>
                      cases ho
                      have q4 : a'.tmps.getD 4 undef = .pointer (some ⟨C, 0, none⟩) := (hrest 4 (by intro i hi; have hi : i < 18 := hi; show 40 + min i 17 ≠ _; omega))
                      have e4 := rg_ev q4
                      exact rg_same (.pointer (some ⟨C, 0, none⟩)) (by unfold Oper.wp execOp; go_simp; all_goals ((try simp only [e4]); (try go_simp); (try rw [if_pos (by omega)]); (try rw [if_neg (by omega)]); first | done | rfl | exact ⟨rfl, rfl⟩ | trivial)) rfl
                    | 9, ho, _ =>
                      cases ho
                      have q48 : a'.tmps.getD 48 undef = .pointer (some ⟨C, 0, none⟩) := (hpre { on := 8, ground := .data } (by simp) rfl)
                      have ce := HCE.out W hbel
                      have c0 := ce.1
                      have c1 := ce.2
                      have e48 := rg_ev q48
                      exact rg_same (.string nb) (by unfold Oper.wp execOp; go_simp; all_goals ((try simp only [e48]); (try go_simp); (try rw [if_pos (by omega)]); (try rw [if_neg (by omega)]); first | done | rfl | exact ⟨rfl, rfl⟩ | trivial)) rfl
                    | 10, ho, _ =>
                      cases ho
                      have q47 : a'.tmps.getD 47 undef = .string lb := (hpre { on := 7, ground := .data } (by simp) rfl)
                      have q49 : a'.tmps.getD 49 undef = .string nb := (hpre { on := 9, ground := .data } (by simp) rfl)
                      have e47 := rg_ev q47
                      have e49 := rg_ev q49
                      exact rg_same (.bool true) (by unfold Oper.wp execOp; go_simp; all_goals ((try simp only [e47, e49]); (try go_simp); (try rw [if_pos (by omega)]); (try rw [if_neg (by omega)]); first | done | rfl | exact ⟨rfl, rfl⟩ | trivial)) rfl
                    | 11, ho, _ =>
                      cases ho
                      have q44 : a'.tmps.getD 44 undef = .bool false := (hpre { on := 4, ground := .data } (by simp) rfl)
                      have q50 : a'.tmps.getD 50 undef = .bool true := (hpre { on := 10, ground := .data } (by simp) rfl)
                      have e44 := rg_ev q44
                      have e50 := rg_ev q50
                      exact rg_same (.bool true) (by unfold Oper.wp execOp; go_simp; all_goals ((try simp only [e44, e50]); (try go_simp); (try rw [if_pos (by omega)]); (try rw [if_neg (by omega)]); first | done | rfl | exact ⟨rfl, rfl⟩ | trivial)) rfl
                    | 12, ho, _ =>
                      cases ho
                      have q51 : a'.tmps.getD 51 undef = .bool true := (hpre { on := 11, ground := .data } (by simp) rfl)
                      have e51 := rg_ev q51
                      exact rg_same (.bool true) (by unfold Oper.wp execOp; go_simp; all_goals ((try simp only [e51]); (try go_simp); (try rw [if_pos (by omega)]); (try rw [if_neg (by omega)]); first | done | rfl | exact ⟨rfl, rfl⟩ | trivial)) rfl
                    | 13, ho, hsel => exact absurd hsel (by decide)
                    | 14, ho, hsel => exact absurd hsel (by decide)
                    | 15, ho, hsel => exact absurd hsel (by decide)
                    | 16, ho, hsel => exact absurd hsel (by decide)
                    | 17, ho, _ =>
                      cases ho
                      have q52 : a'.tmps.getD 52 undef = .bool true := (hpre { on := 12, ground := .data } (by simp) rfl)
                      have q56 : a'.tmps.getD 56 undef = undef := (hpre { on := 16, ground := .data } (by simp) rfl)
                      have e52 := rg_ev q52
                      have e56 := rg_ev q56
                      exact rg_same (.bool true) (by unfold Oper.wp execOp; go_simp; all_goals ((try simp only [e52, e56]); (try go_simp); (try rw [if_pos (by omega)]); (try rw [if_neg (by omega)]); first | done | rfl | exact ⟨rfl, rfl⟩ | trivial)) rfl
                    | n + 18, ho, _ => exact absurd ho (by simp)
                  case done =>
                    intro vs W hbel hvs
                    have v0 : vs 0 = .pointer (some ⟨C, 0, none⟩) := hvs 0 (by decide)
                    have v1 : vs 1 = .string nb := hvs 1 (by decide)
                    have v2 : vs 2 = .bool true := hvs 2 (by decide)
                    have v3 : vs 3 = .bool false := hvs 3 (by decide)
                    have v4 : vs 4 = .bool false := hvs 4 (by decide)
                    have v5 : vs 5 = .pointer (some ⟨C, 0, none⟩) := hvs 5 (by decide)
                    have v6 : vs 6 = .string nb := hvs 6 (by decide)
                    have v7 : vs 7 = .string lb := hvs 7 (by decide)
                    have v8 : vs 8 = .pointer (some ⟨C, 0, none⟩) := hvs 8 (by decide)
                    have v9 : vs 9 = .string nb := hvs 9 (by decide)
                    have v10 : vs 10 = .bool true := hvs 10 (by decide)
                    have v11 : vs 11 = .bool true := hvs 11 (by decide)
                    have v12 : vs 12 = .bool true := hvs 12 (by decide)
                    have v13 : vs 13 = undef := hvs 13 (by decide)
                    have v14 : vs 14 = undef := hvs 14 (by decide)
                    have v15 : vs 15 = undef := hvs 15 (by decide)
                    have v16 : vs 16 = undef := hvs 16 (by decide)
                    have v17 : vs 17 = .bool true := hvs 17 (by decide)
                    have HBR := Lib.hid hbel
                    simp only [fillN, List.size_toArray, List.length_cons, List.length_nil, Nat.reduceAdd, show List.range 18 = [0, 1, 2, 3, 4, 5, 6, 7, 8, 9, 10, 11, 12, 13, 14, 15, 16, 17] from rfl, List.foldl_cons, List.foldl_nil, show 40 + min 0 17 = 40 from rfl, show 40 + min 1 17 = 41 from rfl, show 40 + min 2 17 = 42 from rfl, show 40 + min 3 17 = 43 from rfl, show 40 + min 4 17 = 44 from rfl, show 40 + min 5 17 = 45 from rfl, show 40 + min 6 17 = 46 from rfl, show 40 + min 7 17 = 47 from rfl, show 40 + min 8 17 = 48 from rfl, show 40 + min 9 17 = 49 from rfl, show 40 + min 10 17 = 50 from rfl, show 40 + min 11 17 = 51 from rfl, show 40 + min 12 17 = 52 from rfl, show 40 + min 13 17 = 53 from rfl, show 40 + min 14 17 = 54 from rfl, show 40 + min 15 17 = 55 from rfl, show 40 + min 16 17 = 56 from rfl, show 40 + min 17 17 = 57 from rfl, v0, v1, v2, v3, v4, v5, v6, v7, v8, v9, v10, v11, v12, v13, v14, v15, v16, v17]
                    clear v0 v1 v2 v3 v4 v5 v6 v7 v8 v9 v10 v11 v12 v13 v14 v15 v16 v17 hvs hbel
                    go_simp
                    go_wp2_with fail
                    go_ret
                    refine ⟨?_, ?_⟩
                    · rw [HO2.out, Bool.true_and, show fs.all Hr.fldB = false from List.all_eq_false.2 ⟨_, HMM.out, by rw [HFB2.out]; simp⟩]; rfl
                    · first | exact HB0.out.trans (HBR.out.mono HZ.out) | (rw [HHH.out]; exact HB0.out.trans (HBR.out.mono HZ.out))
                · have hn : (lb.toList == nb.toList) = true := HQ.out
                  have hn2 : (lb.toList != nb.toList) = false := by simp [bne, hn]
                  refine region_slotsG (fun i => 40 + min i 17) (rrC C nb vb lb q3) (fun _ => true) (by kernel_rfl) (by kernel_rfl) (fun i => by show 40 + min i 17 < _; simp; omega) (fun i j hi hj h => by have hi : i < 18 := hi; have hj : j < 18 := hj; omega) ?mono ?dst ?gu ?ng ?skip ?step ?done
                  case mono =>
                    intro i W W' v h hbw
                    match i, h with
                    | 0, h | 1, h | 2, h | 3, h | 4, h | 5, h | 6, h | 7, h | 8, h | 9, h | 10, h | 11, h | 12, h | 13, h | 14, h | 15, h | 16, h | 17, h => exact h
                    | n + 18, h => exact h.elim
                  case dst =>
                    intro i o ho
                    match i, ho with
                    | 0, ho | 1, ho | 2, ho | 3, ho | 4, ho | 5, ho | 6, ho | 7, ho | 8, ho | 9, ho | 10, ho | 11, ho | 12, ho | 13, ho | 14, ho | 15, ho | 16, ho | 17, ho => cases ho; rfl
                    | n + 18, ho => exact absurd ho (by simp)
                  case gu =>
                    intro i o g b ho hgd W v hv
                    match i, ho with
                    | 0, ho => cases ho; cases hgd
                    | 1, ho => cases ho; cases hgd
                    | 2, ho => cases ho; cases hgd
                    | 3, ho => cases ho; cases hgd
                    | 4, ho => cases ho; cases hgd
                    | 5, ho => cases ho; cases hgd; exact hv
                    | 6, ho => cases ho; cases hgd; exact hv
                    | 7, ho => cases ho; cases hgd; exact hv
                    | 8, ho => cases ho; cases hgd; exact hv
                    | 9, ho => cases ho; cases hgd; exact hv
                    | 10, ho => cases ho; cases hgd; exact hv
                    | 11, ho => cases ho; cases hgd
                    | 12, ho => cases ho; cases hgd
                    | 13, ho => cases ho; cases hgd; exact hv
                    | 14, ho => cases ho; cases hgd; exact hv
                    | 15, ho => cases ho; cases hgd; exact hv
                    | 16, ho => cases ho; cases hgd; exact hv
                    | 17, ho => cases ho; cases hgd
                    | n + 18, ho => exact absurd ho (by simp)
                  case ng =>
                    intro i o ho hgd
                    match i, ho with
                    | 0, ho => cases ho; first | rfl | cases hgd
                    | 1, ho => cases ho; first | rfl | cases hgd
                    | 2, ho => cases ho; first | rfl | cases hgd
                    | 3, ho => cases ho; first | rfl | cases hgd
                    | 4, ho => cases ho; first | rfl | cases hgd
                    | 5, ho => cases ho; first | rfl | cases hgd
                    | 6, ho => cases ho; first | rfl | cases hgd
                    | 7, ho => cases ho; first | rfl | cases hgd
                    | 8, ho => cases ho; first | rfl | cases hgd
                    | 9, ho => cases ho; first | rfl | cases hgd
                    | 10, ho => cases ho; first | rfl | cases hgd
                    | 11, ho => cases ho; first | rfl | cases hgd
                    | 12, ho => cases ho; first | rfl | cases hgd
                    | 13, ho => cases ho; first | rfl | cases hgd
                    | 14, ho => cases ho; first | rfl | cases hgd
                    | 15, ho => cases ho; first | rfl | cases hgd
                    | 16, ho => cases ho; first | rfl | cases hgd
                    | 17, ho => cases ho; first | rfl | cases hgd
                    | n + 18, ho => exact absurd ho (by simp)
                  case skip =>
                    intro i W hi hsel
                    match i, hi, hsel with
                    | 0, _, hsel => first | exact absurd hsel (by decide) | rfl
                    | 1, _, hsel => first | exact absurd hsel (by decide) | rfl
                    | 2, _, hsel => first | exact absurd hsel (by decide) | rfl
                    | 3, _, hsel => first | exact absurd hsel (by decide) | rfl
                    | 4, _, hsel => first | exact absurd hsel (by decide) | rfl
                    | 5, _, hsel => first | exact absurd hsel (by decide) | rfl
                    | 6, _, hsel => first | exact absurd hsel (by decide) | rfl
                    | 7, _, hsel => first | exact absurd hsel (by decide) | rfl
                    | 8, _, hsel => first | exact absurd hsel (by decide) | rfl
                    | 9, _, hsel => first | exact absurd hsel (by decide) | rfl
                    | 10, _, hsel => first | exact absurd hsel (by decide) | rfl
                    | 11, _, hsel => first | exact absurd hsel (by decide) | rfl
                    | 12, _, hsel => first | exact absurd hsel (by decide) | rfl
                    | 13, _, hsel => first | exact absurd hsel (by decide) | rfl
                    | 14, _, hsel => first | exact absurd hsel (by decide) | rfl
                    | 15, _, hsel => first | exact absurd hsel (by decide) | rfl
                    | 16, _, hsel => first | exact absurd hsel (by decide) | rfl
                    | 17, _, hsel => first | exact absurd hsel (by decide) | rfl
                    | n + 18, hi, _ => exact absurd hi (by simp)
                  case step =>
                    intro f a' W i o ho hsel hpre hbel hrest
                    match i, ho, hsel with
                    | 0, ho, _ =>
                      cases ho
                      have q4 : a'.tmps.getD 4 undef = .pointer (some ⟨C, 0, none⟩) := (hrest 4 (by intro i hi; have hi : i < 18 := hi; show 40 + min i 17 ≠ _; omega))
                      have e4 := rg_ev q4
                      exact rg_same (.pointer (some ⟨C, 0, none⟩)) (by unfold Oper.wp execOp; go_simp; all_goals ((try simp only [e4]); (try go_simp); (try rw [if_pos (by omega)]); (try rw [if_neg (by omega)]); first | done | rfl | exact ⟨rfl, rfl⟩ | trivial)) rfl
                    | 1, ho, _ =>
                      cases ho
                      have q40 : a'.tmps.getD 40 undef = .pointer (some ⟨C, 0, none⟩) := (hpre { on := 0, ground := .data } (by simp) rfl)
                      have ce := HCE.out W hbel
                      have c0 := ce.1
                      have c1 := ce.2
                      have e40 := rg_ev q40
                      exact rg_same (.string nb) (by unfold Oper.wp execOp; go_simp; all_goals ((try simp only [e40]); (try go_simp); (try rw [if_pos (by omega)]); (try rw [if_neg (by omega)]); first | done | rfl | exact ⟨rfl, rfl⟩ | trivial)) rfl
                    | 2, ho, _ =>
                      cases ho
                      have q41 : a'.tmps.getD 41 undef = .string nb := (hpre { on := 1, ground := .data } (by simp) rfl)
                      exact rg_call 41 33 _ _ _ rfl q41 (enters_of Tryz.func33 (by kernel_rfl) rfl) (KT.out W) (fun e w' h => ⟨_, h.1, _, rfl, rfl, by rw [h.2]; exact Below.refl _ _⟩)
                    | 3, ho, _ =>
                      cases ho
                      have q42 : a'.tmps.getD 42 undef = .bool true := (hpre { on := 2, ground := .data } (by simp) rfl)
                      have e42 := rg_ev q42
                      exact rg_same (.bool false) (by unfold Oper.wp execOp; go_simp; all_goals ((try simp only [e42]); (try go_simp); (try rw [if_pos (by omega)]); (try rw [if_neg (by omega)]); first | done | rfl | exact ⟨rfl, rfl⟩ | trivial)) rfl
                    | 4, ho, _ =>
                      cases ho
                      have q43 : a'.tmps.getD 43 undef = .bool false := (hpre { on := 3, ground := .data } (by simp) rfl)
                      have e43 := rg_ev q43
                      exact rg_same (.bool false) (by unfold Oper.wp execOp; go_simp; all_goals ((try simp only [e43]); (try go_simp); (try rw [if_pos (by omega)]); (try rw [if_neg (by omega)]); first | done | rfl | exact ⟨rfl, rfl⟩ | trivial)) rfl
                    | 5, ho, _ =>
                      cases ho
                      have q4 : a'.tmps.getD 4 undef = .pointer (some ⟨C, 0, none⟩) := (hrest 4 (by intro i hi; have hi : i < 18 := hi; show 40 + min i 17 ≠ _; omega))
                      have e4 := rg_ev q4
                      exact rg_same (.pointer (some ⟨C, 0, none⟩)) (by unfold Oper.wp execOp; go_simp; all_goals ((try simp only [e4]); (try go_simp); (try rw [if_pos (by omega)]); (try rw [if_neg (by omega)]); first | done | rfl | exact ⟨rfl, rfl⟩ | trivial)) rfl
                    | 6, ho, _ =>
                      cases ho
                      have q45 : a'.tmps.getD 45 undef = .pointer (some ⟨C, 0, none⟩) := (hpre { on := 5, ground := .data } (by simp) rfl)
                      have ce := HCE.out W hbel
                      have c0 := ce.1
                      have c1 := ce.2
                      have e45 := rg_ev q45
                      exact rg_same (.string nb) (by unfold Oper.wp execOp; go_simp; all_goals ((try simp only [e45]); (try go_simp); (try rw [if_pos (by omega)]); (try rw [if_neg (by omega)]); first | done | rfl | exact ⟨rfl, rfl⟩ | trivial)) rfl
                    | 7, ho, _ =>
                      cases ho
                      have q46 : a'.tmps.getD 46 undef = .string nb := (hpre { on := 6, ground := .data } (by simp) rfl)
                      exact rg_call 46 34 _ _ _ rfl q46 (enters_of Tryz.func34 (by kernel_rfl) rfl) (KL.out W) (fun e w' h => ⟨_, h.1, _, rfl, rfl, h.2⟩)
                    | 8, ho, _ =>
                      cases ho
                      have q4 : a'.tmps.getD 4 undef = .pointer (some ⟨C, 0, none⟩) := (hrest 4 (by intro i hi; have hi : i < 18 := hi; show 40 + min i 17 ≠ _; omega))
                      have e4 := rg_ev q4
                      exact rg_same (.pointer (some ⟨C, 0, none⟩)) (by unfold Oper.wp execOp; go_simp; all_goals ((try simp only [e4]); (try go_simp); (try rw [if_pos (by omega)]); (try rw [if_neg (by omega)]); first | done | rfl | exact ⟨rfl, rfl⟩ | trivial)) rfl
                    | 9, ho, _ =>
                      cases ho
                      have q48 : a'.tmps.getD 48 undef = .pointer (some ⟨C, 0, none⟩) := (hpre { on := 8, ground := .data } (by simp) rfl)
                      have ce := HCE.out W hbel
                      have c0 := ce.1
                      have c1 := ce.2
                      have e48 := rg_ev q48
                      exact rg_same (.string nb) (by unfold Oper.wp execOp; go_simp; all_goals ((try simp only [e48]); (try go_simp); (try rw [if_pos (by omega)]); (try rw [if_neg (by omega)]); first | done | rfl | exact ⟨rfl, rfl⟩ | trivial)) rfl
                    | 10, ho, _ =>
                      cases ho
                      have q47 : a'.tmps.getD 47 undef = .string lb := (hpre { on := 7, ground := .data } (by simp) rfl)
                      have q49 : a'.tmps.getD 49 undef = .string nb := (hpre { on := 9, ground := .data } (by simp) rfl)
                      have e47 := rg_ev q47
                      have e49 := rg_ev q49
                      exact rg_same (.bool false) (by unfold Oper.wp execOp; go_simp; all_goals ((try simp only [e47, e49]); (try go_simp); (try rw [if_pos (by omega)]); (try rw [if_neg (by omega)]); first | done | rfl | exact ⟨rfl, rfl⟩ | trivial)) rfl
                    | 11, ho, _ =>
                      cases ho
                      have q44 : a'.tmps.getD 44 undef = .bool false := (hpre { on := 4, ground := .data } (by simp) rfl)
                      have q50 : a'.tmps.getD 50 undef = .bool false := (hpre { on := 10, ground := .data } (by simp) rfl)
                      have e44 := rg_ev q44
                      have e50 := rg_ev q50
                      exact rg_same (.bool false) (by unfold Oper.wp execOp; go_simp; all_goals ((try simp only [e44, e50]); (try go_simp); (try rw [if_pos (by omega)]); (try rw [if_neg (by omega)]); first | done | rfl | exact ⟨rfl, rfl⟩ | trivial)) rfl
                    | 12, ho, _ =>
                      cases ho
                      have q51 : a'.tmps.getD 51 undef = .bool false := (hpre { on := 11, ground := .data } (by simp) rfl)
                      have e51 := rg_ev q51
                      exact rg_same (.bool false) (by unfold Oper.wp execOp; go_simp; all_goals ((try simp only [e51]); (try go_simp); (try rw [if_pos (by omega)]); (try rw [if_neg (by omega)]); first | done | rfl | exact ⟨rfl, rfl⟩ | trivial)) rfl
                    | 13, ho, _ =>
                      cases ho
                      have q4 : a'.tmps.getD 4 undef = .pointer (some ⟨C, 0, none⟩) := (hrest 4 (by intro i hi; have hi : i < 18 := hi; show 40 + min i 17 ≠ _; omega))
                      have e4 := rg_ev q4
                      exact rg_same (.pointer (some ⟨C, 1, none⟩)) (by unfold Oper.wp execOp; go_simp; all_goals ((try simp only [e4]); (try go_simp); (try rw [if_pos (by omega)]); (try rw [if_neg (by omega)]); first | done | rfl | exact ⟨rfl, rfl⟩ | trivial)) rfl
                    | 14, ho, _ =>
                      cases ho
                      have q53 : a'.tmps.getD 53 undef = .pointer (some ⟨C, 1, none⟩) := (hpre { on := 13, ground := .data } (by simp) rfl)
                      have ce := HCE.out W hbel
                      have c0 := ce.1
                      have c1 := ce.2
                      have e53 := rg_ev q53
                      exact rg_same (.string vb) (by unfold Oper.wp execOp; go_simp; all_goals ((try simp only [e53]); (try go_simp); (try rw [if_pos (by omega)]); (try rw [if_neg (by omega)]); first | done | rfl | exact ⟨rfl, rfl⟩ | trivial)) rfl
                    | 15, ho, _ =>
                      cases ho
                      have q54 : a'.tmps.getD 54 undef = .string vb := (hpre { on := 14, ground := .data } (by simp) rfl)
                      exact rg_call 54 24 _ _ _ rfl q54 (enters_of Tryz.func24 (by kernel_rfl) rfl) (KV.out W) (fun e w' h => ⟨_, h.1, _, rfl, rfl, by rw [h.2]; exact Below.refl _ _⟩)
                    | 16, ho, _ =>
                      cases ho
                      have q55 : a'.tmps.getD 55 undef = .bool q3 := (hpre { on := 15, ground := .data } (by simp) rfl)
                      have e55 := rg_ev q55
                      exact rg_same (.bool (!q3)) (by unfold Oper.wp execOp; go_simp; all_goals ((try simp only [e55]); (try go_simp); (try rw [if_pos (by omega)]); (try rw [if_neg (by omega)]); first | done | rfl | exact ⟨rfl, rfl⟩ | trivial)) rfl
                    | 17, ho, _ =>
                      cases ho
                      have q52 : a'.tmps.getD 52 undef = .bool false := (hpre { on := 12, ground := .data } (by simp) rfl)
                      have q56 : a'.tmps.getD 56 undef = .bool (!q3) := (hpre { on := 16, ground := .data } (by simp) rfl)
                      have e52 := rg_ev q52
                      have e56 := rg_ev q56
                      exact rg_same (.bool (!q3)) (by unfold Oper.wp execOp; go_simp; all_goals ((try simp only [e52, e56]); (try go_simp); (try rw [if_pos (by omega)]); (try rw [if_neg (by omega)]); first | done | rfl | exact ⟨rfl, rfl⟩ | trivial)) rfl
                    | n + 18, ho, _ => exact absurd ho (by simp)
                  case done =>
                    intro vs W hbel hvs
                    have v0 : vs 0 = .pointer (some ⟨C, 0, none⟩) := hvs 0 (by decide)
                    have v1 : vs 1 = .string nb := hvs 1 (by decide)
                    have v2 : vs 2 = .bool true := hvs 2 (by decide)
                    have v3 : vs 3 = .bool false := hvs 3 (by decide)
                    have v4 : vs 4 = .bool false := hvs 4 (by decide)
                    have v5 : vs 5 = .pointer (some ⟨C, 0, none⟩) := hvs 5 (by decide)
                    have v6 : vs 6 = .string nb := hvs 6 (by decide)
                    have v7 : vs 7 = .string lb := hvs 7 (by decide)
                    have v8 : vs 8 = .pointer (some ⟨C, 0, none⟩) := hvs 8 (by decide)
                    have v9 : vs 9 = .string nb := hvs 9 (by decide)
                    have v10 : vs 10 = .bool false := hvs 10 (by decide)
                    have v11 : vs 11 = .bool false := hvs 11 (by decide)
                    have v12 : vs 12 = .bool false := hvs 12 (by decide)
                    have v13 : vs 13 = .pointer (some ⟨C, 1, none⟩) := hvs 13 (by decide)
                    have v14 : vs 14 = .string vb := hvs 14 (by decide)
                    have v15 : vs 15 = .bool q3 := hvs 15 (by decide)
                    have v16 : vs 16 = .bool (!q3) := hvs 16 (by decide)
                    have v17 : vs 17 = .bool (!q3) := hvs 17 (by decide)
                    have HBR := Lib.hid hbel
                    simp only [fillN, List.size_toArray, List.length_cons, List.length_nil, Nat.reduceAdd, show List.range 18 = [0, 1, 2, 3, 4, 5, 6, 7, 8, 9, 10, 11, 12, 13, 14, 15, 16, 17] from rfl, List.foldl_cons, List.foldl_nil, show 40 + min 0 17 = 40 from rfl, show 40 + min 1 17 = 41 from rfl, show 40 + min 2 17 = 42 from rfl, show 40 + min 3 17 = 43 from rfl, show 40 + min 4 17 = 44 from rfl, show 40 + min 5 17 = 45 from rfl, show 40 + min 6 17 = 46 from rfl, show 40 + min 7 17 = 47 from rfl, show 40 + min 8 17 = 48 from rfl, show 40 + min 9 17 = 49 from rfl, show 40 + min 10 17 = 50 from rfl, show 40 + min 11 17 = 51 from rfl, show 40 + min 12 17 = 52 from rfl, show 40 + min 13 17 = 53 from rfl, show 40 + min 14 17 = 54 from rfl, show 40 + min 15 17 = 55 from rfl, show 40 + min 16 17 = 56 from rfl, show 40 + min 17 17 = 57 from rfl, v0, v1, v2, v3, v4, v5, v6, v7, v8, v9, v10, v11, v12, v13, v14, v15, v16, v17]
                    clear v0 v1 v2 v3 v4 v5 v6 v7 v8 v9 v10 v11 v12 v13 v14 v15 v16 v17 hvs hbel
                    go_simp
                    cases q3
                    · go_wp2_with fail
                      go_ret
                      refine ⟨?_, ?_⟩
                      · rw [HO2.out, Bool.true_and, show fs.all Hr.fldB = false from List.all_eq_false.2 ⟨_, HMM.out, by rw [HFB2.out]; simp⟩]; rfl
                      · first | exact HB0.out.trans (HBR.out.mono HZ.out) | (rw [HHH.out]; exact HB0.out.trans (HBR.out.mono HZ.out))
                    · go_wp2_with fail
                      go_roundw
                      case rel =>
                        refine ⟨k + 1, hlt, by go_num, ?_, (HBR.out.block _ (Array.getElem?_eq_some_iff.1 HG.out).1).trans HG.out, HB0.out.trans (HBR.out.mono HZ.out)⟩
                        rw [HTK.out, List.all_append, HALL.out, List.all_cons, HFB2.out]; rfl
                      case measure => simp [intOf]; omega
            · obtain rfl : k = N := by omega
              go_wp2_with fail
              go_ret
              refine ⟨?_, ?_⟩
              · have h := HALL.out
                rw [List.take_of_length_le (by rw [HNN.out]; omega)] at h
                rw [HO2.out, h]; rfl
              · first | exact HBL.out | (rw [HHH.out]; exact HBL.out)
end Go.Proofs.YtfacmnooklljnaaGreatDoor

/- head: Check of any head (one that gives up is caught). -/
namespace Go.Proofs.YtfacmnooklljnaaGreatDoor
set_option linter.unusedVariables false
set_option linter.unusedSimpArgs false
open Go.RowKit Go.Shelf
set_option maxHeartbeats 8000000
set_option maxRecDepth 100000
theorem hd_must_no (n : Int) (w : World) :
    Calls Tryz.prog 67 #[.bool false, .int .i64 n] w fun e w' => e = .panicked [{ v := errno n, recovered := false }] ∧ w' = w := by
  go_enter Tryz.func67, Tryz.ntmps67
  go_wp2
  all_goals first | contradiction | simp [errno, bodyPost]
theorem hd_caught (p : Addr) (n : Int) (older : List PanicEntry) (w : World) (old : Value) (hc : w.cell? p = some old) (hz : w.frozen? p = false) :
    CallsD Tryz.prog 66 #[.pointer (some p)] (.panicking ({ v := errno n, recovered := false } :: older)) w fun e u' w' =>
      e = .returned (.tuple #[]) ∧ u' = .panicking ({ v := errno n, recovered := true } :: older) ∧ w' = w.setCell p (.int .i64 n) := by
  refine callsD_of_wpS Tryz.func66 rfl fun c₀ cs hu => ?_
  apply wpS_seq
  apply wpS_region
  simp [wpOpsS, go_sem, recoverD, hu, Tryz.ntmps66, Exit.thenS]
  apply wpS_seq
  apply wpS_region
  simp [wpOpsS, go_sem, recoverD, hu, Exit.thenS, errno]
  refine wpS_cond (t := true) (by simp [Act.eval, Array.replicate]) ?_
  simp only [if_true]
  refine wpS_of_wp ?_
  simp [Array.replicate, List.replicate, List.setIfInBounds_toArray]
  have hta : ∀ (v : Value) (W : World), (Instr.typeAssert (.iface 26 v) 20 26 true).run Tryz.prog W = .ok (.tuple #[v, .bool true]) W := errno_is
  go_wp2_with fail
  simp [bodyPostS, results, Tryz.results66, go_sem]
/-- how Check gives up -/
theorem hd_door (a : Act) (E : Nat) (W : World) (Q : Ending → World → Prop) (hd : a.defers = [{ target := Target.fn (Fn.func 66) #[], args := #[.pointer (some ⟨E, 0, none⟩)] }]) (h2 : a.tmps.getD 2 undef = .pointer (some ⟨E, 0, none⟩))
    (hE : W.heap[E]? = some (.cells #[.int .i64 0] 26 (0, 0))) (hQ : Q (.returned (.int .i64 2)) (W.setCell ⟨E, 0, none⟩ (.int .i64 2))) :
    bodyPostD Tryz.prog Tryz.f25 Q (.panic [{ v := errno 2, recovered := false }]) a W := by
  obtain ⟨tm, df⟩ := a
  simp only at hd h2
  subst hd
  have e2 := rg_ev (a := ⟨tm, []⟩) h2
  simp only at e2
  have c2 : W.cell? ⟨E, 0, none⟩ = some (.int .i64 0) := by simp [World.cell?, hE]
  have z2 : W.frozen? ⟨E, 0, none⟩ = false := frozen_of_row _ _ _ _ _ hE
  refine leaves_cons (f := 66) (args := #[.pointer (some ⟨E, 0, none⟩)]) (by simp) (by simp [go_sem]) ?_
  refine (hd_caught ⟨E, 0, none⟩ 2 [] W _ c2 z2).mono ?_
  rintro e u' w'' ⟨rfl, rfl, rfl⟩
  have hE2 : (W.setCell ⟨E, 0, none⟩ (.int .i64 2)).heap[E]? = some (.cells #[.int .i64 2] 26 (0, 0)) := heap_setCell_same _ _ 0 _ _ _ hE
  have xe : (W.setCell ⟨E, 0, none⟩ (.int .i64 2)).cell? ⟨E, 0, none⟩ = some (.int .i64 2) := by simp [World.cell?, hE2]
  obtain ⟨X, hX⟩ : ∃ X, W.setCell ⟨E, 0, none⟩ (.int .i64 2) = X := ⟨_, rfl⟩
  rw [hX] at xe hQ ⊢
  clear hX hE2 c2 z2 hE
  simp [Leaves, settle, results, Tryz.results25, go_sem, e2, xe]
  exact hQ
theorem ck_callno {P : Program} {o : Oper} {a : Act} {w : World} {K : Act → World → Prop} {Q : Exit → Act → World → Prop} (t k : Nat) (ty : Array TypeId) (v c : Value) (ch : List PanicEntry) (R : Ending → World → Prop) (ho : o.op = Op.call { callee := .value (.func k), args := #[.tmp t, .const c], argTypes := ty }) (hv : a.tmps.getD t undef = v)
    (eg : ∀ args w, (callFunc k args).run P w = .ok (.enter k args) w) (hc : Calls P k #[v, c] w R) (hR : ∀ e w', R e w' → e = .panicked ch ∧ Q (.panic ch) a w') : o.wp P a w K Q := by
  have e := rg_ev hv
  have e2 : a.eval (.func k) = .func (.func k) #[] #[] := rfl
  have e3 : a.eval (.const c) = c := rfl
  unfold Oper.wp execOp
  simp [ho, resolve, invoke, e2, e3, e, eg, go_sem]
  refine hc.mono ?_
  intro z w' hz
  obtain ⟨rfl, hk⟩ := hR z w' hz
  exact hk
def ckGA (V : Nat) (nb vb lb : ByteArray) : Nat → World → Value → Prop
  | 0, _, v => v = .pointer (some ⟨V, 0, none⟩)
  | 1, _, v => v = .string nb
  | 2, _, v => v = .bool false
  | 3, _, v => v = .bool false
  | 4, _, v => v = undef
  | 5, _, v => v = undef
  | 6, _, v => v = undef
  | 7, _, v => v = undef
  | 8, _, v => v = undef
  | 9, _, v => v = undef
  | 10, _, v => v = .bool false
  | 11, _, v => v = .bool false
  | 12, _, v => v = undef
  | 13, _, v => v = undef
  | 14, _, v => v = undef
  | 15, _, v => v = .bool false
  | 16, w, v => False
  | _, _, _ => False
def ckGB (V : Nat) (nb vb lb : ByteArray) : Nat → World → Value → Prop
  | 0, _, v => v = .pointer (some ⟨V, 0, none⟩)
  | 1, _, v => v = .string nb
  | 2, _, v => v = .bool true
  | 3, _, v => v = .bool true
  | 4, _, v => v = .pointer (some ⟨V, 0, none⟩)
  | 5, _, v => v = .string nb
  | 6, _, v => v = .string lb
  | 7, _, v => v = .pointer (some ⟨V, 0, none⟩)
  | 8, _, v => v = .string nb
  | 9, _, v => v = .bool false
  | 10, _, v => v = .bool false
  | 11, _, v => v = .bool false
  | 12, _, v => v = undef
  | 13, _, v => v = undef
  | 14, _, v => v = undef
  | 15, _, v => v = .bool false
  | 16, w, v => False
  | _, _, _ => False
def ckGC (V : Nat) (nb vb lb : ByteArray) : Nat → World → Value → Prop
  | 0, _, v => v = .pointer (some ⟨V, 0, none⟩)
  | 1, _, v => v = .string nb
  | 2, _, v => v = .bool true
  | 3, _, v => v = .bool true
  | 4, _, v => v = .pointer (some ⟨V, 0, none⟩)
  | 5, _, v => v = .string nb
  | 6, _, v => v = .string lb
  | 7, _, v => v = .pointer (some ⟨V, 0, none⟩)
  | 8, _, v => v = .string nb
  | 9, _, v => v = .bool true
  | 10, _, v => v = .bool true
  | 11, _, v => v = .bool true
  | 12, _, v => v = .pointer (some ⟨V, 1, none⟩)
  | 13, _, v => v = .string vb
  | 14, _, v => v = .bool false
  | 15, _, v => v = .bool false
  | 16, w, v => False
  | _, _, _ => False
def ckGD (V : Nat) (nb vb lb : ByteArray) : Nat → World → Value → Prop
  | 0, _, v => v = .pointer (some ⟨V, 0, none⟩)
  | 1, _, v => v = .string nb
  | 2, _, v => v = .bool true
  | 3, _, v => v = .bool true
  | 4, _, v => v = .pointer (some ⟨V, 0, none⟩)
  | 5, _, v => v = .string nb
  | 6, _, v => v = .string lb
  | 7, _, v => v = .pointer (some ⟨V, 0, none⟩)
  | 8, _, v => v = .string nb
  | 9, _, v => v = .bool true
  | 10, _, v => v = .bool true
  | 11, _, v => v = .bool true
  | 12, _, v => v = .pointer (some ⟨V, 1, none⟩)
  | 13, _, v => v = .string vb
  | 14, _, v => v = .bool true
  | 15, _, v => v = .bool true
  | 16, _, v => v = .tuple #[]
  | _, _, _ => False
theorem blank_first {c : UInt8} (h : (c.toNat : Int) = 9 ∨ (c.toNat : Int) = 32) : Tp.trim [c] = [] := by
  have : c = 9 ∨ c = 32 := h.imp (fun h => UInt8.toNat_inj.1 (by have : (9 : UInt8).toNat = 9 := rfl; omega)) (fun h => UInt8.toNat_inj.1 (by have : (32 : UInt8).toNat = 32 := rfl; omega))
  rcases this with rfl | rfl <;> decide
theorem hd_CheckG (F : List UInt8) (v : Value) (fs : List Hp.Hd) (w : World) (hv : HS w v fs) (hF : F.length ≤ 100000) (hl : fs.length ≤ 1000) (hs : ∀ f ∈ fs, f.1.length ≤ 100000 ∧ f.2.length ≤ 100000) :
    Calls Tryz.prog 25 #[.agg #[Hp.sx F, v]] w fun e w' => e = .returned (.int .i64 (if Hr.okB F fs then 0 else 2)) ∧ Below w.heap.size w w' := by
  by_cases hok : Hr.okB F fs = true
  · rw [if_pos hok]
    exact hd_Check F v fs w hv (Hr.hok_of hok) hF (by omega) hs
  rw [if_neg hok]
  have hok : Hr.okB F fs = false := by simpa using hok
  obtain ⟨p, c, rfl⟩ := hv.slice
  obtain ⟨N, hN⟩ : ∃ N, fs.length = N := ⟨_, rfl⟩
  rw [hN] at hv hl ⊢
  unfold Hp.sx
  obtain ⟨fb, hfb⟩ : ∃ z : ByteArray, (⟨F.toArray⟩ : ByteArray) = z := ⟨_, rfl⟩
  rw [hfb]
  have hfs : fb.size ≤ 100000 := by rw [← hfb]; exact hF
  obtain ⟨H, hH⟩ : ∃ H, w.heap.size = H := ⟨_, rfl⟩
  obtain ⟨W2, hW2⟩ : ∃ Z, (w.alloc (.cells #[.string fb, .slice p N c] 25)).alloc (.cells #[.int .i64 0] 26) = Z := ⟨_, rfl⟩
  have HB2 := Lib.hid (show Below H w W2 by rw [← hW2, ← hH]; exact ((Below.refl _ _).alloc (Nat.le_refl _) _).alloc (by simp) _)
  have HZ2 := Lib.hid (show W2.heap.size = H + 2 by rw [← hW2, ← hH]; simp)
  have HG0 := Lib.hid (show W2.heap[H]? = some (.cells #[.string fb, .slice p N c] 25 (0, 0)) by
    rw [← hW2, ← hH, Below.heap_alloc _ _ _ (by simp)]; exact World.alloc_heap_new _ _)
  have HG1 := Lib.hid (show W2.heap[H + 1]? = some (.cells #[.int .i64 0] 26 (0, 0)) by
    rw [← hW2, ← hH]
    have := World.alloc_heap_new (w.alloc (.cells #[.string fb, .slice p N c] 25)) (.cells #[.int .i64 0] 26)
    simpa using this)
  have HV2 := Lib.hid (hv.below (by rw [hH]; exact HB2.out))
  -- how it gives up at any world that goes on from the start
  have HDOOR := Lib.hid (show ∀ (a : Act) (W : World), a.defers = [{ target := Target.fn (Fn.func 66) #[], args := #[.pointer (some ⟨H + 1, 0, none⟩)] }] → a.tmps.getD 2 undef = .pointer (some ⟨H + 1, 0, none⟩) → Below W2.heap.size W2 W →
      bodyPostD Tryz.prog Tryz.f25 (fun e w' => e = .returned (.int .i64 2) ∧ Below w.heap.size w w') (.panic [{ v := errno 2, recovered := false }]) a W from fun a W hd h2 hb => by
    refine hd_door a (H + 1) W _ hd h2 ((hb.block _ (Array.getElem?_eq_some_iff.1 HG1.out).1).trans HG1.out) ⟨rfl, ?_⟩
    rw [hH]
    exact (HB2.out.trans (hb.mono (by rw [HZ2.out]; omega))).setCell (Nat.le_succ _) _)
  have HW2 := Lib.hid hW2
  have HHH := Lib.hid hH
  have HNN := Lib.hid hN
  have HSS := Lib.hid hs
  have HFB := Lib.hid hfb
  have HOK := Lib.hid hok
  have a0 : W2.cell? ⟨H, 0, none⟩ = some (.string fb) := by simp [World.cell?, HG0.out]
  have a1 : W2.cell? ⟨H, 1, none⟩ = some (.slice p N c) := by simp [World.cell?, HG0.out]
  have KMN := Lib.hid (hd_must_no 2)
  clear hv hok hs hN hH hW2 hfb
  by_cases h0 : fb.size = 0
  · have hf0 : fb = ⟨#[]⟩ := by
      obtain ⟨d⟩ := fb
      simp only [ByteArray.size, Array.size_eq_zero_iff] at h0
      rw [h0]
    subst hf0
    go_enter_defers Tryz.func25, Tryz.ntmps25
    go_wp2_with fail
    rw [HHH.out, HW2.out]
    go_wp2_with fail
    refine (KMN.out W2).mono ?_
    rintro e w5 ⟨rfl, hw5⟩
    subst w5
    exact HDOOR.out _ _ rfl rfl (Below.refl _ _)
  · have hpos : 0 < fb.size := Nat.pos_of_ne_zero h0
    have hne : (fb.toList == []) = false := by
      rw [ByteArray.toList_eq, beq_eq_false_iff_ne]
      intro h
      apply h0
      show fb.data.size = 0
      rw [← Array.length_toList, h]; rfl
    obtain ⟨c0, F', hFF⟩ : ∃ c0 F', F = c0 :: F' := by
      match F, HFB.out with
      | [], h => exfalso; apply h0; rw [← h]; rfl
      | c0 :: F', _ => exact ⟨c0, F', rfl⟩
    have hba := x_mid F
    have hta := take_one F
    rw [HFB.out] at hba hta
    have hsl : ∀ W, (Instr.slice 9 (.string fb) none (some (.int .i64 1)) none).run Tryz.prog W = .ok (.string (fb.extract 0 1)) W := fun W => by
      have h2 : (1 : Int) ≤ fb.size := by omega
      simp [go_sem, Tryz.underlying9, h2]
    obtain ⟨tb, htb⟩ : ∃ z : ByteArray, fb.extract 0 1 = z := ⟨_, rfl⟩
    rw [htb] at hta hsl
    have htbs : tb.size ≤ 9223372036854775807 := by
      have h1 : tb.data.toList.length = tb.size := rfl
      rw [hta, List.length_take] at h1; omega
    have KT := Lib.hid (fun W => tok_trim tb W htbs)
    have HTA := Lib.hid (show tb.data.toList = [c0] by rw [hta, hFF]; rfl)
    clear hta htb htbs
    by_cases hbl : (c0.toNat : Int) = 9 ∨ (c0.toNat : Int) = 32
    · have hub : (⟨(Tp.trim tb.data.toList).toArray⟩ : ByteArray) = ⟨#[]⟩ := by rw [HTA.out, blank_first hbl]
      rw [hub] at KT
      clear hbl hub hba
      go_enter_defers Tryz.func25, Tryz.ntmps25
      go_wp2_with fail
      rw [HHH.out, HW2.out]
      refine (KT.out W2).mono ?_
      rintro e w3 ⟨rfl, hb3⟩
      have HC3 := Lib.hid hb3
      clear hb3 a0 a1
      go_wp2_with fail
      refine (KMN.out w3).mono ?_
      rintro e w5 ⟨rfl, hw5⟩
      subst w5
      exact HDOOR.out _ _ rfl rfl HC3.out
    · have hbl1 : Tp.blankB c0 = false := by
        rw [not_or] at hbl
        unfold Tp.blankB Tp.blank
        simp
        omega
      obtain ⟨ub, hub⟩ : ∃ z : ByteArray, (⟨(Tp.trim tb.data.toList).toArray⟩ : ByteArray) = z := ⟨_, rfl⟩
      have hun : (ub.toList == []) = false := by
        rw [← hub, ByteArray.toList_eq, HTA.out]
        have : Tp.trim [c0] = [c0] := by
          unfold Tp.trim
          rw [Hp.trimL_no hbl1, show [c0] = [] ++ [c0] from rfl, Hp.trimR_no hbl1]
        rw [this]; rfl
      rw [hub] at KT
      obtain ⟨xb, hxb⟩ : ∃ z : ByteArray, (⟨#[120]⟩ : ByteArray) ++ fb ++ ⟨#[120]⟩ = z := ⟨_, rfl⟩
      rw [hxb] at hba
      have hxbs : xb.size ≤ 9223372036854775807 := by
        have h1 : xb.data.toList.length = xb.size := rfl
        rw [hba] at h1; simp at h1; omega
      have KV := Lib.hid (fun W => tok_value xb W hxbs)
      rw [hba] at KV
      have HXB := Lib.hid hxb
      have HO2 := Lib.hid (show (Tp.isVal (120 :: F ++ [120]) && fs.all Hr.fldB) = false by
        have h := HOK.out
        unfold Hr.okB at h
        rw [hFF] at h ⊢
        rw [not_or] at hbl
        simpa [hbl.1, hbl.2] using h)
      obtain ⟨bv, hbv⟩ : ∃ z, Tp.isVal (120 :: F ++ [120]) = z := ⟨_, rfl⟩
      rw [hbv] at KV HO2
      clear hub hba hxb hxbs hbl hbl1 hFF hbv
      go_enter_defers Tryz.func25, Tryz.ntmps25
      go_wp2_with fail
      rw [HHH.out, HW2.out]
      refine (KT.out W2).mono ?_
      rintro e w3 ⟨rfl, hb3⟩
      have HC3 := Lib.hid hb3
      have hg3 := (hb3.block H (by rw [HZ2.out]; omega)).trans HG0.out
      have b0 : w3.cell? ⟨H, 0, none⟩ = some (.string fb) := by simp [World.cell?, hg3]
      clear hb3 hg3 a0 a1
      go_wp2_with fail
      rw [HXB.out]
      refine (KV.out w3).mono ?_
      rintro e w4 ⟨rfl, hb4⟩
      have HC4 := Lib.hid (HC3.out.trans (hb4.mono HC3.out.size))
      clear hb4 b0
      cases bv
      · go_wp2_with fail
        refine (KMN.out w4).mono ?_
        rintro e w5 ⟨rfl, hw5⟩
        subst w5
        exact HDOOR.out _ _ rfl rfl HC4.out
      · go_wp2_with fail
        refine (hd_must 2 w4).mono ?_
        rintro e w5 ⟨rfl, hw5⟩
        subst w5
        have hg4 := (HC4.out.block H (by rw [HZ2.out]; omega)).trans HG0.out
        have b1 : w4.cell? ⟨H, 1, none⟩ = some (.slice p N c) := by simp [World.cell?, hg4]
        clear hg4
        go_wp2_with fail
        clear b1
        go_loopw [26] (fun i wr => ∃ k : Nat, k ≤ N ∧ i = .int .i64 k ∧ (fs.take k).all Hr.fldB = true ∧ Below W2.heap.size W2 wr) (fun i _ => N - (intOf i).toNat)
        case atStart => exact ⟨0, Nat.zero_le _, rfl, rfl, HC4.out⟩
        case round =>
          obtain ⟨k, hk, rfl, hall, hbl⟩ := hrel
          have HALL := Lib.hid hall
          have HBL := Lib.hid hbl
          clear hbl hall
          by_cases hlt : k < N
          · obtain ⟨g1, o1, rfl, hc1⟩ := (HV2.out.below HBL.out).cells (k := k) (by rw [HNN.out]; exact hlt)
            obtain ⟨hx, hy⟩ := hc1 k (by rw [HNN.out]; exact hlt)
            have HTK := Lib.hid (show fs.take (k + 1) = fs.take k ++ [fs.getD k ([], [])] by
              rw [List.take_add_one, List.getElem?_eq_getElem (by rw [HNN.out]; exact hlt), List.getD_eq_getElem?_getD, List.getElem?_eq_getElem (by rw [HNN.out]; exact hlt)]; rfl)
            have hszf := HSS.out (fs.getD k ([], [])) (by rw [List.getD_eq_getElem?_getD, List.getElem?_eq_getElem (by rw [HNN.out]; exact hlt)]; exact List.getElem_mem _)
            obtain ⟨⟨n0, v0⟩, hf⟩ : ∃ x, fs.getD k ([], []) = x := ⟨_, rfl⟩
            rw [hf] at hx hy HTK hszf
            unfold Hp.sx at hx hy
            simp only at hx hy hszf
            obtain ⟨nb, hnb⟩ : ∃ z : ByteArray, (⟨n0.toArray⟩ : ByteArray) = z := ⟨_, rfl⟩
            obtain ⟨vb, hvb⟩ : ∃ z : ByteArray, (⟨v0.toArray⟩ : ByteArray) = z := ⟨_, rfl⟩
            rw [hnb] at hx
            rw [hvb] at hy
            have hns : nb.size ≤ 100000 := by rw [← hnb]; exact hszf.1
            have hvs : vb.size ≤ 100000 := by rw [← hvb]; exact hszf.2
            have KT0 := fun W => tok_token nb W (by omega)
            have KL0 := fun W => tok_lower nb W (by omega)
            have KV0 := fun W => tok_value vb W (by omega)
            rw [show nb.data.toList = n0 by rw [← hnb]] at KT0 KL0
            rw [show vb.data.toList = v0 by rw [← hvb]] at KV0
            obtain ⟨lb, hlb⟩ : ∃ z : ByteArray, (⟨(Tp.lower n0).toArray⟩ : ByteArray) = z := ⟨_, rfl⟩
            rw [hlb] at KL0
            have hq : (lb.toList == nb.toList) = (Tp.lower n0 == n0) := by
              rw [← hlb, ← hnb, ByteArray.toList_eq, ByteArray.toList_eq]
            obtain ⟨q1, hq1⟩ : ∃ z, Tp.isTok n0 = z := ⟨_, rfl⟩
            obtain ⟨q2, hq2⟩ : ∃ z, (Tp.lower n0 == n0) = z := ⟨_, rfl⟩
            obtain ⟨q3, hq3⟩ : ∃ z, Tp.isVal v0 = z := ⟨_, rfl⟩
            rw [hq1] at KT0
            rw [hq2] at hq
            rw [hq3] at KV0
            have HFB2 := Lib.hid (show Hr.fldB (n0, v0) = (q1 && q2 && q3) by rw [← hq1, ← hq2, ← hq3]; rfl)
            have KTO := Lib.hid KT0
            have KLO := Lib.hid KL0
            have KVA := Lib.hid KV0
            have HQ := Lib.hid hq
            obtain ⟨V, hV⟩ : ∃ z, wr.heap.size = z := ⟨_, rfl⟩
            obtain ⟨W6, hW6⟩ : ∃ Z, wr.alloc (.cells #[.string nb, .string vb] 59) = Z := ⟨_, rfl⟩
            have hb6 : Below wr.heap.size wr W6 := by rw [← hW6]; exact (Below.refl _ _).alloc (Nat.le_refl _) _
            have HB6 := Lib.hid (HBL.out.trans (hb6.mono HBL.out.size))
            have hg6 : W6.heap[V]? = some (.cells #[.string nb, .string vb] 59 (0, 0)) := by rw [← hW6, ← hV]; exact World.alloc_heap_new _ _
            have HVL0 := Lib.hid (show V < W6.heap.size from (Array.getElem?_eq_some_iff.1 hg6).1)
            have HC0 := Lib.hid (show W6.cell? ⟨V, 0, none⟩ = some (.string nb) by simp [World.cell?, hg6])
            have HC1 := Lib.hid (show W6.cell? ⟨V, 1, none⟩ = some (.string vb) by simp [World.cell?, hg6])
            have HW6 := Lib.hid hW6
            have HVV := Lib.hid hV
            clear hf hszf hnb hvb KT0 KL0 KV0 hlb hq hq1 hq2 hq3 hns hvs hc1 hb6 hg6 hW6 hV
            go_wp2_with fail
            rw [HVV.out, HW6.out]
            clear hx hy
            cases q1
            · refine region_slotsP (fun i => 30 + min i 16) (ckGA V nb vb lb) (fun i => ([true, true, true, true, false, false, false, false, false, false, true, true, false, false, false, true, true] : List Bool).getD i true) (by kernel_rfl) (by kernel_rfl) (fun i => by show 30 + min i 16 < _; simp; omega) (fun i j hi hj h => by have hi : i < 17 := hi; have hj : j < 17 := hj; omega) ?mono ?dst ?gu ?ng ?skip ?step ?done
              case mono =>
                intro i W W' v h hbw
                match i, h with
                | 0, h | 1, h | 2, h | 3, h | 4, h | 5, h | 6, h | 7, h | 8, h | 9, h | 10, h | 11, h | 12, h | 13, h | 14, h | 15, h | 16, h => exact h
                | n + 17, h => exact h.elim
              case dst =>
                intro i o ho
                match i, ho with
                | 0, ho | 1, ho | 2, ho | 3, ho | 4, ho | 5, ho | 6, ho | 7, ho | 8, ho | 9, ho | 10, ho | 11, ho | 12, ho | 13, ho | 14, ho | 15, ho | 16, ho => cases ho; rfl
                | n + 17, ho => exact absurd ho (by simp)
              case gu =>
                intro i o g b ho hgd W v hv
                match i, ho with
                | 0, ho => cases ho; cases hgd
                | 1, ho => cases ho; cases hgd
                | 2, ho => cases ho; cases hgd
                | 3, ho => cases ho; cases hgd
                | 4, ho => cases ho; cases hgd; first | exact .inl hv | exact .inr ⟨rfl, hv⟩
                | 5, ho => cases ho; cases hgd; first | exact .inl hv | exact .inr ⟨rfl, hv⟩
                | 6, ho => cases ho; cases hgd; first | exact .inl hv | exact .inr ⟨rfl, hv⟩
                | 7, ho => cases ho; cases hgd; first | exact .inl hv | exact .inr ⟨rfl, hv⟩
                | 8, ho => cases ho; cases hgd; first | exact .inl hv | exact .inr ⟨rfl, hv⟩
                | 9, ho => cases ho; cases hgd; first | exact .inl hv | exact .inr ⟨rfl, hv⟩
                | 10, ho => cases ho; cases hgd
                | 11, ho => cases ho; cases hgd
                | 12, ho => cases ho; cases hgd; first | exact .inl hv | exact .inr ⟨rfl, hv⟩
                | 13, ho => cases ho; cases hgd; first | exact .inl hv | exact .inr ⟨rfl, hv⟩
                | 14, ho => cases ho; cases hgd; first | exact .inl hv | exact .inr ⟨rfl, hv⟩
                | 15, ho => cases ho; cases hgd
                | 16, ho => cases ho; cases hgd
                | n + 17, ho => exact absurd ho (by simp)
              case ng =>
                intro i o ho hgd
                match i, ho with
                | 0, ho => cases ho; first | rfl | cases hgd
                | 1, ho => cases ho; first | rfl | cases hgd
                | 2, ho => cases ho; first | rfl | cases hgd
                | 3, ho => cases ho; first | rfl | cases hgd
                | 4, ho => cases ho; first | rfl | cases hgd
                | 5, ho => cases ho; first | rfl | cases hgd
                | 6, ho => cases ho; first | rfl | cases hgd
                | 7, ho => cases ho; first | rfl | cases hgd
                | 8, ho => cases ho; first | rfl | cases hgd
                | 9, ho => cases ho; first | rfl | cases hgd
                | 10, ho => cases ho; first | rfl | cases hgd
                | 11, ho => cases ho; first | rfl | cases hgd
                | 12, ho => cases ho; first | rfl | cases hgd
                | 13, ho => cases ho; first | rfl | cases hgd
                | 14, ho => cases ho; first | rfl | cases hgd
                | 15, ho => cases ho; first | rfl | cases hgd
                | 16, ho => cases ho; first | rfl | cases hgd
                | n + 17, ho => exact absurd ho (by simp)
              case skip =>
                intro i W hi hsel
                match i, hi, hsel with
                | 0, _, hsel => first | exact absurd hsel (by decide) | rfl
                | 1, _, hsel => first | exact absurd hsel (by decide) | rfl
                | 2, _, hsel => first | exact absurd hsel (by decide) | rfl
                | 3, _, hsel => first | exact absurd hsel (by decide) | rfl
                | 4, _, hsel => first | exact absurd hsel (by decide) | rfl
                | 5, _, hsel => first | exact absurd hsel (by decide) | rfl
                | 6, _, hsel => first | exact absurd hsel (by decide) | rfl
                | 7, _, hsel => first | exact absurd hsel (by decide) | rfl
                | 8, _, hsel => first | exact absurd hsel (by decide) | rfl
                | 9, _, hsel => first | exact absurd hsel (by decide) | rfl
                | 10, _, hsel => first | exact absurd hsel (by decide) | rfl
                | 11, _, hsel => first | exact absurd hsel (by decide) | rfl
                | 12, _, hsel => first | exact absurd hsel (by decide) | rfl
                | 13, _, hsel => first | exact absurd hsel (by decide) | rfl
                | 14, _, hsel => first | exact absurd hsel (by decide) | rfl
                | 15, _, hsel => first | exact absurd hsel (by decide) | rfl
                | 16, _, hsel => first | exact absurd hsel (by decide) | rfl
                | n + 17, hi, _ => exact absurd hi (by simp)
              case step =>
                intro f a' W i o ho hsel hpre hbel hrest hdf
                match i, ho, hsel with
                | 0, ho, _ =>
                  cases ho
                  have q4 : a'.tmps.getD 4 undef = .pointer (some ⟨V, 0, none⟩) := (hrest 4 (by intro i hi; have hi : i < 17 := hi; show 30 + min i 16 ≠ _; omega))
                  have e4 := rg_ev q4
                  exact rg_same (.pointer (some ⟨V, 0, none⟩)) (by unfold Oper.wp execOp; go_simp; all_goals ((try simp only [e4]); (try go_simp); (try rw [if_pos (by omega)]); (try rw [if_neg (by omega)]); first | done | rfl | exact ⟨rfl, rfl⟩ | trivial)) rfl
                | 1, ho, _ =>
                  cases ho
                  have q30 : a'.tmps.getD 30 undef = .pointer (some ⟨V, 0, none⟩) := (hpre { on := 0, ground := .data } (by simp) rfl)
                  have c0 : W.cell? ⟨V, 0, none⟩ = some (.string nb) := (hbel.cell (p := ⟨V, 0, none⟩) HVL0.out).trans HC0.out
                  have e30 := rg_ev q30
                  exact rg_same (.string nb) (by unfold Oper.wp execOp; go_simp; all_goals ((try simp only [e30]); (try go_simp); (try rw [if_pos (by omega)]); (try rw [if_neg (by omega)]); first | done | rfl | exact ⟨rfl, rfl⟩ | trivial)) rfl
                | 2, ho, _ =>
                  cases ho
                  have q31 : a'.tmps.getD 31 undef = .string nb := (hpre { on := 1, ground := .data } (by simp) rfl)
                  exact rg_call 31 68 _ _ _ rfl q31 (enters_of Tryz.func68 (by kernel_rfl) rfl) (KTO.out W) (fun e w' h => ⟨_, h.1, _, rfl, rfl, h.2⟩)
                | 3, ho, _ =>
                  cases ho
                  have q32 : a'.tmps.getD 32 undef = .bool false := (hpre { on := 2, ground := .data } (by simp) rfl)
                  have e32 := rg_ev q32
                  exact rg_same (.bool false) (by unfold Oper.wp execOp; go_simp; all_goals ((try simp only [e32]); (try go_simp); (try rw [if_pos (by omega)]); (try rw [if_neg (by omega)]); first | done | rfl | exact ⟨rfl, rfl⟩ | trivial)) rfl
                | 4, ho, hsel => exact absurd hsel (by decide)
                | 5, ho, hsel => exact absurd hsel (by decide)
                | 6, ho, hsel => exact absurd hsel (by decide)
                | 7, ho, hsel => exact absurd hsel (by decide)
                | 8, ho, hsel => exact absurd hsel (by decide)
                | 9, ho, hsel => exact absurd hsel (by decide)
                | 10, ho, _ =>
                  cases ho
                  have q33 : a'.tmps.getD 33 undef = .bool false := (hpre { on := 3, ground := .data } (by simp) rfl)
                  have q39 : a'.tmps.getD 39 undef = undef := (hpre { on := 9, ground := .data } (by simp) rfl)
                  have e33 := rg_ev q33
                  have e39 := rg_ev q39
                  exact rg_same (.bool false) (by unfold Oper.wp execOp; go_simp; all_goals ((try simp only [e33, e39]); (try go_simp); (try rw [if_pos (by omega)]); (try rw [if_neg (by omega)]); first | done | rfl | exact ⟨rfl, rfl⟩ | trivial)) rfl
                | 11, ho, _ =>
                  cases ho
                  have q40 : a'.tmps.getD 40 undef = .bool false := (hpre { on := 10, ground := .data } (by simp) rfl)
                  have e40 := rg_ev q40
                  exact rg_same (.bool false) (by unfold Oper.wp execOp; go_simp; all_goals ((try simp only [e40]); (try go_simp); (try rw [if_pos (by omega)]); (try rw [if_neg (by omega)]); first | done | rfl | exact ⟨rfl, rfl⟩ | trivial)) rfl
                | 12, ho, hsel => exact absurd hsel (by decide)
                | 13, ho, hsel => exact absurd hsel (by decide)
                | 14, ho, hsel => exact absurd hsel (by decide)
                | 15, ho, _ =>
                  cases ho
                  have q41 : a'.tmps.getD 41 undef = .bool false := (hpre { on := 11, ground := .data } (by simp) rfl)
                  have q44 : a'.tmps.getD 44 undef = undef := (hpre { on := 14, ground := .data } (by simp) rfl)
                  have e41 := rg_ev q41
                  have e44 := rg_ev q44
                  exact rg_same (.bool false) (by unfold Oper.wp execOp; go_simp; all_goals ((try simp only [e41, e44]); (try go_simp); (try rw [if_pos (by omega)]); (try rw [if_neg (by omega)]); first | done | rfl | exact ⟨rfl, rfl⟩ | trivial)) rfl
                | 16, ho, _ =>
                  cases ho
                  have q45 : a'.tmps.getD 45 undef = .bool false := (hpre { on := 15, ground := .data } (by simp) rfl)
                  refine ck_callno 45 67 _ _ _ [{ v := errno 2, recovered := false }] _ rfl q45 (enters_of Tryz.func67 (by kernel_rfl) rfl) (KMN.out W) ?_
                  rintro e w' ⟨rfl, rfl⟩
                  exact ⟨rfl, HDOOR.out _ _ hdf (hrest 2 (by intro i hi; show 30 + min i 16 ≠ _; omega)) (HB6.out.trans (hbel.mono HB6.out.size))⟩
                | n + 17, ho, _ => exact absurd ho (by simp)
              case done =>
                intro vs W hbel hvs
                exact (hvs 16 (by decide)).elim
            · cases q2
              · have hn : (lb.toList == nb.toList) = false := HQ.out
                refine region_slotsP (fun i => 30 + min i 16) (ckGB V nb vb lb) (fun i => ([true, true, true, true, true, true, true, true, true, true, true, true, false, false, false, true, true] : List Bool).getD i true) (by kernel_rfl) (by kernel_rfl) (fun i => by show 30 + min i 16 < _; simp; omega) (fun i j hi hj h => by have hi : i < 17 := hi; have hj : j < 17 := hj; omega) ?mono ?dst ?gu ?ng ?skip ?step ?done
                case mono =>
                  intro i W W' v h hbw
                  match i, h with
                  | 0, h | 1, h | 2, h | 3, h | 4, h | 5, h | 6, h | 7, h | 8, h | 9, h | 10, h | 11, h | 12, h | 13, h | 14, h | 15, h | 16, h => exact h
                  | n + 17, h => exact h.elim
                case dst =>
                  intro i o ho
                  match i, ho with
                  | 0, ho | 1, ho | 2, ho | 3, ho | 4, ho | 5, ho | 6, ho | 7, ho | 8, ho | 9, ho | 10, ho | 11, ho | 12, ho | 13, ho | 14, ho | 15, ho | 16, ho => cases ho; rfl
                  | n + 17, ho => exact absurd ho (by simp)
                case gu =>
                  intro i o g b ho hgd W v hv
                  match i, ho with
                  | 0, ho => cases ho; cases hgd
                  | 1, ho => cases ho; cases hgd
                  | 2, ho => cases ho; cases hgd
                  | 3, ho => cases ho; cases hgd
                  | 4, ho => cases ho; cases hgd; first | exact .inl hv | exact .inr ⟨rfl, hv⟩
                  | 5, ho => cases ho; cases hgd; first | exact .inl hv | exact .inr ⟨rfl, hv⟩
                  | 6, ho => cases ho; cases hgd; first | exact .inl hv | exact .inr ⟨rfl, hv⟩
                  | 7, ho => cases ho; cases hgd; first | exact .inl hv | exact .inr ⟨rfl, hv⟩
                  | 8, ho => cases ho; cases hgd; first | exact .inl hv | exact .inr ⟨rfl, hv⟩
                  | 9, ho => cases ho; cases hgd; first | exact .inl hv | exact .inr ⟨rfl, hv⟩
                  | 10, ho => cases ho; cases hgd
                  | 11, ho => cases ho; cases hgd
                  | 12, ho => cases ho; cases hgd; first | exact .inl hv | exact .inr ⟨rfl, hv⟩
                  | 13, ho => cases ho; cases hgd; first | exact .inl hv | exact .inr ⟨rfl, hv⟩
                  | 14, ho => cases ho; cases hgd; first | exact .inl hv | exact .inr ⟨rfl, hv⟩
                  | 15, ho => cases ho; cases hgd
                  | 16, ho => cases ho; cases hgd
                  | n + 17, ho => exact absurd ho (by simp)
                case ng =>
                  intro i o ho hgd
                  match i, ho with
                  | 0, ho => cases ho; first | rfl | cases hgd
                  | 1, ho => cases ho; first | rfl | cases hgd
                  | 2, ho => cases ho; first | rfl | cases hgd
                  | 3, ho => cases ho; first | rfl | cases hgd
                  | 4, ho => cases ho; first | rfl | cases hgd
                  | 5, ho => cases ho; first | rfl | cases hgd
                  | 6, ho => cases ho; first | rfl | cases hgd
                  | 7, ho => cases ho; first | rfl | cases hgd
                  | 8, ho => cases ho; first | rfl | cases hgd
                  | 9, ho => cases ho; first | rfl | cases hgd
                  | 10, ho => cases ho; first | rfl | cases hgd
                  | 11, ho => cases ho; first | rfl | cases hgd
                  | 12, ho => cases ho; first | rfl | cases hgd
                  | 13, ho => cases ho; first | rfl | cases hgd
                  | 14, ho => cases ho; first | rfl | cases hgd
                  | 15, ho => cases ho; first | rfl | cases hgd
                  | 16, ho => cases ho; first | rfl | cases hgd
                  | n + 17, ho => exact absurd ho (by simp)
                case skip =>
                  intro i W hi hsel
                  match i, hi, hsel with
                  | 0, _, hsel => first | exact absurd hsel (by decide) | rfl
                  | 1, _, hsel => first | exact absurd hsel (by decide) | rfl
                  | 2, _, hsel => first | exact absurd hsel (by decide) | rfl
                  | 3, _, hsel => first | exact absurd hsel (by decide) | rfl
                  | 4, _, hsel => first | exact absurd hsel (by decide) | rfl
                  | 5, _, hsel => first | exact absurd hsel (by decide) | rfl
                  | 6, _, hsel => first | exact absurd hsel (by decide) | rfl
                  | 7, _, hsel => first | exact absurd hsel (by decide) | rfl
                  | 8, _, hsel => first | exact absurd hsel (by decide) | rfl
                  | 9, _, hsel => first | exact absurd hsel (by decide) | rfl
                  | 10, _, hsel => first | exact absurd hsel (by decide) | rfl
                  | 11, _, hsel => first | exact absurd hsel (by decide) | rfl
                  | 12, _, hsel => first | exact absurd hsel (by decide) | rfl
                  | 13, _, hsel => first | exact absurd hsel (by decide) | rfl
                  | 14, _, hsel => first | exact absurd hsel (by decide) | rfl
                  | 15, _, hsel => first | exact absurd hsel (by decide) | rfl
                  | 16, _, hsel => first | exact absurd hsel (by decide) | rfl
                  | n + 17, hi, _ => exact absurd hi (by simp)
                case step =>
                  intro f a' W i o ho hsel hpre hbel hrest hdf
                  match i, ho, hsel with
                  | 0, ho, _ =>
                    cases ho
                    have q4 : a'.tmps.getD 4 undef = .pointer (some ⟨V, 0, none⟩) := (hrest 4 (by intro i hi; have hi : i < 17 := hi; show 30 + min i 16 ≠ _; omega))
                    have e4 := rg_ev q4
                    exact rg_same (.pointer (some ⟨V, 0, none⟩)) (by unfold Oper.wp execOp; go_simp; all_goals ((try simp only [e4]); (try go_simp); (try rw [if_pos (by omega)]); (try rw [if_neg (by omega)]); first | done | rfl | exact ⟨rfl, rfl⟩ | trivial)) rfl
                  | 1, ho, _ =>
                    cases ho
                    have q30 : a'.tmps.getD 30 undef = .pointer (some ⟨V, 0, none⟩) := (hpre { on := 0, ground := .data } (by simp) rfl)
                    have c0 : W.cell? ⟨V, 0, none⟩ = some (.string nb) := (hbel.cell (p := ⟨V, 0, none⟩) HVL0.out).trans HC0.out
                    have e30 := rg_ev q30
                    exact rg_same (.string nb) (by unfold Oper.wp execOp; go_simp; all_goals ((try simp only [e30]); (try go_simp); (try rw [if_pos (by omega)]); (try rw [if_neg (by omega)]); first | done | rfl | exact ⟨rfl, rfl⟩ | trivial)) rfl
                  | 2, ho, _ =>
                    cases ho
                    have q31 : a'.tmps.getD 31 undef = .string nb := (hpre { on := 1, ground := .data } (by simp) rfl)
                    exact rg_call 31 68 _ _ _ rfl q31 (enters_of Tryz.func68 (by kernel_rfl) rfl) (KTO.out W) (fun e w' h => ⟨_, h.1, _, rfl, rfl, h.2⟩)
                  | 3, ho, _ =>
                    cases ho
                    have q32 : a'.tmps.getD 32 undef = .bool true := (hpre { on := 2, ground := .data } (by simp) rfl)
                    have e32 := rg_ev q32
                    exact rg_same (.bool true) (by unfold Oper.wp execOp; go_simp; all_goals ((try simp only [e32]); (try go_simp); (try rw [if_pos (by omega)]); (try rw [if_neg (by omega)]); first | done | rfl | exact ⟨rfl, rfl⟩ | trivial)) rfl
                  | 4, ho, _ =>
                    cases ho
                    have q4 : a'.tmps.getD 4 undef = .pointer (some ⟨V, 0, none⟩) := (hrest 4 (by intro i hi; have hi : i < 17 := hi; show 30 + min i 16 ≠ _; omega))
                    have e4 := rg_ev q4
                    exact rg_same (.pointer (some ⟨V, 0, none⟩)) (by unfold Oper.wp execOp; go_simp; all_goals ((try simp only [e4]); (try go_simp); (try rw [if_pos (by omega)]); (try rw [if_neg (by omega)]); first | done | rfl | exact ⟨rfl, rfl⟩ | trivial)) rfl
                  | 5, ho, _ =>
                    cases ho
                    have q34 : a'.tmps.getD 34 undef = .pointer (some ⟨V, 0, none⟩) := (hpre { on := 4, ground := .data } (by simp) rfl)
                    have c0 : W.cell? ⟨V, 0, none⟩ = some (.string nb) := (hbel.cell (p := ⟨V, 0, none⟩) HVL0.out).trans HC0.out
                    have e34 := rg_ev q34
                    exact rg_same (.string nb) (by unfold Oper.wp execOp; go_simp; all_goals ((try simp only [e34]); (try go_simp); (try rw [if_pos (by omega)]); (try rw [if_neg (by omega)]); first | done | rfl | exact ⟨rfl, rfl⟩ | trivial)) rfl
                  | 6, ho, _ =>
                    cases ho
                    have q35 : a'.tmps.getD 35 undef = .string nb := (hpre { on := 5, ground := .data } (by simp) rfl)
                    exact rg_call 35 69 _ _ _ rfl q35 (enters_of Tryz.func69 (by kernel_rfl) rfl) (KLO.out W) (fun e w' h => ⟨_, h.1, _, rfl, rfl, h.2⟩)
                  | 7, ho, _ =>
                    cases ho
                    have q4 : a'.tmps.getD 4 undef = .pointer (some ⟨V, 0, none⟩) := (hrest 4 (by intro i hi; have hi : i < 17 := hi; show 30 + min i 16 ≠ _; omega))
                    have e4 := rg_ev q4
                    exact rg_same (.pointer (some ⟨V, 0, none⟩)) (by unfold Oper.wp execOp; go_simp; all_goals ((try simp only [e4]); (try go_simp); (try rw [if_pos (by omega)]); (try rw [if_neg (by omega)]); first | done | rfl | exact ⟨rfl, rfl⟩ | trivial)) rfl
                  | 8, ho, _ =>
                    cases ho
                    have q37 : a'.tmps.getD 37 undef = .pointer (some ⟨V, 0, none⟩) := (hpre { on := 7, ground := .data } (by simp) rfl)
                    have c0 : W.cell? ⟨V, 0, none⟩ = some (.string nb) := (hbel.cell (p := ⟨V, 0, none⟩) HVL0.out).trans HC0.out
                    have e37 := rg_ev q37
                    exact rg_same (.string nb) (by unfold Oper.wp execOp; go_simp; all_goals ((try simp only [e37]); (try go_simp); (try rw [if_pos (by omega)]); (try rw [if_neg (by omega)]); first | done | rfl | exact ⟨rfl, rfl⟩ | trivial)) rfl
                  | 9, ho, _ =>
                    cases ho
                    have q36 : a'.tmps.getD 36 undef = .string lb := (hpre { on := 6, ground := .data } (by simp) rfl)
                    have q38 : a'.tmps.getD 38 undef = .string nb := (hpre { on := 8, ground := .data } (by simp) rfl)
                    have e36 := rg_ev q36
                    have e38 := rg_ev q38
                    exact rg_same (.bool false) (by unfold Oper.wp execOp; go_simp; all_goals ((try simp only [e36, e38]); (try go_simp); (try rw [if_pos (by omega)]); (try rw [if_neg (by omega)]); first | done | rfl | exact ⟨rfl, rfl⟩ | trivial)) rfl
                  | 10, ho, _ =>
                    cases ho
                    have q33 : a'.tmps.getD 33 undef = .bool true := (hpre { on := 3, ground := .data } (by simp) rfl)
                    have q39 : a'.tmps.getD 39 undef = .bool false := (hpre { on := 9, ground := .data } (by simp) rfl)
                    have e33 := rg_ev q33
                    have e39 := rg_ev q39
                    exact rg_same (.bool false) (by unfold Oper.wp execOp; go_simp; all_goals ((try simp only [e33, e39]); (try go_simp); (try rw [if_pos (by omega)]); (try rw [if_neg (by omega)]); first | done | rfl | exact ⟨rfl, rfl⟩ | trivial)) rfl
                  | 11, ho, _ =>
                    cases ho
                    have q40 : a'.tmps.getD 40 undef = .bool false := (hpre { on := 10, ground := .data } (by simp) rfl)
                    have e40 := rg_ev q40
                    exact rg_same (.bool false) (by unfold Oper.wp execOp; go_simp; all_goals ((try simp only [e40]); (try go_simp); (try rw [if_pos (by omega)]); (try rw [if_neg (by omega)]); first | done | rfl | exact ⟨rfl, rfl⟩ | trivial)) rfl
                  | 12, ho, hsel => exact absurd hsel (by decide)
                  | 13, ho, hsel => exact absurd hsel (by decide)
                  | 14, ho, hsel => exact absurd hsel (by decide)
                  | 15, ho, _ =>
                    cases ho
                    have q41 : a'.tmps.getD 41 undef = .bool false := (hpre { on := 11, ground := .data } (by simp) rfl)
                    have q44 : a'.tmps.getD 44 undef = undef := (hpre { on := 14, ground := .data } (by simp) rfl)
                    have e41 := rg_ev q41
                    have e44 := rg_ev q44
                    exact rg_same (.bool false) (by unfold Oper.wp execOp; go_simp; all_goals ((try simp only [e41, e44]); (try go_simp); (try rw [if_pos (by omega)]); (try rw [if_neg (by omega)]); first | done | rfl | exact ⟨rfl, rfl⟩ | trivial)) rfl
                  | 16, ho, _ =>
                    cases ho
                    have q45 : a'.tmps.getD 45 undef = .bool false := (hpre { on := 15, ground := .data } (by simp) rfl)
                    refine ck_callno 45 67 _ _ _ [{ v := errno 2, recovered := false }] _ rfl q45 (enters_of Tryz.func67 (by kernel_rfl) rfl) (KMN.out W) ?_
                    rintro e w' ⟨rfl, rfl⟩
                    exact ⟨rfl, HDOOR.out _ _ hdf (hrest 2 (by intro i hi; show 30 + min i 16 ≠ _; omega)) (HB6.out.trans (hbel.mono HB6.out.size))⟩
                  | n + 17, ho, _ => exact absurd ho (by simp)
                case done =>
                  intro vs W hbel hvs
                  exact (hvs 16 (by decide)).elim
              · have hn : (lb.toList == nb.toList) = true := HQ.out
                cases q3
                · refine region_slotsP (fun i => 30 + min i 16) (ckGC V nb vb lb) (fun _ => true) (by kernel_rfl) (by kernel_rfl) (fun i => by show 30 + min i 16 < _; simp; omega) (fun i j hi hj h => by have hi : i < 17 := hi; have hj : j < 17 := hj; omega) ?mono ?dst ?gu ?ng ?skip ?step ?done
                  case mono =>
                    intro i W W' v h hbw
                    match i, h with
                    | 0, h | 1, h | 2, h | 3, h | 4, h | 5, h | 6, h | 7, h | 8, h | 9, h | 10, h | 11, h | 12, h | 13, h | 14, h | 15, h | 16, h => exact h
                    | n + 17, h => exact h.elim
                  case dst =>
                    intro i o ho
                    match i, ho with
                    | 0, ho | 1, ho | 2, ho | 3, ho | 4, ho | 5, ho | 6, ho | 7, ho | 8, ho | 9, ho | 10, ho | 11, ho | 12, ho | 13, ho | 14, ho | 15, ho | 16, ho => cases ho; rfl
                    | n + 17, ho => exact absurd ho (by simp)
                  case gu =>
                    intro i o g b ho hgd W v hv
                    match i, ho with
                    | 0, ho => cases ho; cases hgd
                    | 1, ho => cases ho; cases hgd
                    | 2, ho => cases ho; cases hgd
                    | 3, ho => cases ho; cases hgd
                    | 4, ho => cases ho; cases hgd; first | exact .inl hv | exact .inr ⟨rfl, hv⟩
                    | 5, ho => cases ho; cases hgd; first | exact .inl hv | exact .inr ⟨rfl, hv⟩
                    | 6, ho => cases ho; cases hgd; first | exact .inl hv | exact .inr ⟨rfl, hv⟩
                    | 7, ho => cases ho; cases hgd; first | exact .inl hv | exact .inr ⟨rfl, hv⟩
                    | 8, ho => cases ho; cases hgd; first | exact .inl hv | exact .inr ⟨rfl, hv⟩
                    | 9, ho => cases ho; cases hgd; first | exact .inl hv | exact .inr ⟨rfl, hv⟩
                    | 10, ho => cases ho; cases hgd
                    | 11, ho => cases ho; cases hgd
                    | 12, ho => cases ho; cases hgd; first | exact .inl hv | exact .inr ⟨rfl, hv⟩
                    | 13, ho => cases ho; cases hgd; first | exact .inl hv | exact .inr ⟨rfl, hv⟩
                    | 14, ho => cases ho; cases hgd; first | exact .inl hv | exact .inr ⟨rfl, hv⟩
                    | 15, ho => cases ho; cases hgd
                    | 16, ho => cases ho; cases hgd
                    | n + 17, ho => exact absurd ho (by simp)
                  case ng =>
                    intro i o ho hgd
                    match i, ho with
                    | 0, ho => cases ho; first | rfl | cases hgd
                    | 1, ho => cases ho; first | rfl | cases hgd
                    | 2, ho => cases ho; first | rfl | cases hgd
                    | 3, ho => cases ho; first | rfl | cases hgd
                    | 4, ho => cases ho; first | rfl | cases hgd
                    | 5, ho => cases ho; first | rfl | cases hgd
                    | 6, ho => cases ho; first | rfl | cases hgd
                    | 7, ho => cases ho; first | rfl | cases hgd
                    | 8, ho => cases ho; first | rfl | cases hgd
                    | 9, ho => cases ho; first | rfl | cases hgd
                    | 10, ho => cases ho; first | rfl | cases hgd
                    | 11, ho => cases ho; first | rfl | cases hgd
                    | 12, ho => cases ho; first | rfl | cases hgd
                    | 13, ho => cases ho; first | rfl | cases hgd
                    | 14, ho => cases ho; first | rfl | cases hgd
                    | 15, ho => cases ho; first | rfl | cases hgd
                    | 16, ho => cases ho; first | rfl | cases hgd
                    | n + 17, ho => exact absurd ho (by simp)
                  case skip =>
                    intro i W hi hsel
                    match i, hi, hsel with
                    | 0, _, hsel => first | exact absurd hsel (by decide) | rfl
                    | 1, _, hsel => first | exact absurd hsel (by decide) | rfl
                    | 2, _, hsel => first | exact absurd hsel (by decide) | rfl
                    | 3, _, hsel => first | exact absurd hsel (by decide) | rfl
                    | 4, _, hsel => first | exact absurd hsel (by decide) | rfl
                    | 5, _, hsel => first | exact absurd hsel (by decide) | rfl
                    | 6, _, hsel => first | exact absurd hsel (by decide) | rfl
                    | 7, _, hsel => first | exact absurd hsel (by decide) | rfl
                    | 8, _, hsel => first | exact absurd hsel (by decide) | rfl
                    | 9, _, hsel => first | exact absurd hsel (by decide) | rfl
                    | 10, _, hsel => first | exact absurd hsel (by decide) | rfl
                    | 11, _, hsel => first | exact absurd hsel (by decide) | rfl
                    | 12, _, hsel => first | exact absurd hsel (by decide) | rfl
                    | 13, _, hsel => first | exact absurd hsel (by decide) | rfl
                    | 14, _, hsel => first | exact absurd hsel (by decide) | rfl
                    | 15, _, hsel => first | exact absurd hsel (by decide) | rfl
                    | 16, _, hsel => first | exact absurd hsel (by decide) | rfl
                    | n + 17, hi, _ => exact absurd hi (by simp)
                  case step =>
                    intro f a' W i o ho hsel hpre hbel hrest hdf
                    match i, ho, hsel with
                    | 0, ho, _ =>
                      cases ho
                      have q4 : a'.tmps.getD 4 undef = .pointer (some ⟨V, 0, none⟩) := (hrest 4 (by intro i hi; have hi : i < 17 := hi; show 30 + min i 16 ≠ _; omega))
                      have e4 := rg_ev q4
                      exact rg_same (.pointer (some ⟨V, 0, none⟩)) (by unfold Oper.wp execOp; go_simp; all_goals ((try simp only [e4]); (try go_simp); (try rw [if_pos (by omega)]); (try rw [if_neg (by omega)]); first | done | rfl | exact ⟨rfl, rfl⟩ | trivial)) rfl
                    | 1, ho, _ =>
                      cases ho
                      have q30 : a'.tmps.getD 30 undef = .pointer (some ⟨V, 0, none⟩) := (hpre { on := 0, ground := .data } (by simp) rfl)
                      have c0 : W.cell? ⟨V, 0, none⟩ = some (.string nb) := (hbel.cell (p := ⟨V, 0, none⟩) HVL0.out).trans HC0.out
                      have e30 := rg_ev q30
                      exact rg_same (.string nb) (by unfold Oper.wp execOp; go_simp; all_goals ((try simp only [e30]); (try go_simp); (try rw [if_pos (by omega)]); (try rw [if_neg (by omega)]); first | done | rfl | exact ⟨rfl, rfl⟩ | trivial)) rfl
                    | 2, ho, _ =>
                      cases ho
                      have q31 : a'.tmps.getD 31 undef = .string nb := (hpre { on := 1, ground := .data } (by simp) rfl)
                      exact rg_call 31 68 _ _ _ rfl q31 (enters_of Tryz.func68 (by kernel_rfl) rfl) (KTO.out W) (fun e w' h => ⟨_, h.1, _, rfl, rfl, h.2⟩)
                    | 3, ho, _ =>
                      cases ho
                      have q32 : a'.tmps.getD 32 undef = .bool true := (hpre { on := 2, ground := .data } (by simp) rfl)
                      have e32 := rg_ev q32
                      exact rg_same (.bool true) (by unfold Oper.wp execOp; go_simp; all_goals ((try simp only [e32]); (try go_simp); (try rw [if_pos (by omega)]); (try rw [if_neg (by omega)]); first | done | rfl | exact ⟨rfl, rfl⟩ | trivial)) rfl
                    | 4, ho, _ =>
                      cases ho
                      have q4 : a'.tmps.getD 4 undef = .pointer (some ⟨V, 0, none⟩) := (hrest 4 (by intro i hi; have hi : i < 17 := hi; show 30 + min i 16 ≠ _; omega))
                      have e4 := rg_ev q4
                      exact rg_same (.pointer (some ⟨V, 0, none⟩)) (by unfold Oper.wp execOp; go_simp; all_goals ((try simp only [e4]); (try go_simp); (try rw [if_pos (by omega)]); (try rw [if_neg (by omega)]); first | done | rfl | exact ⟨rfl, rfl⟩ | trivial)) rfl
                    | 5, ho, _ =>
                      cases ho
                      have q34 : a'.tmps.getD 34 undef = .pointer (some ⟨V, 0, none⟩) := (hpre { on := 4, ground := .data } (by simp) rfl)
                      have c0 : W.cell? ⟨V, 0, none⟩ = some (.string nb) := (hbel.cell (p := ⟨V, 0, none⟩) HVL0.out).trans HC0.out
                      have e34 := rg_ev q34
                      exact rg_same (.string nb) (by unfold Oper.wp execOp; go_simp; all_goals ((try simp only [e34]); (try go_simp); (try rw [if_pos (by omega)]); (try rw [if_neg (by omega)]); first | done | rfl | exact ⟨rfl, rfl⟩ | trivial)) rfl
                    | 6, ho, _ =>
                      cases ho
                      have q35 : a'.tmps.getD 35 undef = .string nb := (hpre { on := 5, ground := .data } (by simp) rfl)
                      exact rg_call 35 69 _ _ _ rfl q35 (enters_of Tryz.func69 (by kernel_rfl) rfl) (KLO.out W) (fun e w' h => ⟨_, h.1, _, rfl, rfl, h.2⟩)
                    | 7, ho, _ =>
                      cases ho
                      have q4 : a'.tmps.getD 4 undef = .pointer (some ⟨V, 0, none⟩) := (hrest 4 (by intro i hi; have hi : i < 17 := hi; show 30 + min i 16 ≠ _; omega))
                      have e4 := rg_ev q4
                      exact rg_same (.pointer (some ⟨V, 0, none⟩)) (by unfold Oper.wp execOp; go_simp; all_goals ((try simp only [e4]); (try go_simp); (try rw [if_pos (by omega)]); (try rw [if_neg (by omega)]); first | done | rfl | exact ⟨rfl, rfl⟩ | trivial)) rfl
                    | 8, ho, _ =>
                      cases ho
                      have q37 : a'.tmps.getD 37 undef = .pointer (some ⟨V, 0, none⟩) := (hpre { on := 7, ground := .data } (by simp) rfl)
                      have c0 : W.cell? ⟨V, 0, none⟩ = some (.string nb) := (hbel.cell (p := ⟨V, 0, none⟩) HVL0.out).trans HC0.out
                      have e37 := rg_ev q37
                      exact rg_same (.string nb) (by unfold Oper.wp execOp; go_simp; all_goals ((try simp only [e37]); (try go_simp); (try rw [if_pos (by omega)]); (try rw [if_neg (by omega)]); first | done | rfl | exact ⟨rfl, rfl⟩ | trivial)) rfl
                    | 9, ho, _ =>
                      cases ho
                      have q36 : a'.tmps.getD 36 undef = .string lb := (hpre { on := 6, ground := .data } (by simp) rfl)
                      have q38 : a'.tmps.getD 38 undef = .string nb := (hpre { on := 8, ground := .data } (by simp) rfl)
                      have e36 := rg_ev q36
                      have e38 := rg_ev q38
                      exact rg_same (.bool true) (by unfold Oper.wp execOp; go_simp; all_goals ((try simp only [e36, e38]); (try go_simp); (try rw [if_pos (by omega)]); (try rw [if_neg (by omega)]); first | done | rfl | exact ⟨rfl, rfl⟩ | trivial)) rfl
                    | 10, ho, _ =>
                      cases ho
                      have q33 : a'.tmps.getD 33 undef = .bool true := (hpre { on := 3, ground := .data } (by simp) rfl)
                      have q39 : a'.tmps.getD 39 undef = .bool true := (hpre { on := 9, ground := .data } (by simp) rfl)
                      have e33 := rg_ev q33
                      have e39 := rg_ev q39
                      exact rg_same (.bool true) (by unfold Oper.wp execOp; go_simp; all_goals ((try simp only [e33, e39]); (try go_simp); (try rw [if_pos (by omega)]); (try rw [if_neg (by omega)]); first | done | rfl | exact ⟨rfl, rfl⟩ | trivial)) rfl
                    | 11, ho, _ =>
                      cases ho
                      have q40 : a'.tmps.getD 40 undef = .bool true := (hpre { on := 10, ground := .data } (by simp) rfl)
                      have e40 := rg_ev q40
                      exact rg_same (.bool true) (by unfold Oper.wp execOp; go_simp; all_goals ((try simp only [e40]); (try go_simp); (try rw [if_pos (by omega)]); (try rw [if_neg (by omega)]); first | done | rfl | exact ⟨rfl, rfl⟩ | trivial)) rfl
                    | 12, ho, _ =>
                      cases ho
                      have q4 : a'.tmps.getD 4 undef = .pointer (some ⟨V, 0, none⟩) := (hrest 4 (by intro i hi; have hi : i < 17 := hi; show 30 + min i 16 ≠ _; omega))
                      have e4 := rg_ev q4
                      exact rg_same (.pointer (some ⟨V, 1, none⟩)) (by unfold Oper.wp execOp; go_simp; all_goals ((try simp only [e4]); (try go_simp); (try rw [if_pos (by omega)]); (try rw [if_neg (by omega)]); first | done | rfl | exact ⟨rfl, rfl⟩ | trivial)) rfl
                    | 13, ho, _ =>
                      cases ho
                      have q42 : a'.tmps.getD 42 undef = .pointer (some ⟨V, 1, none⟩) := (hpre { on := 12, ground := .data } (by simp) rfl)
                      have c1 : W.cell? ⟨V, 1, none⟩ = some (.string vb) := (hbel.cell (p := ⟨V, 1, none⟩) HVL0.out).trans HC1.out
                      have e42 := rg_ev q42
                      exact rg_same (.string vb) (by unfold Oper.wp execOp; go_simp; all_goals ((try simp only [e42]); (try go_simp); (try rw [if_pos (by omega)]); (try rw [if_neg (by omega)]); first | done | rfl | exact ⟨rfl, rfl⟩ | trivial)) rfl
                    | 14, ho, _ =>
                      cases ho
                      have q43 : a'.tmps.getD 43 undef = .string vb := (hpre { on := 13, ground := .data } (by simp) rfl)
                      exact rg_call 43 22 _ _ _ rfl q43 (enters_of Tryz.func22 (by kernel_rfl) rfl) (KVA.out W) (fun e w' h => ⟨_, h.1, _, rfl, rfl, h.2⟩)
                    | 15, ho, _ =>
                      cases ho
                      have q41 : a'.tmps.getD 41 undef = .bool true := (hpre { on := 11, ground := .data } (by simp) rfl)
                      have q44 : a'.tmps.getD 44 undef = .bool false := (hpre { on := 14, ground := .data } (by simp) rfl)
                      have e41 := rg_ev q41
                      have e44 := rg_ev q44
                      exact rg_same (.bool false) (by unfold Oper.wp execOp; go_simp; all_goals ((try simp only [e41, e44]); (try go_simp); (try rw [if_pos (by omega)]); (try rw [if_neg (by omega)]); first | done | rfl | exact ⟨rfl, rfl⟩ | trivial)) rfl
                    | 16, ho, _ =>
                      cases ho
                      have q45 : a'.tmps.getD 45 undef = .bool false := (hpre { on := 15, ground := .data } (by simp) rfl)
                      refine ck_callno 45 67 _ _ _ [{ v := errno 2, recovered := false }] _ rfl q45 (enters_of Tryz.func67 (by kernel_rfl) rfl) (KMN.out W) ?_
                      rintro e w' ⟨rfl, rfl⟩
                      exact ⟨rfl, HDOOR.out _ _ hdf (hrest 2 (by intro i hi; show 30 + min i 16 ≠ _; omega)) (HB6.out.trans (hbel.mono HB6.out.size))⟩
                    | n + 17, ho, _ => exact absurd ho (by simp)
                  case done =>
                    intro vs W hbel hvs
                    exact (hvs 16 (by decide)).elim
                · refine region_slotsP (fun i => 30 + min i 16) (ckGD V nb vb lb) (fun _ => true) (by kernel_rfl) (by kernel_rfl) (fun i => by show 30 + min i 16 < _; simp; omega) (fun i j hi hj h => by have hi : i < 17 := hi; have hj : j < 17 := hj; omega) ?mono ?dst ?gu ?ng ?skip ?step ?done
                  case mono =>
                    intro i W W' v h hbw
                    match i, h with
                    | 0, h | 1, h | 2, h | 3, h | 4, h | 5, h | 6, h | 7, h | 8, h | 9, h | 10, h | 11, h | 12, h | 13, h | 14, h | 15, h | 16, h => exact h
                    | n + 17, h => exact h.elim
                  case dst =>
                    intro i o ho
                    match i, ho with
                    | 0, ho | 1, ho | 2, ho | 3, ho | 4, ho | 5, ho | 6, ho | 7, ho | 8, ho | 9, ho | 10, ho | 11, ho | 12, ho | 13, ho | 14, ho | 15, ho | 16, ho => cases ho; rfl
                    | n + 17, ho => exact absurd ho (by simp)
                  case gu =>
                    intro i o g b ho hgd W v hv
                    match i, ho with
                    | 0, ho => cases ho; cases hgd
                    | 1, ho => cases ho; cases hgd
                    | 2, ho => cases ho; cases hgd
                    | 3, ho => cases ho; cases hgd
                    | 4, ho => cases ho; cases hgd; first | exact .inl hv | exact .inr ⟨rfl, hv⟩
                    | 5, ho => cases ho; cases hgd; first | exact .inl hv | exact .inr ⟨rfl, hv⟩
                    | 6, ho => cases ho; cases hgd; first | exact .inl hv | exact .inr ⟨rfl, hv⟩
                    | 7, ho => cases ho; cases hgd; first | exact .inl hv | exact .inr ⟨rfl, hv⟩
                    | 8, ho => cases ho; cases hgd; first | exact .inl hv | exact .inr ⟨rfl, hv⟩
                    | 9, ho => cases ho; cases hgd; first | exact .inl hv | exact .inr ⟨rfl, hv⟩
                    | 10, ho => cases ho; cases hgd
                    | 11, ho => cases ho; cases hgd
                    | 12, ho => cases ho; cases hgd; first | exact .inl hv | exact .inr ⟨rfl, hv⟩
                    | 13, ho => cases ho; cases hgd; first | exact .inl hv | exact .inr ⟨rfl, hv⟩
                    | 14, ho => cases ho; cases hgd; first | exact .inl hv | exact .inr ⟨rfl, hv⟩
                    | 15, ho => cases ho; cases hgd
                    | 16, ho => cases ho; cases hgd
                    | n + 17, ho => exact absurd ho (by simp)
                  case ng =>
                    intro i o ho hgd
                    match i, ho with
                    | 0, ho => cases ho; first | rfl | cases hgd
                    | 1, ho => cases ho; first | rfl | cases hgd
                    | 2, ho => cases ho; first | rfl | cases hgd
                    | 3, ho => cases ho; first | rfl | cases hgd
                    | 4, ho => cases ho; first | rfl | cases hgd
                    | 5, ho => cases ho; first | rfl | cases hgd
                    | 6, ho => cases ho; first | rfl | cases hgd
                    | 7, ho => cases ho; first | rfl | cases hgd
                    | 8, ho => cases ho; first | rfl | cases hgd
                    | 9, ho => cases ho; first | rfl | cases hgd
                    | 10, ho => cases ho; first | rfl | cases hgd
                    | 11, ho => cases ho; first | rfl | cases hgd
                    | 12, ho => cases ho; first | rfl | cases hgd
                    | 13, ho => cases ho; first | rfl | cases hgd
                    | 14, ho => cases ho; first | rfl | cases hgd
                    | 15, ho => cases ho; first | rfl | cases hgd
                    | 16, ho => cases ho; first | rfl | cases hgd
                    | n + 17, ho => exact absurd ho (by simp)
                  case skip =>
                    intro i W hi hsel
                    match i, hi, hsel with
                    | 0, _, hsel => first | exact absurd hsel (by decide) | rfl
                    | 1, _, hsel => first | exact absurd hsel (by decide) | rfl
                    | 2, _, hsel => first | exact absurd hsel (by decide) | rfl
                    | 3, _, hsel => first | exact absurd hsel (by decide) | rfl
                    | 4, _, hsel => first | exact absurd hsel (by decide) | rfl
                    | 5, _, hsel => first | exact absurd hsel (by decide) | rfl
                    | 6, _, hsel => first | exact absurd hsel (by decide) | rfl
                    | 7, _, hsel => first | exact absurd hsel (by decide) | rfl
                    | 8, _, hsel => first | exact absurd hsel (by decide) | rfl
                    | 9, _, hsel => first | exact absurd hsel (by decide) | rfl
                    | 10, _, hsel => first | exact absurd hsel (by decide) | rfl
                    | 11, _, hsel => first | exact absurd hsel (by decide) | rfl
                    | 12, _, hsel => first | exact absurd hsel (by decide) | rfl
                    | 13, _, hsel => first | exact absurd hsel (by decide) | rfl
                    | 14, _, hsel => first | exact absurd hsel (by decide) | rfl
                    | 15, _, hsel => first | exact absurd hsel (by decide) | rfl
                    | 16, _, hsel => first | exact absurd hsel (by decide) | rfl
                    | n + 17, hi, _ => exact absurd hi (by simp)
                  case step =>
                    intro f a' W i o ho hsel hpre hbel hrest hdf
                    match i, ho, hsel with
                    | 0, ho, _ =>
                      cases ho
                      have q4 : a'.tmps.getD 4 undef = .pointer (some ⟨V, 0, none⟩) := (hrest 4 (by intro i hi; have hi : i < 17 := hi; show 30 + min i 16 ≠ _; omega))
                      have e4 := rg_ev q4
                      exact rg_same (.pointer (some ⟨V, 0, none⟩)) (by unfold Oper.wp execOp; go_simp; all_goals ((try simp only [e4]); (try go_simp); (try rw [if_pos (by omega)]); (try rw [if_neg (by omega)]); first | done | rfl | exact ⟨rfl, rfl⟩ | trivial)) rfl
                    | 1, ho, _ =>
                      cases ho
                      have q30 : a'.tmps.getD 30 undef = .pointer (some ⟨V, 0, none⟩) := (hpre { on := 0, ground := .data } (by simp) rfl)
                      have c0 : W.cell? ⟨V, 0, none⟩ = some (.string nb) := (hbel.cell (p := ⟨V, 0, none⟩) HVL0.out).trans HC0.out
                      have e30 := rg_ev q30
                      exact rg_same (.string nb) (by unfold Oper.wp execOp; go_simp; all_goals ((try simp only [e30]); (try go_simp); (try rw [if_pos (by omega)]); (try rw [if_neg (by omega)]); first | done | rfl | exact ⟨rfl, rfl⟩ | trivial)) rfl
                    | 2, ho, _ =>
                      cases ho
                      have q31 : a'.tmps.getD 31 undef = .string nb := (hpre { on := 1, ground := .data } (by simp) rfl)
                      exact rg_call 31 68 _ _ _ rfl q31 (enters_of Tryz.func68 (by kernel_rfl) rfl) (KTO.out W) (fun e w' h => ⟨_, h.1, _, rfl, rfl, h.2⟩)
                    | 3, ho, _ =>
                      cases ho
                      have q32 : a'.tmps.getD 32 undef = .bool true := (hpre { on := 2, ground := .data } (by simp) rfl)
                      have e32 := rg_ev q32
                      exact rg_same (.bool true) (by unfold Oper.wp execOp; go_simp; all_goals ((try simp only [e32]); (try go_simp); (try rw [if_pos (by omega)]); (try rw [if_neg (by omega)]); first | done | rfl | exact ⟨rfl, rfl⟩ | trivial)) rfl
                    | 4, ho, _ =>
                      cases ho
                      have q4 : a'.tmps.getD 4 undef = .pointer (some ⟨V, 0, none⟩) := (hrest 4 (by intro i hi; have hi : i < 17 := hi; show 30 + min i 16 ≠ _; omega))
                      have e4 := rg_ev q4
                      exact rg_same (.pointer (some ⟨V, 0, none⟩)) (by unfold Oper.wp execOp; go_simp; all_goals ((try simp only [e4]); (try go_simp); (try rw [if_pos (by omega)]); (try rw [if_neg (by omega)]); first | done | rfl | exact ⟨rfl, rfl⟩ | trivial)) rfl
                    | 5, ho, _ =>
                      cases ho
                      have q34 : a'.tmps.getD 34 undef = .pointer (some ⟨V, 0, none⟩) := (hpre { on := 4, ground := .data } (by simp) rfl)
                      have c0 : W.cell? ⟨V, 0, none⟩ = some (.string nb) := (hbel.cell (p := ⟨V, 0, none⟩) HVL0.out).trans HC0.out
                      have e34 := rg_ev q34
                      exact rg_same (.string nb) (by unfold Oper.wp execOp; go_simp; all_goals ((try simp only [e34]); (try go_simp); (try rw [if_pos (by omega)]); (try rw [if_neg (by omega)]); first | done | rfl | exact ⟨rfl, rfl⟩ | trivial)) rfl
                    | 6, ho, _ =>
                      cases ho
                      have q35 : a'.tmps.getD 35 undef = .string nb := (hpre { on := 5, ground := .data } (by simp) rfl)
                      exact rg_call 35 69 _ _ _ rfl q35 (enters_of Tryz.func69 (by kernel_rfl) rfl) (KLO.out W) (fun e w' h => ⟨_, h.1, _, rfl, rfl, h.2⟩)
                    | 7, ho, _ =>
                      cases ho
                      have q4 : a'.tmps.getD 4 undef = .pointer (some ⟨V, 0, none⟩) := (hrest 4 (by intro i hi; have hi : i < 17 := hi; show 30 + min i 16 ≠ _; omega))
                      have e4 := rg_ev q4
                      exact rg_same (.pointer (some ⟨V, 0, none⟩)) (by unfold Oper.wp execOp; go_simp; all_goals ((try simp only [e4]); (try go_simp); (try rw [if_pos (by omega)]); (try rw [if_neg (by omega)]); first | done | rfl | exact ⟨rfl, rfl⟩ | trivial)) rfl
                    | 8, ho, _ =>
                      cases ho
                      have q37 : a'.tmps.getD 37 undef = .pointer (some ⟨V, 0, none⟩) := (hpre { on := 7, ground := .data } (by simp) rfl)
                      have c0 : W.cell? ⟨V, 0, none⟩ = some (.string nb) := (hbel.cell (p := ⟨V, 0, none⟩) HVL0.out).trans HC0.out
                      have e37 := rg_ev q37
                      exact rg_same (.string nb) (by unfold Oper.wp execOp; go_simp; all_goals ((try simp only [e37]); (try go_simp); (try rw [if_pos (by omega)]); (try rw [if_neg (by omega)]); first | done | rfl | exact ⟨rfl, rfl⟩ | trivial)) rfl
                    | 9, ho, _ =>
                      cases ho
                      have q36 : a'.tmps.getD 36 undef = .string lb := (hpre { on := 6, ground := .data } (by simp) rfl)
                      have q38 : a'.tmps.getD 38 undef = .string nb := (hpre { on := 8, ground := .data } (by simp) rfl)
                      have e36 := rg_ev q36
                      have e38 := rg_ev q38
                      exact rg_same (.bool true) (by unfold Oper.wp execOp; go_simp; all_goals ((try simp only [e36, e38]); (try go_simp); (try rw [if_pos (by omega)]); (try rw [if_neg (by omega)]); first | done | rfl | exact ⟨rfl, rfl⟩ | trivial)) rfl
                    | 10, ho, _ =>
                      cases ho
                      have q33 : a'.tmps.getD 33 undef = .bool true := (hpre { on := 3, ground := .data } (by simp) rfl)
                      have q39 : a'.tmps.getD 39 undef = .bool true := (hpre { on := 9, ground := .data } (by simp) rfl)
                      have e33 := rg_ev q33
                      have e39 := rg_ev q39
                      exact rg_same (.bool true) (by unfold Oper.wp execOp; go_simp; all_goals ((try simp only [e33, e39]); (try go_simp); (try rw [if_pos (by omega)]); (try rw [if_neg (by omega)]); first | done | rfl | exact ⟨rfl, rfl⟩ | trivial)) rfl
                    | 11, ho, _ =>
                      cases ho
                      have q40 : a'.tmps.getD 40 undef = .bool true := (hpre { on := 10, ground := .data } (by simp) rfl)
                      have e40 := rg_ev q40
                      exact rg_same (.bool true) (by unfold Oper.wp execOp; go_simp; all_goals ((try simp only [e40]); (try go_simp); (try rw [if_pos (by omega)]); (try rw [if_neg (by omega)]); first | done | rfl | exact ⟨rfl, rfl⟩ | trivial)) rfl
                    | 12, ho, _ =>
                      cases ho
                      have q4 : a'.tmps.getD 4 undef = .pointer (some ⟨V, 0, none⟩) := (hrest 4 (by intro i hi; have hi : i < 17 := hi; show 30 + min i 16 ≠ _; omega))
                      have e4 := rg_ev q4
                      exact rg_same (.pointer (some ⟨V, 1, none⟩)) (by unfold Oper.wp execOp; go_simp; all_goals ((try simp only [e4]); (try go_simp); (try rw [if_pos (by omega)]); (try rw [if_neg (by omega)]); first | done | rfl | exact ⟨rfl, rfl⟩ | trivial)) rfl
                    | 13, ho, _ =>
                      cases ho
                      have q42 : a'.tmps.getD 42 undef = .pointer (some ⟨V, 1, none⟩) := (hpre { on := 12, ground := .data } (by simp) rfl)
                      have c1 : W.cell? ⟨V, 1, none⟩ = some (.string vb) := (hbel.cell (p := ⟨V, 1, none⟩) HVL0.out).trans HC1.out
                      have e42 := rg_ev q42
                      exact rg_same (.string vb) (by unfold Oper.wp execOp; go_simp; all_goals ((try simp only [e42]); (try go_simp); (try rw [if_pos (by omega)]); (try rw [if_neg (by omega)]); first | done | rfl | exact ⟨rfl, rfl⟩ | trivial)) rfl
                    | 14, ho, _ =>
                      cases ho
                      have q43 : a'.tmps.getD 43 undef = .string vb := (hpre { on := 13, ground := .data } (by simp) rfl)
                      exact rg_call 43 22 _ _ _ rfl q43 (enters_of Tryz.func22 (by kernel_rfl) rfl) (KVA.out W) (fun e w' h => ⟨_, h.1, _, rfl, rfl, h.2⟩)
                    | 15, ho, _ =>
                      cases ho
                      have q41 : a'.tmps.getD 41 undef = .bool true := (hpre { on := 11, ground := .data } (by simp) rfl)
                      have q44 : a'.tmps.getD 44 undef = .bool true := (hpre { on := 14, ground := .data } (by simp) rfl)
                      have e41 := rg_ev q41
                      have e44 := rg_ev q44
                      exact rg_same (.bool true) (by unfold Oper.wp execOp; go_simp; all_goals ((try simp only [e41, e44]); (try go_simp); (try rw [if_pos (by omega)]); (try rw [if_neg (by omega)]); first | done | rfl | exact ⟨rfl, rfl⟩ | trivial)) rfl
                    | 16, ho, _ =>
                      cases ho
                      have q45 : a'.tmps.getD 45 undef = .bool true := (hpre { on := 15, ground := .data } (by simp) rfl)
                      exact rg_callc 45 67 _ _ _ _ rfl q45 (enters_of Tryz.func67 (by kernel_rfl) rfl) (hd_must 2 W) (fun e w' h => ⟨_, h.1, _, rfl, rfl, by rw [h.2]; exact Below.refl _ _⟩)
                    | n + 17, ho, _ => exact absurd ho (by simp)
                  case done =>
                    intro vs W hbel hvs
                    have v0 : vs 0 = .pointer (some ⟨V, 0, none⟩) := hvs 0 (by decide)
                    have v1 : vs 1 = .string nb := hvs 1 (by decide)
                    have v2 : vs 2 = .bool true := hvs 2 (by decide)
                    have v3 : vs 3 = .bool true := hvs 3 (by decide)
                    have v4 : vs 4 = .pointer (some ⟨V, 0, none⟩) := hvs 4 (by decide)
                    have v5 : vs 5 = .string nb := hvs 5 (by decide)
                    have v6 : vs 6 = .string lb := hvs 6 (by decide)
                    have v7 : vs 7 = .pointer (some ⟨V, 0, none⟩) := hvs 7 (by decide)
                    have v8 : vs 8 = .string nb := hvs 8 (by decide)
                    have v9 : vs 9 = .bool true := hvs 9 (by decide)
                    have v10 : vs 10 = .bool true := hvs 10 (by decide)
                    have v11 : vs 11 = .bool true := hvs 11 (by decide)
                    have v12 : vs 12 = .pointer (some ⟨V, 1, none⟩) := hvs 12 (by decide)
                    have v13 : vs 13 = .string vb := hvs 13 (by decide)
                    have v14 : vs 14 = .bool true := hvs 14 (by decide)
                    have v15 : vs 15 = .bool true := hvs 15 (by decide)
                    have v16 : vs 16 = .tuple #[] := hvs 16 (by decide)
                    have HBR := Lib.hid hbel
                    simp only [fillN, List.size_toArray, List.length_cons, List.length_nil, Nat.reduceAdd, show List.range 17 = [0, 1, 2, 3, 4, 5, 6, 7, 8, 9, 10, 11, 12, 13, 14, 15, 16] from rfl, List.foldl_cons, List.foldl_nil, show 30 + min 0 16 = 30 from rfl, show 30 + min 1 16 = 31 from rfl, show 30 + min 2 16 = 32 from rfl, show 30 + min 3 16 = 33 from rfl, show 30 + min 4 16 = 34 from rfl, show 30 + min 5 16 = 35 from rfl, show 30 + min 6 16 = 36 from rfl, show 30 + min 7 16 = 37 from rfl, show 30 + min 8 16 = 38 from rfl, show 30 + min 9 16 = 39 from rfl, show 30 + min 10 16 = 40 from rfl, show 30 + min 11 16 = 41 from rfl, show 30 + min 12 16 = 42 from rfl, show 30 + min 13 16 = 43 from rfl, show 30 + min 14 16 = 44 from rfl, show 30 + min 15 16 = 45 from rfl, show 30 + min 16 16 = 46 from rfl, v0, v1, v2, v3, v4, v5, v6, v7, v8, v9, v10, v11, v12, v13, v14, v15, v16]
                    clear v0 v1 v2 v3 v4 v5 v6 v7 v8 v9 v10 v11 v12 v13 v14 v15 v16 hvs hbel
                    go_simp
                    go_wp2_with fail
                    go_roundw
                    case rel =>
                      refine ⟨k + 1, hlt, by go_num, ?_, HB6.out.trans (HBR.out.mono HB6.out.size)⟩
                      rw [HTK.out, List.all_append, HALL.out, List.all_cons, HFB2.out]; rfl
                    case measure => simp [intOf]; omega
          · exfalso
            have h := HALL.out
            rw [List.take_of_length_le (by rw [HNN.out]; omega)] at h
            have h2 := HO2.out
            rw [h] at h2
            cases h2
end Go.Proofs.YtfacmnooklljnaaGreatDoor

/- request: Status, and whether something is so of one of some texts. No conditions but those that each law states. -/
namespace Go.Proofs.YtfacmnooklljnaaGreatDoor
set_option linter.unusedVariables false
set_option linter.unusedSimpArgs false
open Go.RowKit Go.Shelf
attribute [local go_sem] Oper.semAt_some
set_option maxHeartbeats 8000000
set_option maxRecDepth 100000
theorem ix_texts (fid : FuncId) (p : List UInt8 → Bool) (v : Value) (L : List (List UInt8)) (w : World) (hv : TS w v L) (hL : L.length ≤ 100000) (eg : ∀ args W, (callFunc fid args).run Tryz.prog W = .ok (.enter fid args) W)
    (hp : ∀ x ∈ L, ∀ W, Calls Tryz.prog fid #[tx x] W fun e w' => e = .returned (.bool (p x)) ∧ Below W.heap.size W w') :
    Calls Tryz.prog 96 #[v, .func (.func fid) #[] #[]] w fun e w' => (∃ z : Int, e = .returned (.int .i64 z) ∧ decide (0 ≤ z) = L.any p) ∧ Below w.heap.size w w' := by
  obtain ⟨q, c, rfl⟩ := hv.slice
  obtain ⟨n, hn⟩ : ∃ n, L.length = n := ⟨_, rfl⟩
  rw [hn] at hv hL ⊢
  have HV := Lib.hid hv
  have HN := Lib.hid hn
  have HP := Lib.hid hp
  clear hv hn hp
  go_enter Tryz.func96, Tryz.ntmps96
  go_wp2_with fail
  go_loopw [8] (fun i wr => ∃ k : Nat, k ≤ n ∧ i = .int .i64 (k : Int) ∧ (∀ x ∈ L.take k, p x = false) ∧ Below w.heap.size w wr) (fun i _ => n - (intOf i).toNat)
  case atStart => exact ⟨0, Nat.zero_le _, rfl, fun x hx => by simp at hx, Below.refl _ _⟩
  case round =>
    obtain ⟨k, hk, rfl, hf, hb⟩ := hrel
    by_cases hlt : k < n
    · obtain ⟨g1, o1, rfl, hc1⟩ := (HV.out.below hb).cells (k := k) (by rw [HN.out]; exact hlt)
      have hx := hc1 k (by rw [HN.out]; exact hlt)
      have HK := Lib.hid (take_getD L [] k (by rw [HN.out]; exact hlt))
      have hmem : L.getD k [] ∈ L := by rw [List.getD_eq_getElem?_getD, List.getElem?_eq_getElem (by rw [HN.out]; exact hlt)]; exact List.getElem_mem _
      have KP := HP.out _ hmem wr
      obtain ⟨x, hxx⟩ : ∃ x, L.getD k [] = x := ⟨_, rfl⟩
      rw [hxx] at hx HK KP hmem
      obtain ⟨bb, hbb⟩ : ∃ z, p x = z := ⟨_, rfl⟩
      rw [hbb] at KP
      unfold tx at hx KP
      obtain ⟨xb, hxb⟩ : ∃ z : ByteArray, (⟨x.toArray⟩ : ByteArray) = z := ⟨_, rfl⟩
      rw [hxb] at hx KP
      have K := Lib.hid KP
      have HF := Lib.hid hf
      have HB := Lib.hid hb
      have HBB := Lib.hid hbb
      have HM := Lib.hid hmem
      have hI : (k : Int) < (n : Int) := by omega
      clear KP hf hb hbb hxb hxx hc1 hmem
      go_wp2_with fail
      refine K.out.mono ?_
      rintro e w2 ⟨rfl, hb2⟩
      have HB2 := Lib.hid (HB.out.trans (hb2.mono HB.out.size))
      clear hb2 hx
      cases bb with
      | true =>
        have HR := Lib.hid (show decide ((0 : Int) ≤ (k : Int)) = L.any p by
          rw [decide_eq_true (by omega)]
          exact (List.any_eq_true.2 ⟨x, HM.out, HBB.out⟩).symm)
        go_wp2_with fail
        go_ret
        exact ⟨⟨_, rfl, HR.out⟩, HB2.out⟩
      | false =>
        go_wp2_with fail
        go_roundw
        case rel =>
          refine ⟨k + 1, hlt, by go_num, fun y hy => ?_, HB2.out⟩
          rw [HK.out] at hy
          rcases List.mem_append.1 hy with h | h
          · exact HF.out y h
          · obtain rfl : y = x := by simpa using h
            exact HBB.out
        case measure => simp [intOf]; omega
    · have HR := Lib.hid (show decide ((0 : Int) ≤ -1) = L.any p by
        rw [decide_eq_false (by omega)]
        symm
        rw [List.any_eq_false]
        intro x hx
        have h := hf x (by rw [List.take_of_length_le (by rw [HN.out]; omega)]; exact hx)
        rw [h]; decide)
      have HB := Lib.hid hb
      have hI : ¬ ((k : Int) < (n : Int)) := by omega
      clear hf hb
      go_wp2_with fail
      go_ret
      exact ⟨⟨_, rfl, HR.out⟩, HB.out⟩
theorem ct_texts (fid : FuncId) (p : List UInt8 → Bool) (v : Value) (L : List (List UInt8)) (w : World) (hv : TS w v L) (hL : L.length ≤ 100000) (eg : ∀ args W, (callFunc fid args).run Tryz.prog W = .ok (.enter fid args) W)
    (hp : ∀ x ∈ L, ∀ W, Calls Tryz.prog fid #[tx x] W fun e w' => e = .returned (.bool (p x)) ∧ Below W.heap.size W w') :
    Calls Tryz.prog 75 #[v, .func (.func fid) #[] #[]] w fun e w' => e = .returned (.bool (L.any p)) ∧ Below w.heap.size w w' := by
  have K := Lib.hid (ix_texts fid p v L w hv hL eg hp)
  obtain ⟨q, c, rfl⟩ := hv.slice
  obtain ⟨n, hn⟩ : ∃ n, L.length = n := ⟨_, rfl⟩
  rw [hn] at K ⊢
  obtain ⟨a, ha⟩ : ∃ z, L.any p = z := ⟨_, rfl⟩
  rw [ha] at K ⊢
  clear hv hn hp eg ha
  go_enter Tryz.func75, Tryz.ntmps75
  go_wp2_with fail
  refine K.out.mono ?_
  rintro e w2 ⟨⟨z, rfl, hz⟩, hb⟩
  subst hz
  have HB := Lib.hid hb
  clear hb K
  go_wp2_with fail
  exact bodyPost_ret (v := .bool (decide (0 ≤ z))) (by simp [results, Tryz.results75, go_sem]) rfl ⟨rfl, HB.out⟩
theorem rq_sought (fid : FuncId) (p : List UInt8 → Bool) (v : Value) (L : List (List UInt8)) (w : World) (hv : TS w v L) (hL : L.length ≤ 100000) (eg : ∀ args W, (callFunc fid args).run Tryz.prog W = .ok (.enter fid args) W)
    (hp : ∀ x ∈ L, ∀ W, Calls Tryz.prog fid #[tx x] W fun e w' => e = .returned (.bool (p x)) ∧ Below W.heap.size W w') :
    Calls Tryz.prog 28 #[v, .func (.func fid) #[] #[]] w fun e w' => e = .returned (.bool (L.any p)) ∧ Below w.heap.size w w' := by
  have K := Lib.hid (ct_texts fid p v L w hv hL eg hp)
  obtain ⟨q, c, rfl⟩ := hv.slice
  obtain ⟨n, hn⟩ : ∃ n, L.length = n := ⟨_, rfl⟩
  rw [hn] at K ⊢
  obtain ⟨a, ha⟩ : ∃ z, L.any p = z := ⟨_, rfl⟩
  rw [ha] at K ⊢
  clear hv hn hp eg ha
  go_enter Tryz.func28, Tryz.ntmps28
  go_wp2_with fail
  refine K.out.mono ?_
  rintro e w2 ⟨rfl, hb⟩
  have HB := Lib.hid hb
  clear hb K
  go_wp2_with fail
  exact bodyPost_ret (v := .bool a) (by simp [results, Tryz.results28, go_sem]) rfl ⟨rfl, HB.out⟩
def Rq.wClose : List UInt8 := [99, 108, 111, 115, 101]
def Rq.isClose (x : List UInt8) : Bool := Tp.lower x == Rq.wClose
theorem rq_of1 (x : List UInt8) (w : World) (hx : x.length ≤ 1000000) :
    Calls Tryz.prog 30 #[tx x] w fun e w' => e = .returned (.bool (Rq.isClose x)) ∧ Below w.heap.size w w' := by
  have K := Lib.hid (tok_same ⟨x.toArray⟩ ⟨#[99, 108, 111, 115, 101]⟩ w (by simp [ByteArray.size]; omega) (by decide))
  have e : (Tp.lower (⟨x.toArray⟩ : ByteArray).data.toList == Tp.lower (⟨#[99, 108, 111, 115, 101]⟩ : ByteArray).data.toList) = Rq.isClose x := by
    unfold Rq.isClose
    rw [show Tp.lower (⟨#[99, 108, 111, 115, 101]⟩ : ByteArray).data.toList = Rq.wClose by decide]
  rw [e] at K
  obtain ⟨b, hb⟩ : ∃ z, Rq.isClose x = z := ⟨_, rfl⟩
  rw [hb] at K ⊢
  unfold tx
  obtain ⟨xb, hxb⟩ : ∃ z : ByteArray, (⟨x.toArray⟩ : ByteArray) = z := ⟨_, rfl⟩
  rw [hxb] at K ⊢
  clear e hb hxb
  go_enter Tryz.func30, Tryz.ntmps30
  go_wp2_with fail
  refine K.out.mono ?_
  rintro e w2 ⟨rfl, hb⟩
  have HB := Lib.hid hb
  clear hb K
  go_wp2_with fail
  exact bodyPost_ret (v := .bool b) (by simp [results, Tryz.results30, go_sem]) rfl ⟨rfl, HB.out⟩
theorem of1_in (args : Array Value) (W : World) : (callFunc 30 args).run Tryz.prog W = .ok (.enter 30 args) W := enters_of Tryz.func30 (by kernel_rfl) rfl args W
/-- what is asked of a head that is looked at -/
structure RqOk (F : List UInt8) (fs : List Hp.Hd) : Prop where
  f : F.length ≤ 250
  l : fs.length ≤ 1000
  s : ∀ f ∈ fs, f.1.length ≤ 100000 ∧ f.2.length ≤ 100000
  a : (Rq.joined Rq.nAcc fs).length ≤ 5000
  c : (Rq.joined Rq.nCon fs).length ≤ 5000
/-- what Status tells -/
def Rq.stW (F : List UInt8) (fs : List Hp.Hd) : Int × Int := if Hr.okB F fs = true then (Rq.status F fs, 0) else (0, 2)
theorem rq_Status (F : List UInt8) (v : Value) (fs : List Hp.Hd) (w : World) (hv : HS w v fs) (ho : RqOk F fs) (hm : Mx w) :
    Calls Tryz.prog 19 #[.agg #[Hp.sx F, v]] w fun e w' => e = .returned (.tuple #[.int .i64 (Rq.stW F fs).1, .int .i64 (Rq.stW F fs).2]) ∧ Below w.heap.size w w' := by
  have h0 : 0 < w.heap.size := by obtain ⟨m, hm⟩ := hm; exact lt_of_cell hm
  obtain ⟨W1, hW1⟩ : ∃ z, w.alloc (.cells #[Hp.sx F, v] 25) = z := ⟨_, rfl⟩
  have hb1 : Below w.heap.size w W1 := by rw [← hW1]; exact (Below.refl _ _).alloc (Nat.le_refl _) _
  have KC := hd_CheckG F v fs W1 (hv.below hb1) (by have := ho.f; omega) ho.l ho.s
  obtain ⟨p, c, rfl⟩ := hv.slice
  obtain ⟨n, hn⟩ : ∃ n, fs.length = n := ⟨_, rfl⟩
  rw [hn] at hv hW1 KC ⊢
  have hH : W1.heap[w.heap.size]? = some (.cells #[Hp.sx F, .slice p n c] 25 (0, 0)) := by rw [← hW1]; exact World.alloc_heap_new _ _
  unfold Rq.stW
  obtain ⟨ok, hok⟩ : ∃ z, Hr.okB F fs = z := ⟨_, rfl⟩
  obtain ⟨st, hst⟩ : ∃ z, Rq.status F fs = z := ⟨_, rfl⟩
  rw [hok] at KC
  rw [hok, hst]
  obtain ⟨zc, hzc⟩ : ∃ z : Int, (if ok = true then 0 else 2) = z := ⟨_, rfl⟩
  rw [hzc] at KC
  have KL := fun W (hb : Below w.heap.size w W) => rq_looked ⟨F.toArray⟩ p n c fs W (hv.below hb) ho.l ho.s (by simpa [ByteArray.size] using ho.f) (by have := ho.a; omega) (hm.below hb h0)
  unfold LkO at KL
  simp only [hst] at KL
  unfold Hp.sx at KC hW1 hH ⊢
  obtain ⟨fb, hfb⟩ : ∃ z : ByteArray, (⟨F.toArray⟩ : ByteArray) = z := ⟨_, rfl⟩
  have hfd : fb.data.toList = F := by rw [← hfb]
  rw [hfb] at KC hW1 hH ⊢
  simp only [hfb, hfd, hst] at KL
  have KC := Lib.hid KC
  have KL := Lib.hid KL
  have HH := Lib.hid hH
  have HB1 := Lib.hid hb1
  have HW1 := Lib.hid hW1
  clear hv ho hm h0 hW1 hb1 hH hok hst hfb hfd hn
  obtain ⟨A, hA⟩ : ∃ z, w.heap.size = z := ⟨_, rfl⟩
  have HA := Lib.hid hA
  rw [hA] at HH
  have c0 : W1.cell? ⟨A, 0, none⟩ = some (.string fb) := by simp [World.cell?, HH.out]
  have c1 : W1.cell? ⟨A, 1, none⟩ = some (.slice p n c) := by simp [World.cell?, HH.out]
  clear hA
  cases ok with
  | false =>
    obtain rfl : zc = 2 := hzc.symm
    clear hzc
    rw [if_neg (by decide)]
    go_enter Tryz.func19, Tryz.ntmps19
    go_upto_region 1 with (fail)
    rw [HW1.out, HA.out]
    go_wp2_with fail
    refine KC.out.mono ?_
    rintro e w2 ⟨rfl, hb⟩
    have HB := Lib.hid (HB1.out.trans (hb.mono HB1.out.size))
    clear hb c0 c1
    go_wp2_with fail
    exact bodyPost_ret (v := .tuple #[.int .i64 0, .int .i64 2]) (by simp [results, Tryz.results19, go_sem]) rfl ⟨rfl, HA.out ▸ HB.out⟩
  | true =>
    obtain rfl : zc = 0 := hzc.symm
    clear hzc
    rw [if_pos rfl]
    go_enter Tryz.func19, Tryz.ntmps19
    go_upto_region 1 with (fail)
    rw [HW1.out, HA.out]
    go_wp2_with fail
    refine KC.out.mono ?_
    rintro e w2 ⟨rfl, hb⟩
    have HB := Lib.hid (HB1.out.trans (hb.mono HB1.out.size))
    have hH2 := (hb.block _ (Array.getElem?_eq_some_iff.1 HH.out).1).trans HH.out
    have d0 : w2.cell? ⟨A, 0, none⟩ = some (.string fb) := by simp [World.cell?, hH2]
    have d1 : w2.cell? ⟨A, 1, none⟩ = some (.slice p n c) := by simp [World.cell?, hH2]
    clear hb c0 c1 hH2
    go_wp2_with fail
    refine (KL.out _ HB.out).mono ?_
    rintro e w3 ⟨⟨L, rfl, _⟩, hb3⟩
    have HB3 := Lib.hid (HB.out.trans (hb3.mono HB.out.size))
    clear hb3 d0 d1
    go_wp2_with fail
    exact bodyPost_ret (v := .tuple #[.int .i64 st, .int .i64 0]) (by simp [results, Tryz.results19, go_sem]) rfl ⟨rfl, HA.out ▸ HB3.out⟩
end Go.Proofs.YtfacmnooklljnaaGreatDoor

/- A drawn region as region_slots4, with guarded operations of which it is decided ahead which stand. No conditions but those that each law states. -/
namespace Go.Proofs.YtfacmnooklljnaaGreatDoor
set_option linter.unusedVariables false
set_option linter.unusedSimpArgs false
open Go.RowKit
section
variable {P : Program} {ops : Array Oper} {Q : Exit → Act → World → Prop}
theorem region_slots6 {id : Nat} {a0 : Act} {w0 : World} (slot : Nat → Nat) (F : (Nat → Bool) → Nat → World → Value → Prop) (T : (Nat → Bool) → World → Prop) (sel : Nat → Bool) (hm : P.follows .mixedOrders = true) (hb : backG .any ops = true)
    (hs : ∀ i, slot i < a0.tmps.size) (hinj : ∀ i j, i < ops.size → j < ops.size → slot i = slot j → i = j) (h0 : T (fun _ => false) w0.drew)
    (hdst : ∀ i o, ops[i]? = some o → o.dst = some (slot i) ∨ o.dst = none)
    (hgu : ∀ i o g b, ops[i]? = some o → o.guard = some (g, b) → (∀ o', ops[g]? = some o' → o'.dst = some (slot g)) ∧ ∀ f w v, F f g w v → v = .bool (if sel i then b else !b) ∨ (sel i = false ∧ v = undef))
    (hng : ∀ i o, ops[i]? = some o → o.guard = none → sel i = true)
    (hskip : ∀ (f : Nat → Bool) (w : World) (i : Nat) (o : Oper), ops[i]? = some o → sel i = false → T f w → o.dst = some (slot i) ∧ F (fun j => if j = i then true else f j) i w undef ∧ T (fun j => if j = i then true else f j) w ∧ ∀ j v', F f j w v' → F (fun j => if j = i then true else f j) j w v')
    (hstep : ∀ (f : Nat → Bool) (a : Act) (w : World) (i : Nat) (o : Oper), ops[i]? = some o → sel i = true → f i = false → (∀ e ∈ o.after, Region.binds .any e = true → f e.on = true ∧ F f e.on w (a.tmps.getD (slot e.on) undef)) → T f w →
      (∀ j, (∀ i, i < ops.size → slot i ≠ j) → a.tmps.getD j undef = a0.tmps.getD j undef) →
      o.wp P a w (fun a' w' => ∃ v, a' = a.put o.dst v ∧ (o.dst = none → v = a0.tmps.getD (slot i) undef) ∧ F (fun j => if j = i then true else f j) i w' v ∧ T (fun j => if j = i then true else f j) w' ∧ ∀ j, f j = true → F f j w (a.tmps.getD (slot j) undef) → F (fun j => if j = i then true else f j) j w' (a.tmps.getD (slot j) undef)) Q)
    (hdone : ∀ (f : Nat → Bool) (vs : Nat → Value) (w : World), (∀ i, i < ops.size → f i = true) → T f w → (∀ i, i < ops.size → F f i w (vs i)) → Q .normal { a0 with tmps := fillN slot vs ops.size a0.tmps } w) : (Code.region id ops true).wp P Q a0 w0 := by
  refine region_invG hm hb (Stand3 a0 ops.size slot F T) ⟨rfl, rfl, fun _ _ => rfl, fun _ _ _ => rfl, h0, fun _ _ h => by cases h⟩ ?_ ?_
  · intro f a w i o ho hf hpre hI
    have hi := (Array.getElem?_eq_some_iff.1 ho).1
    have hwant : Region.wanted o (yielded ops a.tmps) = sel i := by
      unfold Region.wanted
      cases hg : o.guard with
      | none => exact (hng i o ho hg).symm
      | some gb =>
        obtain ⟨g, b⟩ := gb
        obtain ⟨e, he, heg, hbd⟩ := (back_ofG hb ho).1 g b hg
        have hgi : g < i := by rw [← heg]; exact (back_ofG hb ho).2 e he hbd
        have hfg : f g = true := by rw [← heg]; exact hpre e he hbd
        have hv := (hgu i o g b ho hg).2 f w _ (hI.have_ g (by omega) hfg)
        have hsg : slot g < a.tmps.size := by rw [hI.size]; exact hs g
        have hy : yielded ops a.tmps g = (match a.tmps.getD (slot g) undef with | .bool x => some x | _ => none) := by
          unfold yielded
          rw [Array.getElem?_eq_getElem (show g < ops.size by omega), Option.bind_some, (hgu i o g b ho hg).1 _ (Array.getElem?_eq_getElem (by omega)), Option.bind_some, Array.getElem?_eq_getElem hsg]
          rw [Array.getD_eq_getD_getElem?, Array.getElem?_eq_getElem hsg, Option.getD_some]
          cases a.tmps[slot g] <;> rfl
        show (yielded ops a.tmps g == some b) = sel i
        rw [hy]
        rcases hv with hv | ⟨hsi, hv⟩
        · rw [hv]
          cases sel i <;> cases b <;> rfl
        · rw [hv, hsi]; rfl
    rw [hwant]
    cases hsel : sel i with
    | false =>
      rw [if_neg (by decide)]
      obtain ⟨hd, hv, ht, hst⟩ := hskip f w i o ho hsel hI.told
      rw [hd]
      have hsl : slot i < a.tmps.size := by rw [hI.size]; exact hs i
      refine ⟨hI.defers, by rw [← hI.size]; exact Array.size_setIfInBounds .., fun j hj => ?_, fun j hj hfj => ?_, ht, fun j hj hfj => ?_⟩
      · show (a.tmps.setIfInBounds (slot i) undef).getD j undef = _
        rw [getD_set _ _ _ _ hsl, if_neg (Ne.symm (hj i hi))]
        exact hI.rest j hj
      · show (a.tmps.setIfInBounds (slot i) undef).getD (slot j) undef = _
        have hji : j ≠ i := fun e => by simp [e] at hfj
        rw [getD_set _ _ _ _ hsl, if_neg (fun e => hji (hinj j i hj hi e))]
        exact hI.yet j hj (by simpa [hji] using hfj)
      · show F (fun j => if j = i then true else f j) j w ((a.tmps.setIfInBounds (slot i) undef).getD (slot j) undef)
        rw [getD_set _ _ _ _ hsl]
        by_cases hji : j = i
        · subst hji; rw [if_pos rfl]; exact hv
        · rw [if_neg (fun e => hji (hinj j i hj hi e))]
          have h2 : f j = true := by simpa [hji] using hfj
          exact hst j _ (hI.have_ j hj h2)
    | true =>
    rw [if_pos rfl]
    refine Oper.wp_mono ?_ (hstep f a w i o ho hsel hf (fun e he hbd => ⟨hpre e he hbd, hI.have_ e.on (by have := (back_ofG hb ho).2 e he hbd; omega) (hpre e he hbd)⟩) hI.told hI.rest)
    rintro a' w' ⟨v, rfl, hno, hv, ht, hst⟩
    rcases hdst i o ho with hd | hd
    · rw [hd]
      have hsl : slot i < a.tmps.size := by rw [hI.size]; exact hs i
      refine ⟨hI.defers, by rw [← hI.size]; exact Array.size_setIfInBounds .., fun j hj => ?_, fun j hj hfj => ?_, ht, fun j hj hfj => ?_⟩
      · show (a.tmps.setIfInBounds (slot i) v).getD j undef = _
        rw [getD_set _ _ _ _ hsl, if_neg (Ne.symm (hj i hi))]
        exact hI.rest j hj
      · show (a.tmps.setIfInBounds (slot i) v).getD (slot j) undef = _
        have hji : j ≠ i := fun e => by simp [e] at hfj
        rw [getD_set _ _ _ _ hsl, if_neg (fun e => hji (hinj j i hj hi e))]
        exact hI.yet j hj (by simpa [hji] using hfj)
      · show F (fun j => if j = i then true else f j) j w' ((a.tmps.setIfInBounds (slot i) v).getD (slot j) undef)
        rw [getD_set _ _ _ _ hsl]
        by_cases hji : j = i
        · subst hji; rw [if_pos rfl]; exact hv
        · rw [if_neg (fun e => hji (hinj j i hj hi e))]
          have h2 : f j = true := by simpa [hji] using hfj
          exact hst j h2 (hI.have_ j hj h2)
    · rw [hd]
      refine ⟨hI.defers, hI.size, hI.rest, fun j hj hfj => ?_, ht, fun j hj hfj => ?_⟩
      · have hji : j ≠ i := fun e => by simp [e] at hfj
        exact hI.yet j hj (by simpa [hji] using hfj)
      · show F (fun j => if j = i then true else f j) j w' (a.tmps.getD (slot j) undef)
        by_cases hji : j = i
        · subst hji
          rw [hI.yet j hj hf, ← hno hd]
          exact hv
        · have h2 : f j = true := by simpa [hji] using hfj
          exact hst j h2 (hI.have_ j hj h2)
  · intro f a w hall hI
    have e : a = { a0 with tmps := fillN slot (fun i => a.tmps.getD (slot i) undef) ops.size a0.tmps } := by
      have h1 : a.tmps = fillN slot (fun i => a.tmps.getD (slot i) undef) ops.size a0.tmps := by
        refine ext_getD (by rw [fillN_size, hI.size]) (fun j => ?_)
        by_cases hj : ∃ i, i < ops.size ∧ slot i = j
        · obtain ⟨i, hi, rfl⟩ := hj
          rw [fillN_at slot _ _ hs _ hinj i hi]
        · rw [fillN_get slot _ _ hs _ j (fun i hi e => hj ⟨i, hi, e⟩), hI.rest j (fun i hi e => hj ⟨i, hi, e⟩)]
      obtain ⟨t, d⟩ := a
      have h2 := hI.defers
      simp only at h1 h2
      rw [← h1, h2]
    rw [e]
    exact hdone f _ w hall hI.told (fun i hi => hI.have_ i hi (hall i hi))
end
end Go.Proofs.YtfacmnooklljnaaGreatDoor
