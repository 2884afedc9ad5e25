/- Texts of this claim, one behind the other: Ur, RA, Us, Ut, Pj, Uv, LSR. -/
import Derived.Test.YtbaakfcbakpmpaaGreatDoorUim5
import Derived.Test.YtbaakfcbakpmpaaGreatDoorUim2
import Derived.Test.YtbaakfcbakpmpaaGreatDoorUim1
import Derived.Laws.OwnMore
import Derived.Test.YtbaakfcbakpmpaaGreatDoorUim7
import Derived.Test.YtbaakfcbakpmpaaGreatDoorUim3
import Derived.Deep.Cut
import Derived.Deep.DeepCutAuto
/- script: Each and its iterator. No conditions but those that each law states. Printed by genUr.py (every's law: XSn's, turned). -/
namespace Go.Proofs.YtbaakfcbakpmpaaGreatDoor
set_option linter.unusedVariables false
set_option linter.unusedSimpArgs false
open Go.RowKit Go.Shelf
attribute [local go_sem] Oper.semAt_some
set_option maxHeartbeats 8000000
set_option maxRecDepth 100000
theorem sc_every2 (s : ByteArray) (gf : Nat) (lb : Array Value) (L : List (List UInt8)) (hL : Gs.parts 10 [] s.data.toList = L) (hs : s.size ≤ 50000) (JT : Nat → World → Prop) (JX : World → Prop) (w : World)
    (hJT : ∀ k X Y, JT k X → Turn w.heap.size (ownE w.heap.size) X Y → JT k Y) (hJX : ∀ X Y, JX X → Turn w.heap.size (ownE w.heap.size) X Y → JX Y) (hTab : ∀ k X, JT k X → Tabs X ∧ ML X)
    (eg : ∀ args W, (callFunc gf args).run Tryz.prog W = .ok (.enter gf args) W)
    (hskip : ∀ k X, k < L.length → Sc.says (L.getD k []) = false → JT k X → JT (k + 1) X)
    (htell : ∀ k X0 X u, k < L.length → Sc.says (L.getD k []) = true → JT k X0 → w.heap.size + 5 ≤ X0.heap.size → Below X0.heap.size X0 X → NewV X0.heap.size u → BRow X u (stp (Sc.parse Sc.stepT (L.getD k []))).bytes → (stp (Sc.parse Sc.stepT (L.getD k []))).fine →
      Calls Tryz.prog gf (#[.int .i64 k, stVal (stp (Sc.parse Sc.stepT (L.getD k []))) u, .int .i64 (erS (Sc.parse Sc.stepT (L.getD k [])))] ++ lb) X fun e Y => ((e = .returned (.bool true) ∧ JT (k + 1) Y ∧ ∀ b, w.heap.size ≤ b → b < w.heap.size + 5 → Y.heap[b]? = X.heap[b]?) ∨ (e = .returned (.bool false) ∧ JX Y)) ∧ KeepsFrom w.heap.size X Y)
    (h0 : JT 0 w) :
    Calls Tryz.prog 55 #[.string s, .func (.func gf) #[] lb] w fun e Y => (∃ v, e = .returned v) ∧ (JT L.length Y ∨ JX Y) := by
  obtain ⟨E, hE⟩ : ∃ z, w.heap.size = z := ⟨_, rfl⟩
  obtain ⟨w1, hw1⟩ : ∃ z, (w.alloc (.cells #[.func (.func gf) #[] lb] 111)).alloc (.cells #[.int .i64 0] 3) = z := ⟨_, rfl⟩
  obtain ⟨V, hV⟩ : ∃ z, ((w1.alloc (.cells #[.string s] 9)).alloc (.cells #[.string ⟨#[10]⟩] 9)).alloc (.cells #[.int .i64 0] 3) = z := ⟨_, rfl⟩
  have hb1 : Below w.heap.size w w1 := by rw [← hw1]; exact ((Below.refl _ _).alloc (Nat.le_refl _) _).alloc (by simp) _
  have hz1 : w1.heap.size = E + 2 := by rw [← hw1, ← hE]; simp
  have hbV : Below w1.heap.size w1 V := by rw [← hV]; exact (((Below.refl _ _).alloc (Nat.le_refl _) _).alloc (by simp) _).alloc (by simp; omega) _
  have hzV : V.heap.size = E + 5 := by rw [← hV]; simp [hz1]
  have hTB : V.heap[E]? = some (.cells #[.func (.func gf) #[] lb] 111 (0, 0)) := by
    rw [hbV.block _ (by omega), ← hw1, Below.heap_alloc _ _ _ (by simp [hE]), ← hE]
    exact World.alloc_heap_new _ _
  have hAT : V.heap[E + 1]? = some (.cells #[.int .i64 0] 3 (0, 0)) := by
    rw [hbV.block _ (by omega), ← hw1]
    have h := World.alloc_heap_new (w.alloc (.cells #[.func (.func gf) #[] lb] 111)) (.cells #[.int .i64 0] 3)
    simpa [hE] using h
  have hSB : V.heap[E + 2]? = some (.cells #[.string s] 9 (0, 0)) := by
    rw [← hV, Below.heap_alloc _ _ _ (by simp [hz1]), Below.heap_alloc _ _ _ (by simp [hz1])]
    have h := World.alloc_heap_new w1 (.cells #[.string s] 9)
    rw [hz1] at h; exact h
  have hZB : V.heap[E + 3]? = some (.cells #[.string ⟨#[10]⟩] 9 (0, 0)) := by
    rw [← hV, Below.heap_alloc _ _ _ (by simp [hz1])]
    have h := World.alloc_heap_new (w1.alloc (.cells #[.string s] 9)) (.cells #[.string ⟨#[10]⟩] 9)
    simpa [hz1] using h
  have hCB : V.heap[E + 4]? = some (.cells #[.int .i64 0] 3 (0, 0)) := by
    rw [← hV]
    have h := World.alloc_heap_new ((w1.alloc (.cells #[.string s] 9)).alloc (.cells #[.string ⟨#[10]⟩] 9)) (.cells #[.int .i64 0] 3)
    simpa [hz1] using h
  rw [hE] at hJT hJX htell
  have hTN : Turn E (ownE E) w V := by
    have h := hb1.trans (hbV.mono hb1.size)
    rw [hE] at h
    exact ⟨h.os, h.tape, h.output, h.size, fun k hk _ _ => h.block k (by omega)⟩
  have HV0 := Lib.hid (hJT 0 _ _ h0 hTN)
  obtain ⟨zb, hzb⟩ : ∃ y : ByteArray, (⟨#[10]⟩ : ByteArray) = y := ⟨_, rfl⟩
  have KS := Lib.hid (sc_SplitSeq s zb w1)
  have hlen : ∀ t ∈ L, t.length ≤ 50000 := fun t ht => by
    have := Gs.parts_len 10 s.data.toList [] t (by rw [hL]; exact ht)
    have hsz : s.data.toList.length = s.size := by simp
    simp only [List.length_nil] at this
    omega
  rw [← hzb] at KS
  rw [hV, hz1] at KS
  rw [hzb] at KS
  have HLEN := Lib.hid hlen
  have HL := Lib.hid hL
  have HJT := Lib.hid hJT
  have HJX := Lib.hid hJX
  have HTAB := Lib.hid hTab
  have HSKIP := Lib.hid hskip
  have HTELL := Lib.hid htell
  have HEE := Lib.hid hE
  have HW1 := Lib.hid hw1
  have HZV := Lib.hid hzV
  have HTB := Lib.hid hTB
  have HAT := Lib.hid hAT
  have HSB := Lib.hid hSB
  have HZB := Lib.hid hZB
  have HCB := Lib.hid hCB
  have HZZ := Lib.hid hzb
  clear hlen hL hJT hJX hTab hskip htell hE hw1 hzV hTB hAT hSB hZB hCB hTN hb1 hbV hV h0 hz1
  refine callsIn_wide.1 (callsIn_of_wp_marks (F := Fence.wide) (n := 9) Tryz.func55 rfl trivial ?_ rfl)
  simp only [Tryz.ntmps55, List.size_toArray, List.length_cons, List.length_nil, Nat.reduceAdd, Nat.reduceSub, Array.replicate_succ, Array.replicate_zero, List.push_toArray, List.append_toArray, List.nil_append, List.cons_append]
  refine wpIn_wide.2 ?_
  go_wp2_with fail
  rw [HW1.out, HEE.out]
  refine KS.out.mono ?_
  rintro e wx ⟨rfl, hwx⟩
  subst wx
  go_wp2_with fail
  refine (wpIn_wide (n := 9)).1 ?_
  have hVz : V.heap.size = E + 5 := HZV.out
  refine rf_outerE (N := L.length) (own := fun b => b = E + 2) (Kp := KE E) (encs := fun j => #[.string ⟨(L.getD j []).toArray⟩]) rfl (by omega) (gf := 117) (lb := #[.pointer (some ⟨E + 3, 0, none⟩), .pointer (some ⟨E + 2, 0, none⟩), .pointer (some ⟨E + 4, 0, none⟩)]) rfl trivial (enters_of Tryz.func117 (by kernel_rfl) rfl)
    (fun _ => rfl) (fun b hb => by subst hb; omega) ?iter KE.trans (fun X o o' h2 h3 b h1 h4 h5 => World.putObj_heap_other (by omega))
    (fun k X => JT k X ∧ E + 5 ≤ X.heap.size ∧ (∀ b, b = E ∨ b = E + 3 ∨ b = E + 4 → X.heap[b]? = V.heap[b]?) ∧ X.heap[E + 1]? = some (.cells #[.int .i64 (k : Int)] 3 (0, 0))) (fun c X => c = .ret ∧ JX X)
    (fun k X Y hs ht => by
      obtain ⟨h1, h2, h3, h4⟩ := hs
      refine ⟨HJT.out k X Y h1 (ht.mono (by omega) (fun b hb => .inr hb)), Nat.le_trans h2 ht.size, fun b hb => ?_, (ht.block (E + 1) (by omega) (by omega) (by omega)).trans h4⟩
      exact (ht.block b (by omega) (by omega) (by omega)).trans (h3 b hb))
    (fun c X Y hs ht => ⟨hs.1, HJX.out X Y hs.2 (ht.mono (by omega) (fun b hb => .inr hb))⟩)
    ⟨HV0.out, by omega, fun _ _ => rfl, HAT.out⟩ ?E
  case iter =>
    intro X hX hsz
    have h := split_it (9 - 1) (E + 3) (E + 2) (E + 4) 10 s L (KE E) (fun Y => E + 5 ≤ Y.heap.size ∧ Y.heap[E + 3]? = V.heap[E + 3]? ∧ Y.heap[E + 4]? = V.heap[E + 4]?) X HL.out (by omega)
      (fun Y hY => ⟨(by have h := hY.2.1.trans HZB.out; simp [World.cell?, h]), (by have h := hY.2.2.trans HCB.out; simp [World.cell?, h])⟩)
      (fun Y Z hk hy => ⟨by
        have := (Array.getElem?_eq_some_iff.1 ((hk (E + 4) (by omega) (by omega) (by omega)).trans (hy.2.2.trans HCB.out))).1
        omega, (hk (E + 3) (by omega) (by omega) (by omega)).trans hy.2.1, (hk (E + 4) (by omega) (by omega) (by omega)).trans hy.2.2⟩)
      (fun Y Z hk => hk (E + 2) (by omega) (by omega) (by omega))
      (fun Y Z ht hy => ⟨Nat.le_trans hy.1 ht.size, (ht.block (E + 3) (by omega) (by omega) (by omega)).trans hy.2.1, (ht.block (E + 4) (by omega) (by omega) (by omega)).trans hy.2.2⟩)
      ⟨by omega, hX.block _ (by omega), hX.block _ (by omega)⟩ ((hX.block _ (by omega)).trans HSB.out)
    exact h
  case E =>
    apply Exists.intro
    refine ⟨?asg, ?bod, ?don, ?stp⟩
    case asg =>
      intro l' k X K hk hi hK
      have HKK := Lib.hid hK
      clear hK hk
      gi_wp2
      exact HKK.out _ (KeepsFrom.refl _ _) (KE.refl _ _) hi
    case stp =>
      rintro D c X hD ⟨rfl, hx⟩ hKD
      have HX := Lib.hid hx
      have HKD := Lib.hid (show X.heap[D]? = some (.deferred (some [])) from hKD)
      clear hx hKD
      gi_wp2
      refine ⟨by simp, .inl ⟨_, _, rfl, run_takeDeferred HKD.out, ?_⟩⟩
      refine ⟨.tuple #[], ?_, ⟨_, rfl⟩, .inr (HJX.out _ _ HX.out (.putObj _ (by omega) HKD.out rfl))⟩
      simp [results, Tryz.results55, go_sem]
    case bod =>
      rintro l' k X hl' ⟨r, hr⟩ hk ⟨hj, hsz, hold, hat⟩
      obtain ⟨t, ht⟩ : ∃ z, L.getD k [] = z := ⟨_, rfl⟩
      have HTELL2 := Lib.hid (HTELL.out k)
      have HSKIP2 := Lib.hid (HSKIP.out k)
      rw [ht] at HTELL2 HSKIP2
      rw [← List.getD_eq_getElem?_getD, ht]
      have htl : t.length ≤ 50000 := by
        rw [← ht, List.getD_eq_getElem?_getD, List.getElem?_eq_getElem hk]
        exact HLEN.out _ (List.getElem_mem hk)
      have cA : X.cell? ⟨E + 1, 0, none⟩ = some (.int .i64 (k : Int)) := by simp [World.cell?, hat]
      have zA : X.frozen? ⟨E + 1, 0, none⟩ = false := frozen_of_row _ _ _ _ _ hat
      have cT : X.cell? ⟨E, 0, none⟩ = some (.func (.func gf) #[] lb) := by
        have h := (hold E (.inl rfl)).trans HTB.out
        simp [World.cell?, h]
      have HOLD := Lib.hid hold
      have HAT2 := Lib.hid hat
      have HJ := Lib.hid hj
      have HSZ := Lib.hid hsz
      have HK := Lib.hid hk
      clear hold hat hj ht
      have hkl : k ≤ 50001 := by
        have h1 := Gs.parts_many 10 s.data.toList []
        have h2 : s.data.toList.length = s.size := by simp
        rw [HL.out] at h1
        have h3 := HK.out
        omega
      have hwk : wrap64 ((k : Int) + 1) = ((k + 1 : Nat) : Int) := by unfold wrap64; omega
      have FIN := Lib.hid (show ∀ Y, JT (k + 1) Y → KeepsFrom V.heap.size X Y → KE E X Y → Y.heap[E + 1]? = some (.cells #[.int .i64 (k : Int)] 3 (0, 0)) →
          KeepsFrom V.heap.size X (Y.setCell ⟨E + 1, 0, none⟩ (.int .i64 ((k + 1 : Nat) : Int))) ∧ KE E X (Y.setCell ⟨E + 1, 0, none⟩ (.int .i64 ((k + 1 : Nat) : Int))) ∧ JT (k + 1) (Y.setCell ⟨E + 1, 0, none⟩ (.int .i64 ((k + 1 : Nat) : Int))) ∧ E + 5 ≤ (Y.setCell ⟨E + 1, 0, none⟩ (.int .i64 ((k + 1 : Nat) : Int))).heap.size ∧ (∀ b, b = E ∨ b = E + 3 ∨ b = E + 4 → (Y.setCell ⟨E + 1, 0, none⟩ (.int .i64 ((k + 1 : Nat) : Int))).heap[b]? = V.heap[b]?) ∧ (Y.setCell ⟨E + 1, 0, none⟩ (.int .i64 ((k + 1 : Nat) : Int))).heap[E + 1]? = some (.cells #[.int .i64 ((k + 1 : Nat) : Int)] 3 (0, 0)) from by
        intro Y h1 h2 h3 h4
        have hn := fun b (hb : b ≠ E + 1) => Below.heap_setCell Y ⟨E + 1, 0, none⟩ (.int .i64 ((k + 1 : Nat) : Int)) b (by show b ≠ E + 1; exact hb)
        refine ⟨⟨by simpa using h2.size, fun b o hB hb hc => (hn b (by omega)).trans (h2.same b o hB hb hc)⟩, fun b a1 a2 a3 => (hn b a3).trans (h3 b a1 a2 a3), HJT.out _ _ _ h1 (.setCell _ _ _ _ (.inl rfl)), by have := HSZ.out; have := h2.size; simp; omega, fun b hb => (hn b (by omega)).trans ((h3 b (by omega) (by omega) (by omega)).trans (HOLD.out b hb)), ?_⟩
        rw [heap_setCell_same Y (E + 1) 0 _ _ _ h4]; simp)
      cases t with
      | nil =>
        gi_wp2_with fail
        rw [show ((k : Int) + 1) = ((k + 1 : Nat) : Int) from by omega]
        exact FIN.out X (HSKIP2.out X HK.out rfl HJ.out) (KeepsFrom.refl _ _) (KE.refl _ _) HAT2.out
      | cons c t2 =>
        obtain ⟨tb, htb⟩ : ∃ z : ByteArray, (⟨(c :: t2).toArray⟩ : ByteArray) = z := ⟨_, rfl⟩
        have hd : tb.data.toList = c :: t2 := by rw [← htb]
        have hsz0 : tb.size = t2.length + 1 := by rw [← htb]; rfl
        have hemp : tb.toList.isEmpty = false := by rw [ByteArray.toList_eq, hd]; rfl
        have hix : ∀ W, (Instr.index 9 (.string tb) (.int .i64 0)).run Tryz.prog W = .ok (.int .u8 (c.toNat : Int)) W := fun W => by
          have h0 : 0 < tb.size := by omega
          have h1 := dec_index_at0 tb W 0 h0
          have h2 : tb[0] = c := by
            have : tb.data.toList[0]? = some c := by rw [hd]; rfl
            have h3 : tb.data[0]? = some c := by rw [← Array.getElem?_toList]; exact this
            obtain ⟨h4, h5⟩ := Array.getElem?_eq_some_iff.1 h3
            exact h5
          rw [h2] at h1
          exact h1
        rw [htb]
        by_cases h35 : c = 35
        · have hc : ((c.toNat : Int) != 35) = false := by rw [h35]; decide
          have hsay : Sc.says (c :: t2) = false := by rw [h35]; rfl
          gi_wp2_with fail
          rw [show ((k : Int) + 1) = ((k + 1 : Nat) : Int) from by omega]
          exact FIN.out X (HSKIP2.out X HK.out hsay HJ.out) (KeepsFrom.refl _ _) (KE.refl _ _) HAT2.out
        · have hc : ((c.toNat : Int) != 35) = true := by
            have : c.toNat ≠ 35 := fun e => h35 (UInt8.toNat_inj.1 e)
            simp; omega
          have HSAY := Lib.hid (show Sc.says (c :: t2) = true from by show (c != 35) = true; simp [h35])
          obtain ⟨TA, MA⟩ := HTAB.out k X HJ.out
          have KP := sc_Parse tb X (by simp only [List.length_cons] at htl; omega) TA MA
          rw [hd] at KP
          obtain ⟨y, hy⟩ : ∃ z, stp (Sc.parse Sc.stepT (c :: t2)) = z := ⟨_, rfl⟩
          obtain ⟨er, her⟩ : ∃ z, erS (Sc.parse Sc.stepT (c :: t2)) = z := ⟨_, rfl⟩
          rw [hy, her] at KP
          have HT3 := HTELL2.out
          rw [hy, her] at HT3
          have HT3 := Lib.hid HT3
          have KP := Lib.hid KP
          clear hd hy her TA MA htb h35 htl hsz0
          gi_wp2_with fail
          refine ⟨trivial, ((callsIn_wide (n := 6)).2 KP.out).mono ?_⟩
          rintro e Y ⟨u, rfl, hu, hnu, hf, hb⟩
          obtain ⟨p, n, ca, rfl⟩ := hu.sl
          obtain ⟨W2, hW2⟩ : ∃ z, Y.alloc (.cells #[.int .i64 y.kind, .int .u64 (y.conn : Int), .int .i64 y.topic, .int .u64 (y.n : Int), .int .u64 (y.draw : Int), .slice p n ca] 26) = z := ⟨_, rfl⟩
          have hb2 : Below X.heap.size X W2 := by rw [← hW2]; exact hb.alloc hb.size _
          have hx : W2.heap[Y.heap.size]? = some (.cells #[.int .i64 y.kind, .int .u64 (y.conn : Int), .int .i64 y.topic, .int .u64 (y.n : Int), .int .u64 (y.draw : Int), .slice p n ca] 26 (0, 0)) := by rw [← hW2]; exact World.alloc_heap_new _ _
          have cA2 : W2.cell? ⟨E + 1, 0, none⟩ = some (.int .i64 (k : Int)) := (hb2.cell (p := ⟨E + 1, 0, none⟩) (lt_of_cell cA)).trans cA
          have cT2 : W2.cell? ⟨E, 0, none⟩ = some (.func (.func gf) #[] lb) := (hb2.cell (p := ⟨E, 0, none⟩) (lt_of_cell cT)).trans cT
          obtain ⟨g, hg⟩ : ∃ z, Y.heap.size = z := ⟨_, rfl⟩
          rw [hg] at hx
          have x0 : W2.cell? ⟨g, 0, none⟩ = some (.int .i64 y.kind) := by simp [World.cell?, hx]
          have x1 : W2.cell? ⟨g, 1, none⟩ = some (.int .u64 (y.conn : Int)) := by simp [World.cell?, hx]
          have x2 : W2.cell? ⟨g, 2, none⟩ = some (.int .i64 y.topic) := by simp [World.cell?, hx]
          have x3 : W2.cell? ⟨g, 3, none⟩ = some (.int .u64 (y.n : Int)) := by simp [World.cell?, hx]
          have x4 : W2.cell? ⟨g, 4, none⟩ = some (.int .u64 (y.draw : Int)) := by simp [World.cell?, hx]
          have x5 : W2.cell? ⟨g, 5, none⟩ = some (.slice p n ca) := by simp [World.cell?, hx]
          have KT := HT3.out X W2 (.slice p n ca) HK.out HSAY.out HJ.out HSZ.out hb2 hnu (by rw [← hW2]; exact hu.below (Below.alloc (Below.refl _ _) (Nat.le_refl _) _)) hf
          unfold stVal at KT
          have KT := Lib.hid KT
          have HB2 := Lib.hid hb2
          have HW2 := Lib.hid hW2
          have HG := Lib.hid hg
          unfold stVal
          rw [← hW2, ← hg] at x0 x1 x2 x3 x4 x5
          rw [← hW2] at cA2 cT2
          clear hb hb2 hx hg hu hnu hf KP cA cT zA
          clear hW2
          gi_wp2_with fail
          rw [HW2.out]
          refine ⟨trivial, ((callsIn_wide (n := 6)).2 KT.out).mono ?_⟩
          rintro e Z ⟨h, hkf⟩
          have hkf2 : KeepsFrom V.heap.size X Z := ⟨Nat.le_trans HB2.out.size hkf.size, fun b o hB hb hc => hkf.same b o (by omega) ((HB2.out.block b (Array.getElem?_eq_some_iff.1 hb).1).trans hb) hc⟩
          have HKF := Lib.hid hkf2
          clear hkf hkf2 x0 x1 x2 x3 x4 x5 cA2 cT2
          rcases h with ⟨rfl, hj, hkb⟩ | ⟨rfl, hx⟩
          · have hke : ∀ b, E ≤ b → b < E + 5 → Z.heap[b]? = X.heap[b]? := fun b h1 h2 => (hkb b h1 h2).trans (HB2.out.block b (by have := HSZ.out; omega))
            have hatZ := (hke (E + 1) (by omega) (by omega)).trans HAT2.out
            have cA4 : Z.cell? ⟨E + 1, 0, none⟩ = some (.int .i64 (k : Int)) := by simp [World.cell?, hatZ]
            have zA4 : Z.frozen? ⟨E + 1, 0, none⟩ = false := frozen_of_row _ _ _ _ _ hatZ
            have HKE := Lib.hid (show KE E X Z from fun b h1 h2 _ => hke b h1 h2)
            have HAZ := Lib.hid hatZ
            have HJZ := Lib.hid hj
            clear hj hkb hke hatZ
            gi_wp2_with fail
            rw [show ((k : Int) + 1) = ((k + 1 : Nat) : Int) from by omega]
            exact FIN.out Z HJZ.out HKF.out HKE.out HAZ.out
          · have HXZ := Lib.hid hx
            clear hx
            gi_wp2_with fail
            exact ⟨HKF.out, rfl, HXZ.out⟩
    case don =>
      rintro D X hD ⟨hj, hsz, hold, hat⟩ hKD
      have HJ := Lib.hid hj
      have HKD := Lib.hid (show X.heap[D]? = some (.deferred (some [])) from hKD)
      clear hj hKD hold hat
      first | go_wp2_with fail | skip
      refine ⟨by simp, .inl ⟨_, _, rfl, run_takeDeferred HKD.out, ?_⟩⟩
      refine ⟨.tuple #[], ?_, ⟨_, rfl⟩, .inl (HJT.out _ _ _ HJ.out (.putObj _ (by omega) HKD.out rfl))⟩
      simp [results, Tryz.results55, go_sem]
theorem tabs_heap {w X : World} (h : Tabs w) (hs : w.heap.size ≤ X.heap.size) (hb : ∀ b, b < w.heap.size → X.heap[b]? = w.heap[b]?) : Tabs X := h.below (w' := { w with heap := X.heap }) ⟨rfl, rfl, rfl, hs, hb⟩
theorem ml_heap {w X : World} (h : ML w) (hs : w.heap.size ≤ X.heap.size) (hb : ∀ b, b < w.heap.size → X.heap[b]? = w.heap[b]?) : ML X := h.below (w' := { w with heap := X.heap }) ⟨rfl, rfl, rfl, hs, hb⟩
/-- the steps of lines, with their lines' numbers, as far as the first line that is none -/
def Sc.gd : Nat → List (List UInt8) → List (Nat × Sc.St)
  | _, [] => []
  | k, t :: ts => if Sc.says t = true then (if (Sc.parse Sc.stepT t).isSome = true then (k, stp (Sc.parse Sc.stepT t)) :: Sc.gd (k + 1) ts else []) else Sc.gd (k + 1) ts
theorem Sc.gd_skip {k : Nat} {t : List UInt8} {ts : List (List UInt8)} (h : Sc.says t = false) : Sc.gd k (t :: ts) = Sc.gd (k + 1) ts := by
  conv => lhs; unfold Sc.gd
  rw [if_neg (by rw [h]; decide)]
theorem Sc.gd_take {k : Nat} {t : List UInt8} {ts : List (List UInt8)} (h : Sc.says t = true) (hp : (Sc.parse Sc.stepT t).isSome = true) : Sc.gd k (t :: ts) = (k, stp (Sc.parse Sc.stepT t)) :: Sc.gd (k + 1) ts := by
  conv => lhs; unfold Sc.gd
  rw [if_pos h, if_pos hp]
theorem Sc.gd_stop {k : Nat} {t : List UInt8} {ts : List (List UInt8)} (h : Sc.says t = true) (hp : (Sc.parse Sc.stepT t).isSome = false) : Sc.gd k (t :: ts) = [] := by
  conv => lhs; unfold Sc.gd
  rw [if_pos h, if_neg (by rw [hp]; decide)]
theorem drop_atL {L : List (List UInt8)} {k : Nat} (hk : k < L.length) : L.drop k = L.getD k [] :: L.drop (k + 1) := by
  rw [List.drop_eq_getElem_cons hk, List.getD_eq_getElem?_getD, List.getElem?_eq_getElem hk]; rfl
theorem tell_no (k er : Int) (y : Sc.St) (u : Value) (Z : Nat) (X : World) (hu : isSl u) (he : er ≠ 0) :
    Calls Tryz.prog 58 #[.int .i64 k, stVal y u, .int .i64 er, .pointer (some ⟨Z, 0, none⟩)] X fun e Y => e = .returned (.bool false) ∧ Y = X.alloc (stObj y u) := by
  obtain ⟨p, n, c, rfl⟩ := hu
  have q : (er == 0) = false := beq_eq_false_iff_ne.2 he
  unfold stVal stObj
  clear he
  go_enter Tryz.func58, Tryz.ntmps58
  go_wp2_with fail
  go_ret
  exact ⟨rfl, rfl⟩
theorem tell_yes (m l : Nat) (k : Int) (y : Sc.St) (u : Value) (Z : Nat) (X : World) (A B : World → Prop) (hu : isSl u) (hZ : X.cell? ⟨Z, 0, none⟩ = some (.func (.yield l) #[] #[]))
    (hY : YieldAt Fence.wide m Tryz.prog l #[.int .i64 k, stVal y u] (X.alloc (stObj y u)) fun e Y => (e = .returned (.bool true) ∧ A Y) ∨ (e = .returned (.bool false) ∧ B Y)) :
    Calls Tryz.prog 58 #[.int .i64 k, stVal y u, .int .i64 0, .pointer (some ⟨Z, 0, none⟩)] X fun e Y => (e = .returned (.bool true) ∧ A Y) ∨ (e = .returned (.bool false) ∧ B Y) := by
  obtain ⟨p, n, c, rfl⟩ := hu
  obtain ⟨W, hW⟩ : ∃ z, X.alloc (stObj y (.slice p n c)) = z := ⟨_, rfl⟩
  obtain ⟨R, hR⟩ : ∃ z, X.heap.size = z := ⟨_, rfl⟩
  have hr : W.heap[R]? = some (stObj y (.slice p n c)) := by rw [← hW, ← hR]; exact World.alloc_heap_new _ _
  obtain ⟨c0, c1, c2, c3, c4, c5, _⟩ := SR.of hr
  have hz : W.cell? ⟨Z, 0, none⟩ = some (.func (.yield l) #[] #[]) := by rw [← hW]; exact cell_below ((Below.refl _ _).alloc (Nat.le_refl _) _) hZ
  rw [hW] at hY
  have HY := Lib.hid hY
  have HW := Lib.hid hW
  have HR := Lib.hid hR
  unfold stVal
  unfold stVal at HY
  unfold stObj at HW
  clear hY hW hR hr hZ
  refine (callsIn_wide (n := 9)).1 (callsIn_of_wp Tryz.func58 rfl trivial ?_ rfl)
  simp only [Tryz.ntmps58, List.size_toArray, List.length_cons, List.length_nil, Nat.reduceAdd, Nat.reduceSub, Array.replicate_succ, Array.replicate_zero, List.push_toArray, List.append_toArray, List.nil_append, List.cons_append]
  rw [← HR.out, ← HW.out] at c0 c1 c2 c3 c4 c5 
  rw [← HW.out] at hz
  obtain ⟨fn, tmps, assign, body, hy, hR⟩ := yieldAt_any (9 - 1) HY.out
  rw [← HW.out] at hy hR
  have HRR := Lib.hid hR
  clear hR HW HR HY
  gi_wp2_with fail
  refine (roundIn_any _ HRR.out).mono ?_
  rintro z Y (⟨rfl, ha⟩ | ⟨rfl, hb⟩)
  · have HA := Lib.hid ha
    clear ha hy
    gi_wp2_with fail
    refine bodyPost_ret (v := .bool true) (by simp [results, Tryz.results58, go_sem]) rfl ?_
    exact .inl ⟨rfl, HA.out⟩
  · have HA := Lib.hid hb
    clear hb hy
    gi_wp2_with fail
    refine bodyPost_ret (v := .bool false) (by simp [results, Tryz.results58, go_sem]) rfl ?_
    exact .inr ⟨rfl, HA.out⟩
/-- what a round keeps -/
def KpE (n0 SB Z : Nat) (X Y : World) : Prop := ∀ b, (b < n0 ∨ b = SB ∨ (Z ≤ b ∧ b < Z + 6)) → b < X.heap.size → Y.heap[b]? = X.heap[b]?
/-- what is yielded -/
def EncE (Z : Nat) (L : List (Nat × Sc.St)) (c : Nat) (args : Array Value) (X : World) : Prop := ∃ p n ca, args = #[.int .i64 ((L.getD c (0, Sc.St.zero)).1 : Int), stVal (L.getD c (0, Sc.St.zero)).2 (.slice p n ca)] ∧ BRow X (.slice p n ca) (L.getD c (0, Sc.St.zero)).2.bytes ∧ NewV (Z + 6) (.slice p n ca) ∧ Z + 6 ≤ X.heap.size
theorem each_it (m n0 SB Z : Nat) (s : ByteArray) (L : List (List UInt8)) (w0 W : World) (hL : Gs.parts 10 [] s.data.toList = L) (hs : s.size ≤ 50000) (hZ : W.heap.size = Z) (hSB : SB < Z) (hbox : W.heap[SB]? = some (.cells #[.string s] 9 (0, 0)))
    (hw0 : w0.heap.size = n0) (hn0 : n0 ≤ Z) (hold : ∀ b, b < n0 → W.heap[b]? = w0.heap[b]?) (ht : Tabs w0) (hm : ML w0) :
    IterG Fence.wide m Tryz.prog 57 #[.pointer (some ⟨SB, 0, none⟩)] (EncE Z (Sc.gd 0 L)) (Sc.gd 0 L).length (ownE (Z + 1)) (KpE n0 SB Z) W := by
  have hmf : ∀ (fn : Fn) (first cap : Array Value) (w : World), (Instr.makeFunc fn first cap).run Tryz.prog w = .ok (.func fn first cap) w := fun _ _ _ _ => rfl
  intro l J Jx hJ hJx hY h0
  obtain ⟨G, hG⟩ : ∃ z, Sc.gd 0 L = z := ⟨_, rfl⟩
  rw [hG] at hY ⊢
  obtain ⟨w1, hw1⟩ : ∃ z, W.alloc (.cells #[.func (.yield l) #[] #[]] 112) = z := ⟨_, rfl⟩
  have hb1 : Below W.heap.size W w1 := by rw [← hw1]; exact (Below.refl _ _).alloc (Nat.le_refl _) _
  have hz1 : w1.heap.size = Z + 1 := by rw [← hw1, ← hZ]; simp
  have hyb : w1.heap[Z]? = some (.cells #[.func (.yield l) #[] #[]] 112 (0, 0)) := by rw [← hw1, ← hZ]; exact World.alloc_heap_new _ _
  rw [hZ] at hJ hJx hY
  have hJ2 : ∀ k X Y, J k X → Turn (Z + 1) (ownE (Z + 1)) X Y → J k Y := fun k X Y h t => hJ k X Y h (t.mono (by omega) (fun _ h => h))
  have hJx2 : ∀ X Y, Jx X → Turn (Z + 1) (ownE (Z + 1)) X Y → Jx Y := fun X Y h t => hJx X Y h (t.mono (by omega) (fun _ h => h))
  have KEV := sc_every2 s 58 #[.pointer (some ⟨Z, 0, none⟩)] L hL hs
    (fun k X => ∃ acc, G = acc ++ Sc.gd k (L.drop k) ∧ J acc.length X ∧ Z + 1 ≤ X.heap.size ∧ ∀ b, (b < n0 ∨ b = SB ∨ b = Z) → X.heap[b]? = w1.heap[b]?) (fun X => J G.length X ∨ Jx X) w1
    (by
      rw [hz1]
      rintro k X Y ⟨acc, h1, h2, h3, h4⟩ ht
      exact ⟨acc, h1, hJ2 _ _ _ h2 ht, Nat.le_trans h3 ht.size, fun b hb => (ht.block b (by omega) (fun e => by rcases e with e | e <;> omega) (fun hB => by omega)).trans (h4 b hb)⟩)
    (by
      rw [hz1]
      rintro X Y (h | h) ht
      · exact .inl (hJ2 _ _ _ h ht)
      · exact .inr (hJx2 _ _ h ht))
    (by
      rintro k X ⟨acc, h1, h2, h3, h4⟩
      have hh : ∀ b, b < w0.heap.size → X.heap[b]? = w0.heap[b]? := fun b hb => (h4 b (.inl (by omega))).trans ((hb1.block b (by omega)).trans (hold b (by omega)))
      exact ⟨tabs_heap ht (by omega) hh, ml_heap hm (by omega) hh⟩)
    (enters_of Tryz.func58 (by kernel_rfl) rfl)
    (by
      rintro k X hk hsay ⟨acc, h1, h2, h3, h4⟩
      exact ⟨acc, by rw [h1, drop_atL hk, Sc.gd_skip hsay], h2, h3, h4⟩)
    (by
      rw [hz1]
      intro k X0 X u hk hsay ⟨acc, h1, h2, h3, h4⟩ hsz hb hn hu hf
      obtain ⟨t, htt⟩ : ∃ z, L.getD k [] = z := ⟨_, rfl⟩
      have hd := drop_atL hk
      rw [htt] at hd hsay hu hf ⊢
      have hJX : J acc.length X := hJ2 _ _ _ h2 (turn_belS hb)
      have hXb : ∀ b, (b < n0 ∨ b = SB ∨ b = Z) → X.heap[b]? = w1.heap[b]? := fun b hb' => (hb.block b (by omega)).trans (h4 b hb')
      have hXs := hb.size
      have hba : Below X.heap.size X (X.alloc (stObj (stp (Sc.parse Sc.stepT t)) u)) := (Below.refl _ _).alloc (Nat.le_refl _) _
      cases hp : (Sc.parse Sc.stepT t).isSome with
      | false =>
        have her : erS (Sc.parse Sc.stepT t) = 390 := by unfold erS; rw [hp]; rfl
        rw [her]
        refine (tell_no k 390 _ u Z X hu.sl (by decide)).mono ?_
        rintro e Y ⟨rfl, rfl⟩
        rw [hd, Sc.gd_stop hsay hp, List.append_nil] at h1
        refine ⟨.inr ⟨rfl, .inl ?_⟩, ⟨hba.size, fun b o _ hb' _ => (hba.block b (Array.getElem?_eq_some_iff.1 hb').1).trans hb'⟩⟩
        rw [h1]
        exact hJ2 _ _ _ hJX (turn_belS hba)
      | true =>
        have her : erS (Sc.parse Sc.stepT t) = 0 := by unfold erS; rw [hp]; rfl
        rw [her]
        rw [hd, Sc.gd_take hsay hp] at h1
        have hlen : acc.length < G.length := by rw [h1, List.length_append, List.length_cons]; omega
        have hget : G.getD acc.length (0, Sc.St.zero) = (k, stp (Sc.parse Sc.stepT t)) := by
          rw [h1, List.getD_eq_getElem?_getD, List.getElem?_append_right (Nat.le_refl _), Nat.sub_self]; rfl
        obtain ⟨vp, vn, vc, hue⟩ := hu.sl
        have hy := hY acc.length (X.alloc (stObj (stp (Sc.parse Sc.stepT t)) u)) #[.int .i64 k, stVal (stp (Sc.parse Sc.stepT t)) u] hlen (hJ2 _ _ _ hJX (turn_belS hba)) ⟨vp, vn, vc, by rw [hget, hue], by rw [hget, ← hue]; exact hu.below hba, fun g hg => by rw [← hue] at hg; have := hn g hg; omega, by have := hba.size; omega⟩
        have hyb2 : X.heap[Z]? = some (.cells #[.func (.yield l) #[] #[]] 112 (0, 0)) := (hXb Z (.inr (.inr rfl))).trans hyb
        refine (tell_yes _ l k (stp (Sc.parse Sc.stepT t)) u Z X (fun Y => J (acc.length + 1) Y ∧ KpE n0 SB Z (X.alloc (stObj (stp (Sc.parse Sc.stepT t)) u)) Y ∧ KeepsFrom Z (X.alloc (stObj (stp (Sc.parse Sc.stepT t)) u)) Y) (fun Y => Jx Y ∧ KeepsFrom Z (X.alloc (stObj (stp (Sc.parse Sc.stepT t)) u)) Y) hu.sl (by simp [World.cell?, hyb2]) hy).mono ?_
        have up : ∀ {Y : World}, KeepsFrom Z (X.alloc (stObj (stp (Sc.parse Sc.stepT t)) u)) Y → KeepsFrom (Z + 1) X Y := fun {Y} hkf => ⟨Nat.le_trans hba.size hkf.size, fun b o hB hb' hc => hkf.same b o (by omega) ((hba.block b (Array.getElem?_eq_some_iff.1 hb').1).trans hb') hc⟩
        rintro e Y (⟨rfl, hj', hkp, hkf⟩ | ⟨rfl, hjx, hkf⟩)
        · refine ⟨.inl ⟨rfl, ⟨acc ++ [(k, stp (Sc.parse Sc.stepT t))], by rw [h1]; simp, by rw [List.length_append]; exact hj', by have := hkf.size; have := hba.size; omega, fun b hb' => ?_⟩, fun b hb1' hb2' => ?_⟩, up hkf⟩
          · exact (hkp b (by omega) (by have := hba.size; omega)).trans ((hba.block b (by omega)).trans (hXb b hb'))
          · exact (hkp b (by omega) (by have := hba.size; omega)).trans (hba.block b (by omega))
        · exact ⟨.inr ⟨rfl, .inr hjx⟩, up hkf⟩)
    ⟨[], by rw [← hG]; rfl, hJ 0 _ _ h0 (by rw [← hw1]; exact Turn.alloc _ _), by omega, fun b hb => rfl⟩
  have KEV := Lib.hid KEV
  have hbox1 := (hb1.block SB (by omega)).trans hbox
  have cs : w1.cell? ⟨SB, 0, none⟩ = some (.string s) := by simp [World.cell?, hbox1]
  have HW1 := Lib.hid hw1
  have HZ := Lib.hid hZ
  clear hJ hJx hJ2 hJx2 hY h0 hb1 hz1 hyb hbox hbox1 hold ht hm hw1 hZ hG hL hs hw0 hn0
  refine callsIn_wide.2 ?_
  show Calls _ _ #[.func (.yield l) #[] #[], .pointer (some ⟨SB, 0, none⟩)] W _
  go_enter Tryz.func57, Tryz.ntmps57
  go_wp2_with fail
  refine wp_scope_straight ?_
  refine wp_seq ?_
  refine wp_label ?_
  rw [HZ.out, HW1.out]
  go_wp2_with fail
  refine wp_loop_rounds 1 ?_
  rw [rounds_succ]
  go_wp2_with fail
  refine KEV.out.mono ?_
  rintro e Y ⟨⟨v, rfl⟩, hr⟩
  have HR := Lib.hid hr
  clear hr
  go_wp2_with fail
  (first | rw [Exit.noGoto_normal] | simp only [Exit.noGoto])
  go_end0
  refine ⟨⟨_, rfl⟩, ?_⟩
  rcases HR.out with ⟨acc, h1, h2, _⟩ | h | h
  · left
    rw [List.drop_length] at h1
    have h3 : Sc.gd L.length [] = [] := rfl
    rw [h3, List.append_nil] at h1
    rw [h1]; exact h2
  · exact .inl h
  · exact .inr h
theorem sc_Each (s : ByteArray) (w : World) (hs : s.size ≤ 50000) :
    Calls Tryz.prog 31 #[.string s] w fun e w' => e = .returned (.func (.func 57) #[] #[.pointer (some ⟨w.heap.size, 0, none⟩)]) ∧ w' = w.alloc (.cells #[.string s] 9) := by
  have hmf : ∀ (fn : Fn) (first cap : Array Value) (w : World), (Instr.makeFunc fn first cap).run Tryz.prog w = .ok (.func fn first cap) w := fun _ _ _ _ => rfl
  have hI : ¬ (4194304 : Int) < (s.size : Int) := by omega
  go_enter Tryz.func31, Tryz.ntmps31
  go_wp2_with fail
  go_ret
  exact ⟨rfl, rfl⟩
end Go.Proofs.YtbaakfcbakpmpaaGreatDoor

/- Slices of things of m cells each, wherever they lie: read, copied from, owned. No conditions but those that each law states. -/
namespace Go.Proofs.YtbaakfcbakpmpaaGreatDoor
set_option linter.unusedVariables false
set_option linter.unusedSimpArgs false
open Go.RowKit
set_option maxHeartbeats 4000000
set_option maxRecDepth 100000
section
variable {α : Type}
/-- a slice of such things: f tells a thing's cells -/
def Rin (f : α → List Value) (m : Nat) (d : α) (w : World) (v : Value) (qs : List α) : Prop := ∃ p c, v = .slice p qs.length c ∧ (qs.length = 0 ∨ ∃ g o, p = some ⟨g, o, none⟩ ∧ ∀ j, j < qs.length → ∀ i x, (f (qs.getD j d))[i]? = some x → w.cell? ⟨g, o + j * m + i, none⟩ = some x)
theorem Rin.below {f : α → List Value} {m : Nat} {d : α} {w w' : World} {v : Value} {qs : List α} (h : Rin f m d w v qs) (hb : Below w.heap.size w w') : Rin f m d w' v qs := by
  obtain ⟨p, c, h1, h2⟩ := h
  exact ⟨p, c, h1, h2.imp id (fun ⟨g, o, a1, a2⟩ => ⟨g, o, a1, fun j hj i x hx => cell_below hb (a2 j hj i x hx)⟩)⟩
theorem Rin.slice {f : α → List Value} {m : Nat} {d : α} {w : World} {v : Value} {qs : List α} (h : Rin f m d w v qs) : ∃ p c, v = .slice p qs.length c := by
  obtain ⟨p, c, h1, _⟩ := h
  exact ⟨p, c, h1⟩
theorem Rin.nil {f : α → List Value} {m : Nat} {d : α} (w : World) : Rin f m d w (.slice none 0 0) [] := ⟨none, 0, rfl, .inl rfl⟩
/-- the j-th thing's cells -/
theorem Rin.at {f : α → List Value} {m : Nat} {d : α} {w : World} {v : Value} {qs : List α} (h : Rin f m d w v qs) {j : Nat} (hj : j < qs.length) :
    ∃ g o c, v = .slice (some ⟨g, o, none⟩) qs.length c ∧ ∀ i x, (f (qs.getD j d))[i]? = some x → w.cell? ⟨g, o + j * m + i, none⟩ = some x := by
  obtain ⟨p, c, rfl, h2⟩ := h
  rcases h2 with h2 | ⟨g, o, rfl, h2⟩
  · omega
  · exact ⟨g, o, c, rfl, h2 j hj⟩
theorem flat_len (f : α → List Value) (m : Nat) (hf : ∀ q, (f q).length = m) (qs : List α) : (qs.flatMap f).length = qs.length * m := by
  induction qs with
  | nil => simp
  | cons q qs ih => rw [List.flatMap_cons, List.length_append, ih, hf, List.length_cons, Nat.add_mul]; omega
theorem flat_get (f : α → List Value) (m : Nat) (d : α) (hf : ∀ q, (f q).length = m) : ∀ (qs : List α) (j i : Nat) (x : Value), j < qs.length → i < m → (f (qs.getD j d))[i]? = some x → (qs.flatMap f)[j * m + i]? = some x
  | [], j, i, x, hj, _, _ => by simp at hj
  | q :: qs, 0, i, x, hj, hi, hx => by
    rw [List.flatMap_cons, List.getElem?_append_left (by rw [hf]; omega), Nat.zero_mul, Nat.zero_add]
    exact hx
  | q :: qs, j + 1, i, x, hj, hi, hx => by
    rw [List.flatMap_cons, List.getElem?_append_right (by rw [hf, Nat.add_mul]; omega), hf, show (j + 1) * m + i - m = j * m + i by rw [Nat.add_mul]; omega]
    exact flat_get f m d hf qs j i x (by simpa using hj) hi hx
theorem flat_at (f : α → List Value) (m : Nat) (d : α) (hf : ∀ q, (f q).length = m) (hm : 0 < m) {qs : List α} {k : Nat} {u : Value} (h : (qs.flatMap f)[k]? = some u) : ∃ j i, k = j * m + i ∧ j < qs.length ∧ i < m ∧ (f (qs.getD j d))[i]? = some u := by
  have hlt : k < qs.length * m := by rw [← flat_len f m hf]; exact (List.getElem?_eq_some_iff.1 h).1
  have hj : k / m < qs.length := (Nat.div_lt_iff_lt_mul hm).2 hlt
  have hi : k % m < m := Nat.mod_lt _ hm
  have hk : k / m * m + k % m = k := by rw [Nat.mul_comm]; exact Nat.div_add_mod k m
  refine ⟨k / m, k % m, hk.symm, hj, hi, ?_⟩
  obtain ⟨y, hy⟩ : ∃ y, (f (qs.getD (k / m) d))[k % m]? = some y := ⟨_, List.getElem?_eq_getElem (by rw [hf]; exact hi)⟩
  have h2 := flat_get f m d hf qs (k / m) (k % m) y hj hi hy
  rw [hk, h] at h2
  cases h2
  exact hy
/-- as the source of an append -/
theorem Rin.src {f : α → List Value} {m : Nat} {d : α} (hf : ∀ q, (f q).length = m) (hm : 0 < m) {w : World} {v : Value} {qs : List α} (h : Rin f m d w v qs) : ∃ p c, v = .slice p qs.length c ∧ (qs.length = 0 ∨ ∃ ad, p = some ad ∧ ∀ j u, (qs.flatMap f)[j]? = some u → w.cell? (ad.add j) = some u) := by
  obtain ⟨p, c, h1, h2⟩ := h
  refine ⟨p, c, h1, h2.imp id (fun ⟨g, o, a1, a2⟩ => ⟨_, a1, fun k u hk => ?_⟩)⟩
  obtain ⟨j, i, rfl, hj, hi, hx⟩ := flat_at f m d hf hm hk
  have hadd : (⟨g, o, none⟩ : Addr).add (j * m + i) = ⟨g, o + (j * m + i), none⟩ := by unfold Addr.add; split <;> simp_all
  rw [hadd, ← Nat.add_assoc]
  exact a2 j hj i u hx
/-- what a call's own row holds -/
theorem Rin.of_own {f : α → List Value} {m : Nat} {d : α} (hf : ∀ q, (f q).length = m) (hm : 0 < m) {w : World} {C n : Nat} {e : TypeId} {v : Value} {qs : List α} (h : w.ownsRow C e m v n (qs.flatMap f)) : Rin f m d w v qs := by
  have hl : n = qs.length := by
    have h1 := h.1
    rw [flat_len f m hf] at h1
    exact (Nat.eq_of_mul_eq_mul_right hm h1).symm
  rcases h.2 with ⟨rfl, h0⟩ | ⟨g, cap, cur, rfl, _, hg, hc, _⟩
  · exact ⟨none, 0, by rw [← hl, h0], .inl (by rw [← hl, h0])⟩
  · refine ⟨some ⟨g, 0, none⟩, cap, by rw [← hl], .inr ⟨g, 0, rfl, fun j hj i x hx => ?_⟩⟩
    have hi : i < m := by
      rcases Nat.lt_or_ge i m with h | h
      · exact h
      · rw [List.getElem?_eq_none (by rw [hf]; exact h)] at hx; cases hx
    have h4 := h.cells (g := g) rfl (j * m + i) x (flat_get f m d hf qs j i x hj hi hx)
    have hadd : (⟨g, 0, none⟩ : Addr).add (j * m + i) = ⟨g, 0 + j * m + i, none⟩ := by unfold Addr.add; split <;> simp_all
    rw [hadd] at h4
    exact h4
theorem own_slA {w : World} {B : Nat} {e : TypeId} {s : Nat} {v : Value} {n : Nat} {xs : List Value} (h : w.ownsRow B e s v n xs) : ∃ p c, v = .slice p n c := by
  rcases h.2 with ⟨rfl, h0⟩ | ⟨g, cap, cur, rfl, _⟩
  · exact ⟨none, 0, by rw [h0]⟩
  · exact ⟨_, _, rfl⟩
theorem own_belA {w w' : World} {base : Nat} {e : TypeId} {size : Nat} {v : Value} {n : Nat} {xs : List Value} (h : w.ownsRow base e size v n xs) (k : Below w.heap.size w w') : w'.ownsRow base e size v n xs :=
  ⟨h.1, h.2.imp id (fun ⟨g, cap, cur, h1, h2, h3, h4⟩ => ⟨g, cap, cur, h1, h2, (k.block g (Array.getElem?_eq_some_iff.1 h3).1).trans h3, h4⟩)⟩
end
end Go.Proofs.YtbaakfcbakpmpaaGreatDoor

/- script: the reference's Lines. No conditions but those that each law states. -/
namespace Go.Proofs.YtbaakfcbakpmpaaGreatDoor
set_option linter.unusedVariables false
set_option linter.unusedSimpArgs false
open Go.RowKit Go.Shelf
set_option maxHeartbeats 8000000
set_option maxRecDepth 100000
namespace Sc
/-- the first line that is none -/
def le : Nat → List (List UInt8) → Option Nat
  | _, [] => none
  | k, t :: ts => if says t = true then (if (parse stepT t).isSome = true then le (k + 1) ts else some k) else le (k + 1) ts
theorem le_skip {k : Nat} {t : List UInt8} {ts : List (List UInt8)} (h : says t = false) : le k (t :: ts) = le (k + 1) ts := by
  conv => lhs; unfold le
  rw [if_neg (by rw [h]; decide)]
theorem le_take {k : Nat} {t : List UInt8} {ts : List (List UInt8)} (h : says t = true) (hp : (parse stepT t).isSome = true) : le k (t :: ts) = le (k + 1) ts := by
  conv => lhs; unfold le
  rw [if_pos h, if_pos hp]
theorem le_stop {k : Nat} {t : List UInt8} {ts : List (List UInt8)} (h : says t = true) (hp : (parse stepT t).isSome = false) : le k (t :: ts) = some k := by
  conv => lhs; unfold le
  rw [if_pos h, if_neg (by rw [hp]; decide)]
theorem gd_len : ∀ (L : List (List UInt8)) (k : Nat), (gd k L).length ≤ L.length
  | [], k => Nat.le_refl _
  | t :: ts, k => by
    cases hs : says t with
    | false => rw [gd_skip hs]; exact Nat.le_trans (gd_len ts (k + 1)) (Nat.le_succ _)
    | true =>
      cases hp : (parse stepT t).isSome with
      | false => rw [gd_stop hs hp]; exact Nat.zero_le _
      | true => rw [gd_take hs hp, List.length_cons, List.length_cons]; exact Nat.succ_le_succ (gd_len ts (k + 1))
theorem rd_gd : ∀ (L : List (List UInt8)) (k : Nat) (acc : List St), acc.length + L.length ≤ 4096 → rd k L acc = (match le k L with
    | none => (acc ++ (gd k L).map (·.2), 0, 0)
    | some j => ([], j, 390))
  | [], k, acc, _ => by show (acc, 0, (0 : Int)) = (acc ++ [], 0, 0); rw [List.append_nil]
  | t :: ts, k, acc, h => by
    rw [List.length_cons] at h
    cases hs : says t with
    | false => rw [rd_skip hs, le_skip hs, gd_skip hs]; exact rd_gd ts (k + 1) acc (by omega)
    | true =>
      cases hp : (parse stepT t).isSome with
      | false =>
        have he : rdE (erS (parse stepT t)) acc.length = 390 := by unfold erS; rw [hp]; rfl
        rw [rd_no hs (by rw [he]; decide), he, le_stop hs hp]
      | true =>
        have he : rdE (erS (parse stepT t)) acc.length = 0 := by
          unfold erS; rw [hp]
          unfold rdE
          rw [if_pos rfl, if_neg (show ¬ acc.length = 4096 by omega)]
          rfl
        rw [rd_take hs he, le_take hs hp, gd_take hs hp, rd_gd ts (k + 1) _ (by rw [List.length_append, List.length_singleton]; omega)]
        cases le (k + 1) ts with
        | none => simp
        | some j => rfl
end Sc
section
variable {α : Type}
/-- a row of the call's own of things that have bytes, which lie elsewhere -/
structure RowS (f : α → List Value) (m : Nat) (e : TypeId) (bv : α → Value) (bb : α → List UInt8) (C : Nat) (X : World) (lv : Value) (ps : List α) : Prop where
  own : X.ownsRow C e m lv ps.length (ps.flatMap f)
  br : ∀ q ∈ ps, BR X (bv q) (bb q)
  sep : ∀ q ∈ ps, bb q ≠ [] → ∀ g, (bv q).ownBlock = some g → lv.ownBlock ≠ some g
theorem RowS.below {f : α → List Value} {m : Nat} {e : TypeId} {bv : α → Value} {bb : α → List UInt8} {C : Nat} {X Y : World} {lv : Value} {ps : List α} (h : RowS f m e bv bb C X lv ps) (hb : Below X.heap.size X Y) : RowS f m e bv bb C Y lv ps := ⟨own_belA h.own hb, fun q hq => (h.br q hq).below hb, h.sep⟩
theorem RowS.nil (f : α → List Value) (m : Nat) (e : TypeId) (bv : α → Value) (bb : α → List UInt8) (C : Nat) (X : World) : RowS f m e bv bb C X (.slice none 0 0) [] := ⟨World.ownsRow_nil _ _ _ _, (fun q hq => by cases hq), (fun q hq => by cases hq)⟩
theorem RowS.push {f : α → List Value} {m : Nat} {e : TypeId} {bv : α → Value} {bb : α → List UInt8} {C : Nat} {W Y : World} {lv lv' : Value} {ps : List α} {q : α} (h : RowS f m e bv bb C W lv ps) (hbr : BR W (bv q) (bb q)) (hsep : bb q ≠ [] → ∀ g, (bv q).ownBlock = some g → lv.ownBlock ≠ some g)
    (hown : Y.ownsRow C e m lv' (ps.length + 1) (ps.flatMap f ++ f q)) (hg : W.grownBy Y lv.ownBlock) (hblk : lv'.ownBlock = lv.ownBlock ∨ lv'.ownBlock = some W.heap.size) : RowS f m e bv bb C Y lv' (ps ++ [q]) := by
  have one : ∀ p : α, BR W (bv p) (bb p) → (bb p ≠ [] → ∀ g, (bv p).ownBlock = some g → lv.ownBlock ≠ some g) → BR Y (bv p) (bb p) ∧ (bb p ≠ [] → ∀ g, (bv p).ownBlock = some g → lv'.ownBlock ≠ some g) := fun p h1 h2 => by
    refine ⟨br_keep h1 (fun hl g hg' hlt => hg.block g hlt (fun e => h2 hl g hg' e.symm)), fun hl g hg' e => ?_⟩
    rcases hblk with e2 | e2
    · rw [e2] at e; exact h2 hl g hg' e
    · obtain ⟨g2, e3, e4⟩ := br_blk h1 hl
      rw [hg'] at e3
      cases e3
      rw [e2] at e
      cases e
      omega
  refine ⟨?_, fun p hp => ?_, fun p hp => ?_⟩
  · rw [List.length_append, List.length_singleton, List.flatMap_append, List.flatMap_cons, List.flatMap_nil, List.append_nil]
    exact hown
  · rcases List.mem_append.1 hp with hp | hp
    · exact (one p (h.br p hp) (h.sep p hp)).1
    · rw [List.mem_singleton] at hp; subst hp
      exact (one _ hbr hsep).1
  · rcases List.mem_append.1 hp with hp | hp
    · exact (one p (h.br p hp) (h.sep p hp)).2
    · rw [List.mem_singleton] at hp; subst hp
      exact (one _ hbr hsep).2
end
/-- a line: its number, its step, where the bytes lie -/
abbrev LQ := Nat × Sc.St × Value
def lnC (q : LQ) : List Value := [.int .i64 (q.1 : Int), .int .i64 q.2.1.kind, .int .u64 (q.2.1.conn : Int), .int .i64 q.2.1.topic, .int .u64 (q.2.1.n : Int), .int .u64 (q.2.1.draw : Int), q.2.2]
theorem lnC_len (q : LQ) : (lnC q).length = 7 := rfl
def lqd : LQ := (0, Sc.St.zero, undef)
def lkey (q : LQ) : Nat × Sc.St := (q.1, q.2.1)
def LnIn (w : World) (v : Value) (qs : List LQ) : Prop := Rin lnC 7 lqd w v qs ∧ ∀ q ∈ qs, BR w q.2.2 q.2.1.bytes
theorem LnIn.below {w w' : World} {v : Value} {qs : List LQ} (h : LnIn w v qs) (hb : Below w.heap.size w w') : LnIn w' v qs := ⟨h.1.below hb, fun q hq => (h.2 q hq).below hb⟩
structure LnCl (w : World) (g o : Nat) (q : LQ) : Prop where
  c0 : w.cell? ⟨g, o, none⟩ = some (.int .i64 (q.1 : Int))
  c1 : w.cell? ⟨g, o + 1, none⟩ = some (.int .i64 q.2.1.kind)
  c2 : w.cell? ⟨g, o + 2, none⟩ = some (.int .u64 (q.2.1.conn : Int))
  c3 : w.cell? ⟨g, o + 3, none⟩ = some (.int .i64 q.2.1.topic)
  c4 : w.cell? ⟨g, o + 4, none⟩ = some (.int .u64 (q.2.1.n : Int))
  c5 : w.cell? ⟨g, o + 5, none⟩ = some (.int .u64 (q.2.1.draw : Int))
  c6 : w.cell? ⟨g, o + 6, none⟩ = some q.2.2
theorem LnCl.below {w w' : World} {g o : Nat} {q : LQ} (h : LnCl w g o q) (hb : Below w.heap.size w w') : LnCl w' g o q := ⟨cell_below hb h.c0, cell_below hb h.c1, cell_below hb h.c2, cell_below hb h.c3, cell_below hb h.c4, cell_below hb h.c5, cell_below hb h.c6⟩
theorem LnIn.at {w : World} {v : Value} {qs : List LQ} (h : LnIn w v qs) {j : Nat} (hj : j < qs.length) :
    ∃ g o c, v = .slice (some ⟨g, o, none⟩) qs.length c ∧ LnCl w g (o + j * 7) (qs.getD j lqd) ∧ BR w (qs.getD j lqd).2.2 (qs.getD j lqd).2.1.bytes := by
  obtain ⟨g, o, c, h1, h2⟩ := h.1.at hj
  refine ⟨g, o, c, h1, ⟨h2 0 _ rfl, h2 1 _ rfl, h2 2 _ rfl, h2 3 _ rfl, h2 4 _ rfl, h2 5 _ rfl, h2 6 _ rfl⟩, h.2 _ ?_⟩
  rw [List.getD_eq_getElem?_getD, List.getElem?_eq_getElem hj]
  exact List.getElem_mem hj
theorem lkey_at {ps : List LQ} {G : List (Nat × Sc.St)} (h : ps.map lkey = G) (k : Nat) : lkey (ps.getD k lqd) = G.getD k (0, Sc.St.zero) := by
  rw [← h, List.getD_eq_getElem?_getD, List.getD_eq_getElem?_getD, List.getElem?_map]
  cases ps[k]? <;> rfl
abbrev LnS := RowS lnC 7 70 (fun q : LQ => q.2.2) (fun q : LQ => q.2.1.bytes)
def LinesOut (C : Nat) (L : List (List UInt8)) (w : World) (e : Ending) (w' : World) : Prop := ∃ v ps, e = .returned (.tuple #[v, .int .i64 (((Sc.le 0 L).getD 0 : Nat) : Int), .bool (Sc.le 0 L).isNone]) ∧ LnIn w' v ps ∧ ps.map lkey = Sc.gd 0 L ∧ Below C w w'
theorem rf_Lines (s : ByteArray) (L : List (List UInt8)) (w : World) (hL : Gs.parts 10 [] s.data.toList = L) (hs : s.size ≤ 4000) :
    Calls Tryz.prog 30 #[.string s] w (LinesOut w.heap.size L w) := by
  obtain ⟨j0, hj, hy0, hy1, hy2⟩ := info_parts (show (Tryz.prog.info? 70).map (fun i => (i.zero, i.size, i.bytes)) = some (some (.agg #[.int .i64 0, .int .i64 0, .int .u64 0, .int .i64 0, .int .u64 0, .int .u64 0, .slice none 0 0]), 7, 72) by kernel_rfl)
  have hI : ¬ (4194304 : Int) < (s.size : Int) := by omega
  have KW := rf_words s 10 w (by omega)
  obtain ⟨n, hn⟩ : ∃ z, L.length = z := ⟨_, rfl⟩
  rw [hL, hn, show ((10 : UInt8).toNat : Int) = 10 from rfl] at KW
  have hnl : n ≤ 4001 := by
    have h1 := Gs.parts_many 10 s.data.toList []
    have h2 : s.data.toList.length = s.size := rfl
    rw [hL, hn] at h1
    omega
  have hwl : ∀ t ∈ L, t.length ≤ 4000 := fun t ht => by
    rw [← hL] at ht
    have h1 := Gs.parts_len 10 _ _ t ht
    have h2 : s.data.toList.length = s.size := rfl
    rw [h2] at h1
    simp only [List.length_nil] at h1
    omega
  have HWL := Lib.hid hwl
  have HLN := Lib.hid hn
  have KW := Lib.hid KW
  clear hL hn hwl
  go_enter Tryz.func30, Tryz.ntmps30
  go_wp2_with fail
  refine KW.out.mono ?_
  rintro e w1 ⟨r, rfl, hrow, ⟨pw, cw, rfl, hcw⟩, hb1⟩
  have HW0 := Lib.hid (show ∀ j, j < n → ∃ g, pw = some ⟨g, 0, none⟩ ∧ w1.cell? ⟨g, j, none⟩ = some (tx (L.getD j [])) from fun j hj => by
    obtain ⟨p', c', h1, h2⟩ := hrow
    cases h1
    rcases h2 with h2 | ⟨g, h3, h4⟩
    · rw [HLN.out] at h2; omega
    · exact ⟨g, h3, h4 j (by rw [HLN.out]; exact hj)⟩)
  obtain ⟨C, hC⟩ : ∃ z, w1.heap.size = z := ⟨_, rfl⟩
  have HB1 := Lib.hid hb1
  have HCC := Lib.hid hC
  clear hrow hcw hb1 KW hC
  go_wp2_with fail
  go_loopw [5, 7] (fun lv i wr => ∃ (k : Nat) (ps : List LQ), k ≤ n ∧ i = .int .i64 k ∧ LnS C wr lv ps ∧ Sc.gd 0 L = ps.map lkey ++ Sc.gd k (L.drop k) ∧ Sc.le 0 L = Sc.le k (L.drop k) ∧ Below C w1 wr) (fun _ i _ => n - (intOf i).toNat)
  case atStart => exact ⟨0, [], Nat.zero_le _, rfl, RowS.nil _ _ _ _ _ _ _, rfl, rfl, Below.refl _ _⟩
  case round =>
    obtain ⟨k, ps, hk, rfl, hot, hgd, hle, hbl⟩ := hrel
    obtain ⟨lp, lc, rfl⟩ := own_slA hot.own
    have hpl : ps.length ≤ 5000 := by
      have h1 := congrArg List.length hgd
      rw [List.length_append, List.length_map] at h1
      have h2 := Sc.gd_len L 0
      have := HLN.out
      omega
    have HOT := Lib.hid hot
    have HGD := Lib.hid hgd
    have HLE := Lib.hid hle
    have HBL := Lib.hid hbl
    clear hot hgd hle hbl
    by_cases hlt : k < n
    · have hI2 : (k : Int) < (n : Int) := by omega
      have hkl : k < L.length := by rw [HLN.out]; exact hlt
      obtain ⟨g, rfl, hc⟩ := HW0.out k hlt
      have hct := cell_below (show Below w1.heap.size w1 wr by rw [HCC.out]; exact HBL.out) hc
      have hd := drop_atL hkl
      have htl := HWL.out (L.getD k []) (by rw [List.getD_eq_getElem?_getD, List.getElem?_eq_getElem hkl]; exact List.getElem_mem hkl)
      obtain ⟨t, ht⟩ : ∃ z, L.getD k [] = z := ⟨_, rfl⟩
      rw [ht] at hct hd htl
      unfold tx at hct
      obtain ⟨tb, htb⟩ : ∃ z : ByteArray, (⟨t.toArray⟩ : ByteArray) = z := ⟨_, rfl⟩
      rw [htb] at hct
      have htd : tb.data.toList = t := by rw [← htb]
      have HTD := Lib.hid htd
      have HD := Lib.hid hd
      have hts : tb.size ≤ 4000 := by
        have h2 : tb.data.toList.length = tb.size := by simp
        rw [htd] at h2
        omega
      have HSK := Lib.hid (show Sc.says t = false → Sc.gd 0 L = ps.map lkey ++ Sc.gd (k + 1) (L.drop (k + 1)) ∧ Sc.le 0 L = Sc.le (k + 1) (L.drop (k + 1)) from fun h => by
        rw [HGD.out, HLE.out, HD.out, Sc.gd_skip h, Sc.le_skip h]; exact ⟨rfl, rfl⟩)
      clear hc hd ht htb htd htl
      cases t with
      | nil =>
        have q1 : tb.toList.isEmpty = true := by rw [ByteArray.toList_eq, HTD.out]; rfl
        have q2 : (tb.toList == []) = true := by rw [ByteArray.toList_eq, HTD.out]; rfl
        obtain ⟨a1, a2⟩ := HSK.out rfl
        have A1 := Lib.hid a1
        have A2 := Lib.hid a2
        clear a1 a2
        go_wp2_with fail
        go_roundw
        case rel => exact ⟨k + 1, ps, hlt, by go_num, HOT.out, A1.out, A2.out, HBL.out⟩
        case measure => simp [intOf]; omega
      | cons c t2 =>
        have q1 : tb.toList.isEmpty = false := by rw [ByteArray.toList_eq, HTD.out]; rfl
        have q2 : (tb.toList == []) = false := by rw [ByteArray.toList_eq, HTD.out]; rfl
        have htz1 : 0 < tb.size := by
          have h2 : tb.data.toList.length = tb.size := by simp
          rw [HTD.out] at h2
          simp at h2
          omega
        have hi0 : ∀ W, (Instr.index 9 (.string tb) (.int .i64 0)).run Tryz.prog W = .ok (.int .u8 (c.toNat : Int)) W := fun W => by
          have h1 := dec_index_at0 tb W 0 htz1
          have h2 : tb[0]'htz1 = c := by
            have h3 : tb.data.toList[0]? = some c := by rw [HTD.out]; rfl
            rw [Array.getElem?_toList] at h3
            obtain ⟨h4, h5⟩ := Array.getElem?_eq_some_iff.1 h3
            exact h5
          rw [h2] at h1
          exact h1
        by_cases h35 : c = 35
        · have q3 : ((c.toNat : Int) == 35) = true := by rw [h35]; rfl
          obtain ⟨a1, a2⟩ := HSK.out (by rw [h35]; rfl)
          have A1 := Lib.hid a1
          have A2 := Lib.hid a2
          clear a1 a2 h35
          go_wp2_with fail
          go_roundw
          case rel => exact ⟨k + 1, ps, hlt, by go_num, HOT.out, A1.out, A2.out, HBL.out⟩
          case measure => simp [intOf]; omega
        · have q3 : ((c.toNat : Int) == 35) = false := by
            rw [beq_eq_false_iff_ne]
            intro e
            exact h35 (UInt8.toNat_inj.1 (by show c.toNat = 35; omega))
          have HSAY := Lib.hid (show Sc.says (c :: t2) = true by show (c != 35) = true; simp [h35])
          have KP := rf_Parse tb wr (by omega)
          rw [HTD.out] at KP
          obtain ⟨y, hy⟩ : ∃ z, stp (Sc.parse Sc.stepT (c :: t2)) = z := ⟨_, rfl⟩
          obtain ⟨er, her⟩ : ∃ z, erS (Sc.parse Sc.stepT (c :: t2)) = z := ⟨_, rfl⟩
          rw [hy, her] at KP
          have HY := Lib.hid hy
          have HER := Lib.hid her
          have KP := Lib.hid KP
          clear hy her h35 htz1
          go_wp2_with fail
          refine KP.out.mono ?_
          rintro e w2 ⟨u, rfl, hu, hnu, hb2⟩
          obtain ⟨p, un, uc, rfl⟩ := hu.sl
          unfold stVal
          obtain ⟨R5, hR5⟩ : ∃ z, w2.heap.size = z := ⟨_, rfl⟩
          obtain ⟨W5, hW5⟩ : ∃ z, w2.alloc (.cells #[.int .i64 y.kind, .int .u64 (y.conn : Int), .int .i64 y.topic, .int .u64 (y.n : Int), .int .u64 (y.draw : Int), .slice p un uc] 26) = z := ⟨_, rfl⟩
          have hb5 : Below wr.heap.size wr W5 := by rw [← hW5]; exact hb2.alloc hb2.size _
          have hR5' : W5.heap[R5]? = some (stObj y (.slice p un uc)) := by rw [← hW5, ← hR5]; exact World.alloc_heap_new _ _
          have HBR5 := Lib.hid (show BRow W5 (.slice p un uc) y.bytes by rw [← hW5]; exact hu.below ((Below.refl _ _).alloc (Nat.le_refl _) _))
          have HSEP := Lib.hid (show y.bytes ≠ [] → ∀ g, (Value.slice p un uc).ownBlock = some g → (Value.slice lp ps.length lc).ownBlock ≠ some g from fun _ g hg e => by
            have h1 := hnu g hg
            have h3 := (HOT.out.own.lt g e).2
            omega)
          have HOT5 := Lib.hid (HOT.out.below hb5)
          have HB5 := Lib.hid (HBL.out.trans (hb5.mono (by have := HBL.out.size; have := HCC.out; omega)))
          obtain ⟨r0, r1, r2, r3, r4, r5, _⟩ := SR.of hR5'
          have HW5 := Lib.hid hW5
          have HRR := Lib.hid hR5
          clear hu hnu hb2 hb5 hR5' hW5 hR5 hct hi0 q1 q2 q3 KP
          go_upto_region 10 with (fail)
          rw [HRR.out, HW5.out]
          cases hp : (Sc.parse Sc.stepT (c :: t2)).isSome with
          | false =>
            have e0 : er = 390 := by rw [← HER.out]; unfold erS; rw [hp]; rfl
            subst e0
            have HE1 := Lib.hid (show Sc.le 0 L = some k by rw [HLE.out, HD.out, Sc.le_stop HSAY.out hp])
            have HE2 := Lib.hid (show ps.map lkey = Sc.gd 0 L by rw [HGD.out, HD.out, Sc.gd_stop HSAY.out hp, List.append_nil])
            clear hp
            go_wp2_with fail
            simp [bodyPost, results, Tryz.results30, go_sem]
            refine ⟨_, ps, ?_, ⟨Rin.of_own lnC_len (by decide) HOT5.out.own, HOT5.out.br⟩, HE2.out, HB1.out.trans (HB5.out.mono (by have := HB1.out.size; have := HCC.out; omega))⟩
            rw [HE1.out]; rfl
          | true =>
            have e0 : er = 0 := by rw [← HER.out]; unfold erS; rw [hp]; rfl
            subst e0
            have HG2 := Lib.hid (show Sc.gd 0 L = (ps ++ [((k, y, .slice p un uc) : LQ)]).map lkey ++ Sc.gd (k + 1) (L.drop (k + 1)) by
              rw [HGD.out, HD.out, Sc.gd_take HSAY.out hp, HY.out, List.map_append, List.append_assoc]; rfl)
            have HE2 := Lib.hid (show Sc.le 0 L = Sc.le (k + 1) (L.drop (k + 1)) by rw [HLE.out, HD.out, Sc.le_take HSAY.out hp])
            clear hp
            go_wp2_with (at_builtin; refine wpList_append_blk rfl _ _ 63 rfl C 70 j0 (.agg #[.int .i64 0, .int .i64 0, .int .u64 0, .int .i64 0, .int .u64 0, .int .u64 0, .slice none 0 0]) 7 72 Tryz.underlying63 hj hy0 hy1 hy2 rfl (by decide) _ _ _ rfl (own_belA HOT5.out.own ((Below.refl _ _).alloc (Nat.le_refl _) _)) ⟨W5.heap.size, 0, none⟩ 1 1 (lnC (k, y, .slice p un uc)) rfl rfl ?c1 ?c2 (by unfold maxLen; omega) (by omega) (by have := HB5.out.size; have := HCC.out; simp; omega) ?_)
            case c1 =>
              intro i u hi
              match i, hi with
              | 0, hi => simp [lnC] at hi; subst hi; simp [Addr.add]
              | 1, hi => simp [lnC] at hi; subst hi; simp [Addr.add]
              | 2, hi => simp [lnC] at hi; subst hi; simp [Addr.add]
              | 3, hi => simp [lnC] at hi; subst hi; simp [Addr.add]
              | 4, hi => simp [lnC] at hi; subst hi; simp [Addr.add]
              | 5, hi => simp [lnC] at hi; subst hi; simp [Addr.add]
              | 6, hi => simp [lnC] at hi; subst hi; simp [Addr.add]
            case c2 => intro u hu; simp [lnC] at hu; rcases hu with rfl | rfl | rfl | rfl | rfl | rfl | rfl <;> rfl
            intro v9 w9 hown9 hgrow9 hblk9
            have HOT9 := Lib.hid (RowS.push (q := ((k, y, .slice p un uc) : LQ)) (HOT5.out.below ((Below.refl _ _).alloc (Nat.le_refl _) _)) (HBR5.out.br.below ((Below.refl _ _).alloc (Nat.le_refl _) _)) HSEP.out hown9 hgrow9 (by simpa using hblk9))
            have HB9 := Lib.hid (show Below C w1 w9 from Below.grown (HB5.out.alloc (by have := HB5.out.size; have := HCC.out; omega) _) hgrow9 (by have := HB5.out.size; have := HCC.out; simp; omega) (own_geA HOT5.out.own))
            clear hown9 hgrow9 hblk9 r0 r1 r2 r3 r4 r5
            go_wp2
            go_roundw
            case rel => exact ⟨k + 1, _, hlt, by go_num, HOT9.out, HG2.out, HE2.out, HB9.out⟩
            case measure => simp [intOf]; omega
    · have hI2 : ¬ (k : Int) < (n : Int) := by omega
      have hdn : L.drop k = [] := List.drop_eq_nil_of_le (by rw [HLN.out]; omega)
      have HE1 := Lib.hid (show Sc.le 0 L = none by rw [HLE.out, hdn]; rfl)
      have HE2 := Lib.hid (show ps.map lkey = Sc.gd 0 L by rw [HGD.out, hdn]; show _ = _ ++ []; rw [List.append_nil])
      clear hdn
      go_wp2_with fail
      simp [bodyPost, results, Tryz.results30, go_sem]
      refine ⟨_, ps, ?_, ⟨Rin.of_own lnC_len (by decide) HOT.out.own, HOT.out.br⟩, HE2.out, HB1.out.trans (HBL.out.mono (by have := HB1.out.size; have := HCC.out; omega))⟩
      rw [HE1.out]; rfl
end Go.Proofs.YtbaakfcbakpmpaaGreatDoor

/- script: the reference's Read. No conditions but those that each law states. -/
namespace Go.Proofs.YtbaakfcbakpmpaaGreatDoor
set_option linter.unusedVariables false
set_option linter.unusedSimpArgs false
open Go.RowKit Go.Shelf
set_option maxHeartbeats 8000000
set_option maxRecDepth 100000
def readL (L : List (List UInt8)) : List Sc.St × Nat × Int := match Sc.le 0 L with
  | none => ((Sc.gd 0 L).map (·.2), 0, 0)
  | some j => ([], j, 390)
theorem readL_none {L : List (List UInt8)} (h : Sc.le 0 L = none) : readL L = ((Sc.gd 0 L).map (·.2), 0, 0) := by unfold readL; rw [h]
theorem readL_some {L : List (List UInt8)} {j : Nat} (h : Sc.le 0 L = some j) : readL L = ([], j, 390) := by unfold readL; rw [h]
theorem read_gd {s : List UInt8} {L : List (List UInt8)} (hL : Gs.parts 10 [] s = L) (hl : L.length ≤ 4096) : Sc.read s = readL L := by
  unfold Sc.read
  rw [hL, Sc.rd_gd L 0 [] (by rw [List.length_nil]; omega)]
  cases h : Sc.le 0 L with
  | none => rw [readL_none h]; rfl
  | some j => rw [readL_some h]
abbrev SpS := RowS stC 6 26 (fun q : Sc.St × Value => q.2) (fun q : Sc.St × Value => q.1.bytes)
def ReadOutR (C : Nat) (r : List Sc.St × Nat × Int) (w : World) (e : Ending) (w' : World) : Prop := ∃ v qs, e = .returned (.tuple #[v, .int .i64 (r.2.1 : Int), .int .i64 r.2.2]) ∧ StsIn w' v qs ∧ qs.map (·.1) = r.1 ∧ Below C w w'
theorem rf_Read (s : ByteArray) (w : World) (hs : s.size ≤ 4000) :
    Calls Tryz.prog 29 #[.string s] w (ReadOutR w.heap.size (Sc.read s.data.toList) w) := by
  obtain ⟨j0, hj, hy0, hy1, hy2⟩ := info_parts (show (Tryz.prog.info? 26).map (fun i => (i.zero, i.size, i.bytes)) = some (some (.agg #[.int .i64 0, .int .u64 0, .int .i64 0, .int .u64 0, .int .u64 0, .slice none 0 0]), 6, 64) by kernel_rfl)
  have hI : ¬ (4194304 : Int) < (s.size : Int) := by omega
  obtain ⟨L, hL⟩ : ∃ z, Gs.parts 10 [] s.data.toList = z := ⟨_, rfl⟩
  have hLl : L.length ≤ 4001 := by
    have h1 := Gs.parts_many 10 s.data.toList []
    have h2 : s.data.toList.length = s.size := rfl
    rw [hL] at h1
    omega
  have hrd := read_gd hL (by omega)
  have KL := Lib.hid (rf_Lines s L w hL hs)
  rw [hrd]
  obtain ⟨r, hr⟩ : ∃ z, readL L = z := ⟨_, rfl⟩
  rw [hr]
  have HRR := Lib.hid hr
  have hgl := Sc.gd_len L 0
  clear hL hrd hr
  go_enter Tryz.func29, Tryz.ntmps29
  go_wp2_with fail
  refine KL.out.mono ?_
  rintro e w1 ⟨v, ps, rfl, hin, hkey, hb1⟩
  obtain ⟨vp, vc, rfl⟩ := hin.1.slice
  obtain ⟨n, hn⟩ : ∃ z, ps.length = z := ⟨_, rfl⟩
  have hn4 : n ≤ 4001 := by
    have h1 := congrArg List.length hkey
    rw [List.length_map] at h1
    omega
  rw [hn] at hin ⊢
  have HIN := Lib.hid hin
  have HKEY := Lib.hid hkey
  have HNN := Lib.hid hn
  have HB1 := Lib.hid hb1
  have hI2 : ¬ (4096 : Int) < (n : Int) := by omega
  clear hin hkey hn hb1 hgl hLl KL
  cases hle : Sc.le 0 L with
  | some j =>
    simp only [Option.getD_some, Option.isNone_some]
    have HR2 := Lib.hid (show r = ([], j, 390) from HRR.out.symm.trans (readL_some hle))
    clear hle
    go_wp2_with fail
    simp [bodyPost, results, Tryz.results29, go_sem]
    rw [HR2.out]
    exact ⟨_, [], rfl, ⟨none, 0, rfl, .inl rfl, fun q hq => by cases hq⟩, rfl, HB1.out⟩
  | none =>
    simp only [Option.getD_none, Option.isNone_none]
    have HR2 := Lib.hid (show r = ((Sc.gd 0 L).map (·.2), 0, 0) from HRR.out.symm.trans (readL_none hle))
    clear hle
    obtain ⟨C, hC⟩ : ∃ z, w1.heap.size = z := ⟨_, rfl⟩
    have HCC := Lib.hid hC
    clear hC
    go_wp2_with fail
    go_loopw [8, 9] (fun lv i wr => ∃ (k : Nat) (qs : List (Sc.St × Value)), k ≤ n ∧ i = .int .i64 k ∧ SpS C wr lv qs ∧ qs.map (·.1) = (ps.take k).map (fun q => q.2.1) ∧ Below C w1 wr) (fun _ i _ => n - (intOf i).toNat)
    case atStart => exact ⟨0, [], Nat.zero_le _, rfl, RowS.nil _ _ _ _ _ _ _, rfl, Below.refl _ _⟩
    case round =>
      obtain ⟨k, qs, hk, rfl, hot, hqs, hbl⟩ := hrel
      obtain ⟨lp, lc, rfl⟩ := own_slA hot.own
      have hpl : qs.length ≤ 4001 := by
        have h1 := congrArg List.length hqs
        rw [List.length_map, List.length_map, List.length_take] at h1
        omega
      have HOT := Lib.hid hot
      have HQS := Lib.hid hqs
      have HBL := Lib.hid hbl
      clear hot hqs hbl
      by_cases hlt : k < n
      · have hI3 : (k : Int) < (n : Int) := by omega
        have hkl : k < ps.length := by rw [HNN.out]; exact hlt
        obtain ⟨g, o, c, hsl, hoc, hbr⟩ := (HIN.out.below (by rw [HCC.out]; exact HBL.out)).at (j := k) hkl
        obtain ⟨_, _, _, _, _, hbr0⟩ := HIN.out.at (j := k) hkl
        obtain ⟨rfl, rfl⟩ : vp = some ⟨g, o, none⟩ ∧ vc = c := by
          simp only [Value.slice.injEq] at hsl
          exact ⟨hsl.1, hsl.2.2⟩
        have HTN := Lib.hid (show ps.take (k + 1) = ps.take k ++ [ps.getD k lqd] by rw [List.take_succ_eq_append_getElem hkl, List.getD_eq_getElem?_getD, List.getElem?_eq_getElem hkl]; rfl)
        obtain ⟨⟨a, x, u⟩, hq⟩ : ∃ z, ps.getD k lqd = z := ⟨_, rfl⟩
        rw [hq] at hoc hbr hbr0 HTN
        simp only at hbr hbr0
        obtain ⟨up, un, uc, rfl⟩ := hbr.sl
        obtain ⟨k0, k1, k2, k3, k4, k5, k6⟩ := hoc
        simp only at k0 k1 k2 k3 k4 k5 k6
        have HBR := Lib.hid hbr
        have HSEP := Lib.hid (show x.bytes ≠ [] → ∀ g, (Value.slice up un uc).ownBlock = some g → (Value.slice lp qs.length lc).ownBlock ≠ some g from fun hl g hg e => by
          obtain ⟨g', h1, h2⟩ := br_blk hbr0 hl
          rw [hg] at h1
          cases h1
          have h3 := (HOT.out.own.lt g e).1
          have := HCC.out
          omega)
        have HQ2 := Lib.hid (show (qs ++ [((x, .slice up un uc) : Sc.St × Value)]).map (·.1) = (ps.take (k + 1)).map (fun q => q.2.1) by
          rw [List.map_append, HQS.out, HTN.out, List.map_append]; rfl)
        clear hsl hbr hbr0 hq
        go_wp2_with (at_builtin; refine wpList_append_blk rfl _ _ 53 rfl C 26 j0 (.agg #[.int .i64 0, .int .u64 0, .int .i64 0, .int .u64 0, .int .u64 0, .slice none 0 0]) 6 64 Tryz.underlying53 hj hy0 hy1 hy2 rfl (by decide) _ _ _ rfl (own_belA HOT.out.own ((Below.refl _ _).alloc (Nat.le_refl _) _)) ⟨wr.heap.size, 0, none⟩ 1 1 (stC (x, .slice up un uc)) rfl rfl ?c1 ?c2 (by unfold maxLen; omega) (by omega) (by have := HBL.out.size; have := HCC.out; simp; omega) ?_)
        case c1 =>
          intro i u hi
          match i, hi with
          | 0, hi => simp [stC] at hi; subst hi; simp [Addr.add]
          | 1, hi => simp [stC] at hi; subst hi; simp [Addr.add]
          | 2, hi => simp [stC] at hi; subst hi; simp [Addr.add]
          | 3, hi => simp [stC] at hi; subst hi; simp [Addr.add]
          | 4, hi => simp [stC] at hi; subst hi; simp [Addr.add]
          | 5, hi => simp [stC] at hi; subst hi; simp [Addr.add]
        case c2 => intro u hu; simp [stC] at hu; rcases hu with rfl | rfl | rfl | rfl | rfl | rfl <;> rfl
        intro v9 w9 hown9 hgrow9 hblk9
        have HOT9 := Lib.hid (RowS.push (q := ((x, .slice up un uc) : Sc.St × Value)) (HOT.out.below ((Below.refl _ _).alloc (Nat.le_refl _) _)) (HBR.out.below ((Below.refl _ _).alloc (Nat.le_refl _) _)) HSEP.out hown9 hgrow9 (by simpa using hblk9))
        have HB9 := Lib.hid (show Below C w1 w9 from Below.grown (HBL.out.alloc (by have := HBL.out.size; have := HCC.out; omega) _) hgrow9 (by have := HBL.out.size; have := HCC.out; simp; omega) (own_geA HOT.out.own))
        clear hown9 hgrow9 hblk9 k0 k1 k2 k3 k4 k5 k6
        go_wp2
        go_roundw
        case rel => exact ⟨k + 1, _, hlt, by go_num, HOT9.out, HQ2.out, HB9.out⟩
        case measure => simp [intOf]; omega
      · have hI3 : ¬ (k : Int) < (n : Int) := by omega
        have HE2 := Lib.hid (show qs.map (·.1) = (Sc.gd 0 L).map (·.2) by
          rw [HQS.out, List.take_of_length_le (by rw [HNN.out]; omega), ← HKEY.out, List.map_map]; rfl)
        go_wp2_with fail
        simp [bodyPost, results, Tryz.results29, go_sem]
        rw [HR2.out]
        exact ⟨_, qs, rfl, own_stsIn HOT.out.own HOT.out.br, HE2.out, HB1.out.trans (HBL.out.mono (by have := HB1.out.size; have := HCC.out; omega))⟩
end Go.Proofs.YtbaakfcbakpmpaaGreatDoor

/- A region that draws its order, with guarded operations, within a round of a range over a function: by what its slots hold. No condition but those that each law states. -/
namespace Go.Proofs.YtbaakfcbakpmpaaGreatDoor
set_option linter.unusedVariables false
set_option linter.unusedSimpArgs false
open Go.RowKit
set_option maxHeartbeats 2000000
section
variable {P : Program} {ops : Array Oper} {Q : Exit → Act → World → Prop} {l n : Nat} {md : Region.Mode}
theorem wpAnyR_invG (hd : noDefer ops = true) (hb : backG md ops = true) (Inv : (Nat → Bool) → Act → World → Prop)
    (hstep : ∀ (f : Nat → Bool) (a : Act) (w : World) (i : Nat) (o : Oper), ops[i]? = some o → f i = false → (∀ e ∈ o.after, Region.binds md e = true → f e.on = true) → Inv f a w →
      if Region.wanted o (yielded ops a.tmps) then o.wp P a w (Inv (fun j => if j = i then true else f j)) Q else Inv (fun j => if j = i then true else f j) (a.put o.dst undef) w)
    (hdone : ∀ (f : Nat → Bool) (a : Act) (w : World), (∀ i, i < ops.size → f i = true) → Inv f a w → Q .normal a w) :
    ∀ (fuel : Nat) (listed : Array Bool) (a : Act) (w : World), listed.size = ops.size → listed.toList.count false ≤ fuel → Inv (fun i => listed.getD i false) a w → wpAnyIn (Fence.wide.inRound l) n P md ops Q fuel listed a w := by
  intro fuel
  induction fuel with
  | zero =>
    intro listed a w hs hc hI
    have hr : Region.ready md ops listed = [] := by
      cases hr : Region.ready md ops listed with
      | nil => rfl
      | cons i r =>
        obtain ⟨o, ho, hl, hi, _⟩ := ready_mem (md := md) hs (i := i) (by rw [hr]; exact List.mem_cons_self)
        have h1 : false ∈ listed.toList := by
          simp only [Array.getD, hi, dite_true] at hl
          have h2 : listed[i] ∈ listed.toList := Array.mem_toList_iff.2 (Array.getElem_mem hi)
          have h3 : listed[i] = false := hl
          rwa [h3] at h2
        have := List.count_pos_iff.2 h1
        omega
    exact ⟨hr, hdone _ a w (ready_allG hb hs hr) hI⟩
  | succ fuel ih =>
    intro listed a w hs hc hI
    refine ⟨fun hr => hdone _ a w (ready_allG hb hs hr) hI, fun i hi => ?_⟩
    obtain ⟨o, ho, hl, hil, hpre⟩ := ready_mem hs hi
    have h1 := hstep _ a w i o ho hl hpre hI
    have hnext : ∀ a' w', Inv (fun j => if j = i then true else listed.getD j false) a' w' → wpAnyIn (Fence.wide.inRound l) n P md ops Q fuel (listed.setIfInBounds i true) a' w' := by
      intro a' w' hI'
      refine ih _ a' w' (by simp [hs]) ?_ ?_
      · have h3 : listed.toList[i]'(by simpa using hil) = false := by
          simp only [Array.getD, hil, dite_true] at hl
          simpa using hl
        rw [Array.toList_setIfInBounds, List.count_set (h := by simpa using hil), h3]
        have h4 : 0 < listed.toList.count false := List.count_pos_iff.2 (by rw [← h3]; exact List.getElem_mem _)
        rw [if_pos (by rfl), if_neg (by decide)]
        omega
      · refine cast (congrArg (fun g => Inv g a' w') (funext fun j => ?_)) hI'
        by_cases hj : j = i
        · subst hj
          simp [Array.getD, hil]
        · rw [if_neg hj]
          simp only [Array.getD, Array.size_setIfInBounds]
          by_cases hjl : j < listed.size
          · simp [hjl, Array.getElem_setIfInBounds, Ne.symm hj]
          · simp [hjl]
    unfold wpOpIn
    simp only [ho]
    split
    · rename_i hw
      rw [if_pos hw] at h1
      exact opR (noDefer_at hd ho) (Oper.wp_mono (fun a' w' hI' => hnext a' w' hI') h1)
    · rename_i hw
      rw [if_neg hw] at h1
      exact ⟨fun _ _ => trivial, hnext _ _ h1⟩
theorem region_invR {id : Nat} {a : Act} {w : World} (hd : noDefer ops = true) (hm : P.follows .mixedOrders = true) (hb : backG .any ops = true) (Inv : (Nat → Bool) → Act → World → Prop) (h0 : Inv (fun _ => false) a w.drew)
    (hstep : ∀ (f : Nat → Bool) (a : Act) (w : World) (i : Nat) (o : Oper), ops[i]? = some o → f i = false → (∀ e ∈ o.after, Region.binds .any e = true → f e.on = true) → Inv f a w →
      if Region.wanted o (yielded ops a.tmps) then o.wp P a w (Inv (fun j => if j = i then true else f j)) Q else Inv (fun j => if j = i then true else f j) (a.put o.dst undef) w)
    (hdone : ∀ (f : Nat → Bool) (a : Act) (w : World), (∀ i, i < ops.size → f i = true) → Inv f a w → Q .normal a w) : (Code.region id ops true).wpIn (Fence.wide.inRound l) n P Q a w := by
  refine wpIn_region_any hm (wpAnyR_invG hd hb Inv hstep hdone _ _ a _ (by simp) ?_ ?_)
  · refine Nat.le_trans List.count_le_length ?_
    simp
  · refine cast (congrArg (fun g => Inv g a w.drew) (funext fun j => ?_)) h0
    by_cases hj : j < ops.size <;> simp [Array.getD, hj]
theorem region_slotsR {id : Nat} {a0 : Act} {w0 : World} (slot : Nat → Nat) (F : Nat → World → Value → Prop) (sel : Nat → Bool) (hd : noDefer ops = true) (hm : P.follows .mixedOrders = true) (hb : backG .any ops = true)
    (hs : ∀ i, slot i < a0.tmps.size) (hinj : ∀ i j, i < ops.size → j < ops.size → slot i = slot j → i = j) (hF : ∀ i w w' v, F i w v → Below w.heap.size w w' → F i w' v)
    (hdst : ∀ i o, ops[i]? = some o → o.dst = some (slot i))
    (hgu : ∀ i o g b, ops[i]? = some o → o.guard = some (g, b) → ∀ w v, F g w v → v = .bool (if sel i then b else !b) ∨ (sel i = false ∧ v = undef))
    (hng : ∀ i o, ops[i]? = some o → o.guard = none → sel i = true)
    (hskip : ∀ i w, i < ops.size → sel i = false → F i w undef)
    (hstep : ∀ (f : Nat → Bool) (a : Act) (w : World) (i : Nat) (o : Oper), ops[i]? = some o → sel i = true → (∀ e ∈ o.after, Region.binds .any e = true → F e.on w (a.tmps.getD (slot e.on) undef)) → Below w0.heap.size w0 w →
      (∀ j, (∀ i, i < ops.size → slot i ≠ j) → a.tmps.getD j undef = a0.tmps.getD j undef) → o.wp P a w (fun a' w' => ∃ v, a' = a.put o.dst v ∧ F i w' v ∧ Below w.heap.size w w') Q)
    (hdone : ∀ (vs : Nat → Value) (w : World), Below w0.heap.size w0 w → (∀ i, i < ops.size → F i w (vs i)) → Q .normal { a0 with tmps := fillN slot vs ops.size a0.tmps } w) : (Code.region id ops true).wpIn (Fence.wide.inRound l) n P Q a0 w0 := by
  refine region_invR hd hm hb (Stand a0 w0 ops.size slot F) ⟨rfl, rfl, fun _ _ => rfl, ⟨rfl, rfl, rfl, Nat.le_refl _, fun _ _ => rfl⟩, fun _ _ h => by cases h⟩ ?_ ?_
  · intro f a w i o ho hf hpre hI
    have hi := (Array.getElem?_eq_some_iff.1 ho).1
    have hsl : slot i < a.tmps.size := by rw [hI.size]; exact hs i
    have hput : ∀ w' v, F i w' v → Below w.heap.size w w' → Stand a0 w0 ops.size slot F (fun j => if j = i then true else f j) (a.put o.dst v) w' := by
      intro w' v hv hbw
      rw [hdst i o ho]
      refine ⟨hI.defers, by rw [← hI.size]; exact Array.size_setIfInBounds .., fun j hj => ?_, hI.bel.trans (hbw.mono hI.bel.size), fun j hj hfj => ?_⟩
      · show (a.tmps.setIfInBounds (slot i) v).getD j undef = _
        rw [getD_set _ _ _ _ hsl, if_neg (Ne.symm (hj i hi))]
        exact hI.rest j hj
      · show F j w' ((a.tmps.setIfInBounds (slot i) v).getD (slot j) undef)
        rw [getD_set _ _ _ _ hsl]
        by_cases hji : j = i
        · subst hji; rw [if_pos rfl]; exact hv
        · rw [if_neg (fun e => hji (hinj j i hj hi e))]
          have h2 : f j = true := by simpa [hji] using hfj
          exact hF j w w' _ (hI.have_ j hj h2) hbw
    have hwant : Region.wanted o (yielded ops a.tmps) = sel i := by
      unfold Region.wanted
      cases hg : o.guard with
      | none => exact (hng i o ho hg).symm
      | some gb =>
        obtain ⟨g, b⟩ := gb
        obtain ⟨e, he, heg, hbd⟩ := (back_ofG hb ho).1 g b hg
        have hgi : g < i := by rw [← heg]; exact (back_ofG hb ho).2 e he hbd
        have hfg : f g = true := by rw [← heg]; exact hpre e he hbd
        have hv := hgu i o g b ho hg w _ (hI.have_ g (by omega) hfg)
        have hsg : slot g < a.tmps.size := by rw [hI.size]; exact hs g
        have hy : yielded ops a.tmps g = (match a.tmps.getD (slot g) undef with | .bool x => some x | _ => none) := by
          unfold yielded
          rw [Array.getElem?_eq_getElem (show g < ops.size by omega), Option.bind_some, hdst g _ (Array.getElem?_eq_getElem (by omega)), Option.bind_some, Array.getElem?_eq_getElem hsg]
          rw [Array.getD_eq_getD_getElem?, Array.getElem?_eq_getElem hsg, Option.getD_some]
          cases a.tmps[slot g] <;> rfl
        show (yielded ops a.tmps g == some b) = sel i
        rw [hy]
        rcases hv with hv | ⟨hsi, hv⟩
        · rw [hv]
          cases sel i <;> cases b <;> rfl
        · rw [hv, hsi]; rfl
    rw [hwant]
    cases hsel : sel i with
    | true =>
      rw [if_pos rfl]
      refine Oper.wp_mono ?_ (hstep f a w i o ho hsel (fun e he hbd => hI.have_ e.on (by have := (back_ofG hb ho).2 e he hbd; omega) (hpre e he hbd)) hI.bel hI.rest)
      rintro a' w' ⟨v, rfl, hv, hbw⟩
      exact hput w' v hv hbw
    | false =>
      rw [if_neg (by decide)]
      exact hput w undef (hskip i w hi hsel) (Below.refl _ _)
  · intro f a w hall hI
    have e : a = { a0 with tmps := fillN slot (fun i => a.tmps.getD (slot i) undef) ops.size a0.tmps } := by
      have h1 : a.tmps = fillN slot (fun i => a.tmps.getD (slot i) undef) ops.size a0.tmps := by
        refine ext_getD (by rw [fillN_size, hI.size]) (fun j => ?_)
        by_cases hj : ∃ i, i < ops.size ∧ slot i = j
        · obtain ⟨i, hi, rfl⟩ := hj
          rw [fillN_at slot _ _ hs _ hinj i hi]
        · rw [fillN_get slot _ _ hs _ j (fun i hi e => hj ⟨i, hi, e⟩), hI.rest j (fun i hi e => hj ⟨i, hi, e⟩)]
      obtain ⟨t, d⟩ := a
      have h2 := hI.defers
      simp only at h1 h2
      rw [← h1, h2]
    rw [e]
    exact hdone _ w hI.bel (fun i hi => hI.have_ i hi (hall i hi))
end
end Go.Proofs.YtbaakfcbakpmpaaGreatDoor

/- script: for ScriptReads: a range over a func whose yielded step is boxed in each round. No conditions but those that each law states. -/
namespace Go.Proofs.YtbaakfcbakpmpaaGreatDoor
set_option linter.unusedVariables false
set_option linter.unusedSimpArgs false
open Go.RowKit Go.Shelf
set_option maxHeartbeats 2000000
section
variable {F : Fence} {n : Nat} {P : Program}
/-- a range left by a break alone, whose round's frame hangs on a slice that was yielded and on the place of the round's own box -/
theorem rg_breakS {g : Operand} {ps : Array Tmp} {assign body : Code} {Q : Exit → Act → World → Prop} {id : Nat} {a : Act} {w : World}
    (hro : F.round = none) (h1 : 1 ≤ n) {gf : Nat} {lb : Array Value} (hg : a.eval g = .func (.func gf) #[] lb) (hFg : F.fn gf) (eg : ∀ args w, (callFunc gf args).run P w = .ok (.enter gf args) w)
    {Enc : Nat → Array Value → World → Prop} {N : Nat} {own : Nat → Prop} {Kp : World → World → Prop} (hps : ∀ k a X, Enc k a X → a.size = ps.size) (hrow : ∀ b, own b → b ≠ w.heap.size ∧ b ≠ w.heap.size + 1)
    (hit : ∀ W, Below w.heap.size w W → W.heap.size = w.heap.size + 2 → IterG F (n - 1) P gf lb Enc N own Kp W)
    (hKt : ∀ {A B C : World}, Kp A B → Kp B C → Kp A C) (hKb : ∀ (W : World) (o o' : Obj), W.heap[w.heap.size + 1]? = some o → o.isCells = false → Kp W (W.putObj (w.heap.size + 1) o'))
    (I : Nat → World → Prop) (IE : World → Prop) (hI : ∀ k X Y, I k X → Turn w.heap.size own X Y → I k Y) (hIE : ∀ X Y, IE X → Turn w.heap.size own X Y → IE Y) (h0 : I 0 w)
    (Bx : Nat → Option Addr → Nat → Nat → Nat → World → Prop) (hBx : ∀ k p u c R X Y, Bx k p u c R X → Turn w.heap.size own X Y → Bx k p u c R Y)
    (hE : ∃ A2 : Nat → Option Addr → Nat → Nat → Nat → Act, (∀ (l k : Nat) (args : Array Value) (W : World) (K : Act → World → Prop), k < N → I k W → Enc k args W → (∀ p u c R W', KeepsFrom w.heap.size W W' → Kp W W' → I k W' → Bx k p u c R W' → K (A2 k p u c R) W') →
        assign.wpIn (F.inRound l) (n - 1 - 1) P (Exit.then K (fun _ _ _ => False)) { tmps := (ps.zip args).foldl (fun t (p, v) => t.setIfInBounds p v) a.tmps, defers := [] } W) ∧
      (∀ (l k : Nat) (p : Option Addr) (u c R : Nat) (W : World), w.heap.size ≤ l → (∃ r, W.heap[l]? = some (.loop r)) → k < N → I k W → Bx k p u c R W → body.wpIn (F.inRound l) (n - 1 - 1) P (rfPost w.heap.size Kp (I (k + 1)) (fun c X => c = .exit id ∧ IE X) W) (A2 k p u c R) W) ∧ (∀ W, I N W → IE W) ∧ (∀ (D : Nat) (W : World), w.heap.size ≤ D → IE W → W.heap[D]? = some (.deferred (some [])) → Q .normal { a with defers := { target := .collected D, args := #[] } :: a.defers } W)) :
    (Code.rangeFunc g ps assign body).wpIn F n P (Exit.inBlock id Q) a w := by
  obtain ⟨A2, h1', h2', h3', h4'⟩ := hE
  refine rg_break hro h1 hg hFg eg hps hrow hit hKt hKb I IE hI hIE h0 (fun k b X => ∃ p u c R, b = A2 k p u c R ∧ Bx k p u c R X) ?_ ?_ ?_ h3' h4'
  · rintro k b X Y ⟨p, u, c, R, h2, h3⟩ ht
    exact ⟨p, u, c, R, h2, hBx k p u c R X Y h3 ht⟩
  · intro l k args W K hk hi he hK
    exact h1' l k args W K hk hi he (fun p u c R W' a1 a2 a3 a4 => hK _ W' a1 a2 a3 ⟨p, u, c, R, rfl, a4⟩)
  · rintro l k b W hl hr hk hi ⟨p, u, c, R, rfl, h3⟩
    exact h2' l k p u c R W hl hr hk hi h3
end
theorem KpE.lt {n0 SB Z : Nat} {X Y : World} (h : KpE n0 SB Z X Y) {b : Nat} (hb : b < n0 ∨ b = SB ∨ (Z ≤ b ∧ b < Z + 6)) (hx : b < X.heap.size) : b < Y.heap.size := by
  have h1 := h b hb hx
  rw [Array.getElem?_eq_getElem hx] at h1
  exact (Array.getElem?_eq_some_iff.1 h1).1
theorem KpE.trans {n0 SB Z : Nat} {X Y W : World} (h : KpE n0 SB Z X Y) (k : KpE n0 SB Z Y W) : KpE n0 SB Z X W := fun b hb hx => (k b hb (h.lt hb hx)).trans (h b hb hx)
theorem KpE.refl (n0 SB Z : Nat) (X : World) : KpE n0 SB Z X X := fun _ _ _ => rfl
theorem KpE.putObj {n0 SB Z l : Nat} (W : World) (o : Obj) (h1 : n0 ≤ l) (h2 : l ≠ SB) (h3 : l < Z) : KpE n0 SB Z W (W.putObj l o) := fun b hb _ => World.putObj_heap_other (by omega)
theorem KpE.below {n0 SB Z : Nat} {X Y : World} (h : Below X.heap.size X Y) : KpE n0 SB Z X Y := fun b _ hx => h.block b hx
theorem KpE.setCell {n0 SB Z c : Nat} (W : World) (v : Value) (h1 : n0 ≤ c) (h2 : c ≠ SB) (h3 : c < Z) : KpE n0 SB Z W (W.setCell ⟨c, 0, none⟩ v) := fun b hb _ => Below.heap_setCell _ _ _ _ (by show b ≠ c; omega)
theorem keeps_below {B : Nat} {X Y : World} (h : Below X.heap.size X Y) : KeepsFrom B X Y := ⟨h.size, fun k o _ h1 _ => (h.block k (Array.getElem?_eq_some_iff.1 h1).1).trans h1⟩
/-- the round's own box of what was yielded -/
def BxR (Z : Nat) (y : Nat → Sc.St) (k : Nat) (p : Option Addr) (u c R : Nat) (X : World) : Prop := X.heap[R]? = some (stObj (y k) (.slice p u c)) ∧ BRow X (.slice p u c) (y k).bytes ∧ NewV (Z + 6) (.slice p u c) ∧ Z + 6 ≤ R
theorem BxR.turn {Z E : Nat} {y : Nat → Sc.St} {k : Nat} {p : Option Addr} {u c R : Nat} {X Y : World} (h : BxR Z y k p u c R X) (ht : Turn E (ownE (Z + 1)) X Y) : BxR Z y k p u c R Y := by
  obtain ⟨h1, h2, h3, h4⟩ := h
  refine ⟨ht.cells h1 rfl (fun e => by rcases e with e | e <;> omega), brow_keep h2 (fun hl g hg hlt => ?_), h3, h4⟩
  obtain ⟨g2, o, e1, e2, e3⟩ := brow_blk h2 hl
  rw [hg] at e1
  cases e1
  rw [e2]
  have h5 := h3 g hg
  exact ht.cells e2 e3 (fun e => by rcases e with e | e <;> omega)
theorem BxR.new {Z : Nat} {y : Nat → Sc.St} {k : Nat} {p : Option Addr} {u c R : Nat} {X Y : World} (hY : X.alloc (stObj (y k) (.slice p u c)) = Y) (hR : X.heap.size = R) (h2 : BRow X (.slice p u c) (y k).bytes) (h3 : NewV (Z + 6) (.slice p u c)) (h4 : Z + 6 ≤ R) : BxR Z y k p u c R Y := by
  subst hR
  refine ⟨by rw [← hY]; exact World.alloc_heap_new _ _, h2.below (by rw [← hY]; exact (Below.refl _ _).alloc (Nat.le_refl _) _), h3, h4⟩
theorem at_maxR (ts : Array TypeId) (t : TypeId) (a b : Int) (w : World) : (Builtin.max_ ts t #[.int .i64 a, .int .i64 b]).run Tryz.prog w = .ok (.int .i64 (if b > a then b else a)) w := by
  simp [Builtin.max_, Builtin.max2, go_sem]
theorem at_minR (ts : Array TypeId) (t : TypeId) (a b : Int) (w : World) : (Builtin.min_ ts t #[.int .i64 a, .int .i64 b]).run Tryz.prog w = .ok (.int .i64 (if b < a then b else a)) w := by
  simp [Builtin.min_, Builtin.min2, go_sem]
/-- what stays through the law -/
structure TQ (w W : World) (m : Int) (B : Nat) : Prop where
  hb : Below w.heap.size w W
  hB : w.heap.size = B
  m : Boxed W B 3 (.int .i64 m)
  r : Boxed W (B + 1) 4 (.bool false)
theorem TQ.next {w W W' : World} {m : Int} {B : Nat} (h : TQ w W m B) (k : Below W.heap.size W W') : TQ w W' m B :=
  ⟨h.hb.trans (k.mono h.hb.size), h.hB, (k.block _ h.m.lt).trans h.m, (k.block _ h.r.lt).trans h.r⟩
end Go.Proofs.YtbaakfcbakpmpaaGreatDoor

/- ScriptReads returns true for any text and any number: the walk. The tables of the library, and its cell of a bound, read as they are laid. Printed by genLSR.py. -/
namespace Go.Proofs.YtbaakfcbakpmpaaGreatDoor
set_option linter.unusedVariables false
set_option linter.unusedSimpArgs false
open Go.RowKit Go.Shelf
attribute [local go_sem] Oper.semAt_some
set_option maxHeartbeats 8000000
set_option maxRecDepth 100000
def srF (g o g4 o4 n k c5 c4 : Nat) (x : Sc.St) (up up4 : Option Addr) (un uc un4 uc4 : Nat) : Nat → World → Value → Prop
  | 0, _, v => v = .slice (some ⟨g4, o4, none⟩) n c4
  | 1, _, v => v = .int .i64 (k : Int)
  | 2, _, v => v = .pointer (some ⟨g4, o4 + k * 6, none⟩)
  | 3, _, v => v = .agg #[.int .i64 x.kind, .int .u64 (x.conn : Int), .int .i64 x.topic, .int .u64 (x.n : Int), .int .u64 (x.draw : Int), .slice up4 un4 uc4]
  | 4, _, v => v = .slice (some ⟨g, o, none⟩) n c5
  | 5, _, v => v = .int .i64 (k : Int)
  | 6, _, v => v = .pointer (some ⟨g, o + k * 6, none⟩)
  | 7, _, v => v = .agg #[.int .i64 x.kind, .int .u64 (x.conn : Int), .int .i64 x.topic, .int .u64 (x.n : Int), .int .u64 (x.draw : Int), .slice up un uc]
  | 8, _, v => v = .bool true
  | 9, _, v => v = .bool false
  | _, _, _ => False
def srG (g o N vc k l : Nat) (x : Sc.St) (p : Option Addr) (u c : Nat) (p2 : Option Addr) (u2 c2 : Nat) : Nat → World → Value → Prop
  | 0, _, v => v = .int .i64 (k : Int)
  | 1, _, v => v = .slice (some ⟨g, o, none⟩) N vc
  | 2, _, v => v = .int .i64 (N : Int)
  | 3, _, v => v = .bool false
  | 4, _, v => v = .bool false
  | 5, _, v => v = .int .i64 (l : Int)
  | 6, _, v => v = .slice (some ⟨g, o, none⟩) N vc
  | 7, _, v => v = .int .i64 (k : Int)
  | 8, _, v => v = .pointer (some ⟨g, o + k * 7, none⟩)
  | 9, _, v => v = .pointer (some ⟨g, o + k * 7, none⟩)
  | 10, _, v => v = .int .i64 (l : Int)
  | 11, _, v => v = .bool false
  | 12, _, v => v = .bool false
  | 13, _, v => v = .bool false
  | 14, _, v => v = .agg #[.int .i64 x.kind, .int .u64 (x.conn : Int), .int .i64 x.topic, .int .u64 (x.n : Int), .int .u64 (x.draw : Int), .slice p u c]
  | 15, _, v => v = .slice (some ⟨g, o, none⟩) N vc
  | 16, _, v => v = .int .i64 (k : Int)
  | 17, _, v => v = .pointer (some ⟨g, o + k * 7, none⟩)
  | 18, _, v => v = .pointer (some ⟨g, o + k * 7 + 1, none⟩)
  | 19, _, v => v = .agg #[.int .i64 x.kind, .int .u64 (x.conn : Int), .int .i64 x.topic, .int .u64 (x.n : Int), .int .u64 (x.draw : Int), .slice p2 u2 c2]
  | 20, _, v => v = .bool true
  | 21, _, v => v = .bool false
  | 22, _, v => v = .bool false
  | _, _, _ => False
theorem seq_nilS (f : Fn) (a c : Array Value) (W : World) : (binOp BinOp.eql 67 (.func f a c) .nilFunc).run Tryz.prog W = .ok (.bool false) W := by kernel_rfl
theorem readL_len (L : List (List UInt8)) : (readL L).1.length ≤ L.length := by
  unfold readL
  cases Sc.le 0 L with
  | none => rw [List.length_map]; exact Sc.gd_len L 0
  | some j => exact Nat.zero_le _
theorem walkSR (s : ByteArray) (m : Int) (w : World) (hs : s.size ≤ maxLen) (hwf : (Lit.int .i64 m).wf = true) (hk : KX w) :
    Calls Tryz.prog 9 #[.string s, .int .i64 m] w fun e w' => e = .returned (.bool true) ∧ Below w.heap.size w w' := by
  unfold maxLen at hs
  have HK := Lib.hid hk
  have KN := Lib.hid sc_num
  have hsq := seq_nilS
  obtain ⟨B, hB⟩ : ∃ B, w.heap.size = B := ⟨_, rfl⟩
  obtain ⟨W1, hW1⟩ : ∃ W1, ((w.alloc (.cells #[.int .i64 m] 3)).alloc (.cells #[.bool false] 4)) = W1 := ⟨_, rfl⟩
  have e1 : TQ w W1 m B := by
    subst hW1
    have b1 := Boxed.new w 3 (.int .i64 m)
    have b2 := Boxed.new (w.alloc (.cells #[.int .i64 m] 3)) 4 (.bool false)
    simp only [World.size_alloc, hB] at b1 b2
    exact ⟨((Below.refl _ w).alloc (Nat.le_refl _) _).alloc (by simp) _, hB, b1.alloc _, b2⟩
  have HQ1 := Lib.hid e1
  have HBB := Lib.hid hB
  have HW1 := Lib.hid hW1
  have WK := Lib.hid (fun W (h : KX W) => sc_works W h.tabs h.ml)
  obtain ⟨SZ, hSZ⟩ : ∃ z, s.size = z := ⟨_, rfl⟩
  have HSZ := Lib.hid hSZ
  rw [hSZ] at hs
  clear hk e1 hB hW1 hwf
  refine callsIn_wide.1 (callsIn_of_wp_marks (F := Fence.wide) (n := 9) Tryz.func9 rfl trivial ?_ rfl)
  simp only [Tryz.ntmps9, List.size_toArray, List.length_cons, List.length_nil, Nat.reduceAdd, Nat.reduceSub, Array.replicate_succ, Array.replicate_zero, List.push_toArray, List.append_toArray, List.nil_append, List.cons_append]
  refine wpIn_wide.2 ?_
  by_cases h1 : 600 < SZ
  · have q1 : ((600 : Int) < (SZ : Int)) := by omega
    go_wp2_with fail
    rw [HW1.out, HBB.out]
    refine (WK.out _ (HK.out.below HQ1.out.hb)).mono ?_
    rintro e w2 ⟨rfl, hb⟩
    have HQ2 := Lib.hid (HQ1.out.next hb)
    clear hb
    have cR := HQ2.out.r.cell
    have fR := HQ2.out.r.frozen
    go_wp2_with fail
    have c0 := (HQ2.out.r.set (.bool true)).cell
    refine ⟨.bool true, ?_, rfl, HQ2.out.hb.setCell (p := ⟨B + 1, 0, none⟩) (by have := HBB.out; show w.heap.size ≤ B + 1; omega) _⟩
    simp [results, Tryz.results9, go_sem, c0]
  have q1 : ¬ ((600 : Int) < (SZ : Int)) := by omega
  obtain ⟨L, hL⟩ : ∃ z, Gs.parts 10 [] s.data.toList = z := ⟨_, rfl⟩
  have hLl : L.length ≤ 601 := by
    have h2 := Gs.parts_many 10 s.data.toList []
    have h3 : s.data.toList.length = s.size := rfl
    rw [hL] at h2
    omega
  obtain ⟨xs, nn, er, hr⟩ : ∃ xs nn er, Sc.read s.data.toList = (xs, nn, er) := ⟨_, _, _, rfl⟩
  have hxl : xs.length ≤ 601 := by
    have h2 := readL_len L
    rw [← read_gd hL (by omega), hr] at h2
    exact Nat.le_trans h2 hLl
  obtain ⟨n, hn⟩ : ∃ z, xs.length = z := ⟨_, rfl⟩
  rw [hn] at hxl
  have HXL := Lib.hid hn
  have KR := sc_Read s W1 (by omega) (HK.out.below HQ1.out.hb).tabs (HK.out.below HQ1.out.hb).ml
  rw [hr] at KR
  have KR := Lib.hid KR
  have KF := Lib.hid (fun W => rf_Read s W (by rw [HSZ.out]; omega))
  rw [hr] at KF
  have HL := Lib.hid hL
  have HLL := Lib.hid hLl
  clear h1 hL hr hn hLl
  go_wp2_with fail
  rw [HW1.out, HBB.out]
  refine KR.out.mono ?_
  rintro e w2 ⟨v4, rfl, hrow, hb⟩
  obtain ⟨rs, hrs, hst, _⟩ := hrow.stsIn
  have hrl : rs.length = n := by rw [← HXL.out, ← hrs, List.length_map]
  obtain ⟨p4, c4, rfl⟩ : ∃ p c, v4 = .slice p n c := by obtain ⟨p, c, h, _⟩ := hst; rw [hrl] at h; exact ⟨p, c, h⟩
  have HQ2 := Lib.hid (HQ1.out.next hb)
  have HV4 := Lib.hid hst
  have HRS := Lib.hid hrs
  have HRL := Lib.hid hrl
  clear hb hrow hst hrs hrl KR
  dsimp only
  go_wp2_with fail
  refine (KF.out w2).mono ?_
  rintro e w3 ⟨v5, qs, rfl, hst, hqs, hb⟩
  dsimp only at hqs
  have hql : qs.length = n := by rw [← HXL.out, ← hqs, List.length_map]
  obtain ⟨p5, c5, rfl⟩ : ∃ p c, v5 = .slice p n c := by obtain ⟨p, c, h, _⟩ := hst; rw [hql] at h; exact ⟨p, c, h⟩
  have HQ3 := Lib.hid (HQ2.out.next hb)
  have HV4 := Lib.hid (HV4.out.below hb)
  have HV5 := Lib.hid hst
  have HQS := Lib.hid hqs
  have HQL := Lib.hid hql
  clear hb hst hqs hql KF
  have e3 : ((n : Int) != (n : Int)) = false := by simp
  have e4 : ((nn : Int) != (nn : Int)) = false := by simp
  have e5 : (er != er) = false := by simp
  dsimp only
  go_wp2_with fail
  refine (KN.out _ _).mono ?_
  rintro e w' ⟨rfl, hw⟩
  subst w'
  go_wp2_with fail
  go_loopw [11] (fun i wr => ∃ k : Nat, k ≤ n ∧ i = .int .i64 k ∧ Below w3.heap.size w3 wr) (fun i _ => n - (intOf i).toNat)
  case atStart => exact ⟨0, Nat.zero_le _, rfl, Below.refl _ _⟩
  case round =>
    obtain ⟨k, hk, rfl, hbw⟩ := hrel
    have HBW := Lib.hid hbw
    clear hbw
    by_cases hlt : k < n
    · have hI : (k : Int) < (n : Int) := by omega
      obtain ⟨g4, o4, c', hsl4, hsc4, hbr4⟩ := (HV4.out.below HBW.out).at (j := k) (by rw [HRL.out]; exact hlt)
      obtain ⟨rfl, rfl⟩ : p4 = some ⟨g4, o4, none⟩ ∧ c4 = c' := by
        simp only [Value.slice.injEq] at hsl4
        exact ⟨hsl4.1, hsl4.2.2⟩
      obtain ⟨g, o, c, hsl, hsc, hbr⟩ := (HV5.out.below HBW.out).at (j := k) (by rw [HQL.out]; exact hlt)
      obtain ⟨rfl, rfl⟩ : p5 = some ⟨g, o, none⟩ ∧ c5 = c := by
        simp only [Value.slice.injEq] at hsl
        exact ⟨hsl.1, hsl.2.2⟩
      have hsame : (rs.getD k (Sc.St.zero, undef)).1 = (qs.getD k (Sc.St.zero, undef)).1 := by rw [← getD_fst, ← getD_fst, HRS.out, HQS.out]
      rw [hsame] at hsc4 hbr4
      obtain ⟨x, hx⟩ : ∃ z, (qs.getD k (Sc.St.zero, undef)).1 = z := ⟨_, rfl⟩
      obtain ⟨u, hu⟩ : ∃ z, (qs.getD k (Sc.St.zero, undef)).2 = z := ⟨_, rfl⟩
      obtain ⟨u4, hu4⟩ : ∃ z, (rs.getD k (Sc.St.zero, undef)).2 = z := ⟨_, rfl⟩
      rw [hx, hu] at hsc hbr
      rw [hx, hu4] at hsc4 hbr4
      obtain ⟨up, un, uc, rfl⟩ := hbr.sl
      obtain ⟨up4, un4, uc4, rfl⟩ := hbr4.sl
      have HSC := Lib.hid hsc
      have HSC4 := Lib.hid hsc4
      have KS := Lib.hid (show ∀ W, Below wr.heap.size wr W → Calls Tryz.prog 21 #[.agg #[.int .i64 x.kind, .int .u64 (x.conn : Int), .int .i64 x.topic, .int .u64 (x.n : Int), .int .u64 (x.draw : Int), .slice up4 un4 uc4], .agg #[.int .i64 x.kind, .int .u64 (x.conn : Int), .int .i64 x.topic, .int .u64 (x.n : Int), .int .u64 (x.draw : Int), .slice up un uc]] W fun e w' => e = .returned (.bool true) ∧ Below W.heap.size W w' from fun W hb => by
        have h := rf_SameStep x.kind (x.conn : Int) x.topic (x.n : Int) (x.draw : Int) x.kind (x.conn : Int) x.topic (x.n : Int) (x.draw : Int) (.slice up4 un4 uc4) (.slice up un uc) x.bytes x.bytes W (hbr4.below hb) (hbr.below hb)
        rwa [decide_eq_true (show x.kind = x.kind ∧ (x.conn : Int) = (x.conn : Int) ∧ x.topic = x.topic ∧ (x.n : Int) = (x.n : Int) ∧ (x.draw : Int) = (x.draw : Int) ∧ x.bytes = x.bytes from ⟨rfl, rfl, rfl, rfl, rfl, rfl⟩)] at h)
      clear hsl hsl4 hsc hsc4 hbr hbr4 hsame hx hu hu4
      go_wp2_with fail
      refine region_slotsG (fun i => 58 + min i 9) (srF g o g4 o4 n k c5 c4 x up up4 un uc un4 uc4) (fun _ => true) (by kernel_rfl) (by kernel_rfl) (fun i => by show 58 + min i 9 < _; simp; omega) (fun i j hi hj h => by have hi : i < 10 := hi; have hj : j < 10 := hj; omega) ?mono ?dst ?gu ?ng ?skip ?step ?done
      case mono =>
        intro i W W' v h hbw
        match i, h with
        | 0, h | 1, h | 2, h | 3, h | 4, h | 5, h | 6, h | 7, h | 8, h | 9, h => exact h
        | n + 10, h => exact h.elim
      case dst =>
        intro i o ho
        match i, ho with
        | 0, ho | 1, ho | 2, ho | 3, ho | 4, ho | 5, ho | 6, ho | 7, ho | 8, ho | 9, ho => cases ho; rfl
        | n + 10, ho => exact absurd ho (by simp)
      case gu =>
        intro i o g b ho hgd W v hv
        match i, ho with
        | 0, ho => cases ho; cases hgd
        | 1, ho => cases ho; cases hgd
        | 2, ho => cases ho; cases hgd
        | 3, ho => cases ho; cases hgd
        | 4, ho => cases ho; cases hgd
        | 5, ho => cases ho; cases hgd
        | 6, ho => cases ho; cases hgd
        | 7, ho => cases ho; cases hgd
        | 8, ho => cases ho; cases hgd
        | 9, ho => cases ho; cases hgd
        | n + 10, ho => exact absurd ho (by simp)
      case ng =>
        intro i o ho hgd
        match i, ho with
        | 0, ho => cases ho; first | rfl | cases hgd
        | 1, ho => cases ho; first | rfl | cases hgd
        | 2, ho => cases ho; first | rfl | cases hgd
        | 3, ho => cases ho; first | rfl | cases hgd
        | 4, ho => cases ho; first | rfl | cases hgd
        | 5, ho => cases ho; first | rfl | cases hgd
        | 6, ho => cases ho; first | rfl | cases hgd
        | 7, ho => cases ho; first | rfl | cases hgd
        | 8, ho => cases ho; first | rfl | cases hgd
        | 9, ho => cases ho; first | rfl | cases hgd
        | n + 10, ho => exact absurd ho (by simp)
      case skip =>
        intro i W hi hsel
        match i, hi, hsel with
        | 0, _, hsel => first | exact absurd hsel (by decide) | rfl
        | 1, _, hsel => first | exact absurd hsel (by decide) | rfl
        | 2, _, hsel => first | exact absurd hsel (by decide) | rfl
        | 3, _, hsel => first | exact absurd hsel (by decide) | rfl
        | 4, _, hsel => first | exact absurd hsel (by decide) | rfl
        | 5, _, hsel => first | exact absurd hsel (by decide) | rfl
        | 6, _, hsel => first | exact absurd hsel (by decide) | rfl
        | 7, _, hsel => first | exact absurd hsel (by decide) | rfl
        | 8, _, hsel => first | exact absurd hsel (by decide) | rfl
        | 9, _, hsel => first | exact absurd hsel (by decide) | rfl
        | n + 10, hi, _ => exact absurd hi (by simp)
      case step =>
        intro f a' W i o ho hsel hpre hbel hrest
        match i, ho, hsel with
        | 0, ho, _ =>
          cases ho
          have q5 : a'.tmps.getD 5 undef = .slice (some ⟨g4, o4, none⟩) n c4 := (hrest 5 (by intro i hi; have hi : i < 10 := hi; show 58 + min i 9 ≠ _; omega))
          have e5 := rg_ev q5
          exact rg_same (.slice (some ⟨g4, o4, none⟩) n c4) (by unfold Oper.wp execOp; go_simp; all_goals ((try simp only [e5]); (try go_simp); (try rw [if_pos (by omega)]); (try rw [if_neg (by omega)]); first | done | rfl | exact ⟨rfl, rfl⟩ | trivial)) rfl
        | 1, ho, _ =>
          cases ho
          have q11 : a'.tmps.getD 11 undef = .int .i64 (k : Int) := (hrest 11 (by intro i hi; have hi : i < 10 := hi; show 58 + min i 9 ≠ _; omega))
          have e11 := rg_ev q11
          exact rg_same (.int .i64 (k : Int)) (by unfold Oper.wp execOp; go_simp; all_goals ((try simp only [e11]); (try go_simp); (try rw [if_pos (by omega)]); (try rw [if_neg (by omega)]); first | done | rfl | exact ⟨rfl, rfl⟩ | trivial)) rfl
        | 2, ho, _ =>
          cases ho
          have q58 : a'.tmps.getD 58 undef = .slice (some ⟨g4, o4, none⟩) n c4 := (hpre { on := 0, ground := .data } (by simp) rfl)
          have q59 : a'.tmps.getD 59 undef = .int .i64 (k : Int) := (hpre { on := 1, ground := .data } (by simp) rfl)
          have e58 := rg_ev q58
          have e59 := rg_ev q59
          exact rg_same (.pointer (some ⟨g4, o4 + k * 6, none⟩)) (by unfold Oper.wp execOp; go_simp; all_goals ((try simp only [e58, e59]); (try go_simp); (try rw [if_pos (by omega)]); (try rw [if_neg (by omega)]); first | done | rfl | exact ⟨rfl, rfl⟩ | trivial)) rfl
        | 3, ho, _ =>
          cases ho
          have q60 : a'.tmps.getD 60 undef = .pointer (some ⟨g4, o4 + k * 6, none⟩) := (hpre { on := 2, ground := .data } (by simp) rfl)
          obtain ⟨y0, y1, y2, y3, y4, y5⟩ := HSC4.out.below hbel
          have e60 := rg_ev q60
          exact rg_same (.agg #[.int .i64 x.kind, .int .u64 (x.conn : Int), .int .i64 x.topic, .int .u64 (x.n : Int), .int .u64 (x.draw : Int), .slice up4 un4 uc4]) (by unfold Oper.wp execOp; go_simp; all_goals ((try simp only [e60]); (try go_simp); (try rw [if_pos (by omega)]); (try rw [if_neg (by omega)]); first | done | rfl | exact ⟨rfl, rfl⟩ | trivial)) rfl
        | 4, ho, _ =>
          cases ho
          have q8 : a'.tmps.getD 8 undef = .slice (some ⟨g, o, none⟩) n c5 := (hrest 8 (by intro i hi; have hi : i < 10 := hi; show 58 + min i 9 ≠ _; omega))
          have e8 := rg_ev q8
          exact rg_same (.slice (some ⟨g, o, none⟩) n c5) (by unfold Oper.wp execOp; go_simp; all_goals ((try simp only [e8]); (try go_simp); (try rw [if_pos (by omega)]); (try rw [if_neg (by omega)]); first | done | rfl | exact ⟨rfl, rfl⟩ | trivial)) rfl
        | 5, ho, _ =>
          cases ho
          have q11 : a'.tmps.getD 11 undef = .int .i64 (k : Int) := (hrest 11 (by intro i hi; have hi : i < 10 := hi; show 58 + min i 9 ≠ _; omega))
          have e11 := rg_ev q11
          exact rg_same (.int .i64 (k : Int)) (by unfold Oper.wp execOp; go_simp; all_goals ((try simp only [e11]); (try go_simp); (try rw [if_pos (by omega)]); (try rw [if_neg (by omega)]); first | done | rfl | exact ⟨rfl, rfl⟩ | trivial)) rfl
        | 6, ho, _ =>
          cases ho
          have q62 : a'.tmps.getD 62 undef = .slice (some ⟨g, o, none⟩) n c5 := (hpre { on := 4, ground := .data } (by simp) rfl)
          have q63 : a'.tmps.getD 63 undef = .int .i64 (k : Int) := (hpre { on := 5, ground := .data } (by simp) rfl)
          have e62 := rg_ev q62
          have e63 := rg_ev q63
          exact rg_same (.pointer (some ⟨g, o + k * 6, none⟩)) (by unfold Oper.wp execOp; go_simp; all_goals ((try simp only [e62, e63]); (try go_simp); (try rw [if_pos (by omega)]); (try rw [if_neg (by omega)]); first | done | rfl | exact ⟨rfl, rfl⟩ | trivial)) rfl
        | 7, ho, _ =>
          cases ho
          have q64 : a'.tmps.getD 64 undef = .pointer (some ⟨g, o + k * 6, none⟩) := (hpre { on := 6, ground := .data } (by simp) rfl)
          obtain ⟨y0, y1, y2, y3, y4, y5⟩ := HSC.out.below hbel
          have e64 := rg_ev q64
          exact rg_same (.agg #[.int .i64 x.kind, .int .u64 (x.conn : Int), .int .i64 x.topic, .int .u64 (x.n : Int), .int .u64 (x.draw : Int), .slice up un uc]) (by unfold Oper.wp execOp; go_simp; all_goals ((try simp only [e64]); (try go_simp); (try rw [if_pos (by omega)]); (try rw [if_neg (by omega)]); first | done | rfl | exact ⟨rfl, rfl⟩ | trivial)) rfl
        | 8, ho, _ =>
          cases ho
          have q61 : a'.tmps.getD 61 undef = .agg #[.int .i64 x.kind, .int .u64 (x.conn : Int), .int .i64 x.topic, .int .u64 (x.n : Int), .int .u64 (x.draw : Int), .slice up4 un4 uc4] := (hpre { on := 3, ground := .data } (by simp) rfl)
          have q65 : a'.tmps.getD 65 undef = .agg #[.int .i64 x.kind, .int .u64 (x.conn : Int), .int .i64 x.topic, .int .u64 (x.n : Int), .int .u64 (x.draw : Int), .slice up un uc] := (hpre { on := 7, ground := .data } (by simp) rfl)
          exact rg_call2 61 65 21 _ _ _ _ rfl q61 q65 (enters_of Tryz.func21 (by kernel_rfl) rfl) (KS.out W hbel) (fun e w' h => ⟨_, h.1, _, rfl, rfl, h.2⟩)
        | 9, ho, _ =>
          cases ho
          have q66 : a'.tmps.getD 66 undef = .bool true := (hpre { on := 8, ground := .data } (by simp) rfl)
          have e66 := rg_ev q66
          exact rg_same (.bool false) (by unfold Oper.wp execOp; go_simp; all_goals ((try simp only [e66]); (try go_simp); (try rw [if_pos (by omega)]); (try rw [if_neg (by omega)]); first | done | rfl | exact ⟨rfl, rfl⟩ | trivial)) rfl
        | n + 10, ho, _ => exact absurd ho (by simp)
      case done =>
        intro vs W hbel hvs
        have v0 : vs 0 = .slice (some ⟨g4, o4, none⟩) n c4 := hvs 0 (by decide)
        have v1 : vs 1 = .int .i64 (k : Int) := hvs 1 (by decide)
        have v2 : vs 2 = .pointer (some ⟨g4, o4 + k * 6, none⟩) := hvs 2 (by decide)
        have v3 : vs 3 = .agg #[.int .i64 x.kind, .int .u64 (x.conn : Int), .int .i64 x.topic, .int .u64 (x.n : Int), .int .u64 (x.draw : Int), .slice up4 un4 uc4] := hvs 3 (by decide)
        have v4 : vs 4 = .slice (some ⟨g, o, none⟩) n c5 := hvs 4 (by decide)
        have v5 : vs 5 = .int .i64 (k : Int) := hvs 5 (by decide)
        have v6 : vs 6 = .pointer (some ⟨g, o + k * 6, none⟩) := hvs 6 (by decide)
        have v7 : vs 7 = .agg #[.int .i64 x.kind, .int .u64 (x.conn : Int), .int .i64 x.topic, .int .u64 (x.n : Int), .int .u64 (x.draw : Int), .slice up un uc] := hvs 7 (by decide)
        have v8 : vs 8 = .bool true := hvs 8 (by decide)
        have v9 : vs 9 = .bool false := hvs 9 (by decide)
        have HBR := Lib.hid hbel
        simp only [fillN, List.size_toArray, List.length_cons, List.length_nil, Nat.reduceAdd, show List.range 10 = [0, 1, 2, 3, 4, 5, 6, 7, 8, 9] from rfl, List.foldl_cons, List.foldl_nil, show 58 + min 0 9 = 58 from rfl, show 58 + min 1 9 = 59 from rfl, show 58 + min 2 9 = 60 from rfl, show 58 + min 3 9 = 61 from rfl, show 58 + min 4 9 = 62 from rfl, show 58 + min 5 9 = 63 from rfl, show 58 + min 6 9 = 64 from rfl, show 58 + min 7 9 = 65 from rfl, show 58 + min 8 9 = 66 from rfl, show 58 + min 9 9 = 67 from rfl, v0, v1, v2, v3, v4, v5, v6, v7, v8, v9]
        clear v0 v1 v2 v3 v4 v5 v6 v7 v8 v9 hvs hbel
        go_simp
        have HBW2 := Lib.hid (HBW.out.trans (HBR.out.mono HBW.out.size))
        clear HBR
        go_wp2_with fail
        go_roundw
        case rel => exact ⟨k + 1, hlt, by go_num, HBW2.out⟩
        case measure => simp [intOf]; omega
    · have hI : ¬ (k : Int) < (n : Int) := by omega
      have HQ4 := Lib.hid (HQ3.out.next HBW.out)
      have KLN := Lib.hid (rf_Lines s L wr HL.out (by rw [HSZ.out]; omega))
      obtain ⟨G, hG⟩ : ∃ z, Sc.gd 0 L = z := ⟨_, rfl⟩
      obtain ⟨N, hN⟩ : ∃ z, G.length = z := ⟨_, rfl⟩
      have HGG := Lib.hid hG
      have HNN := Lib.hid hN
      have HNL := Lib.hid (show N ≤ 601 by rw [← hN, ← hG]; exact Nat.le_trans (Sc.gd_len L 0) HLL.out)
      obtain ⟨ln, hln⟩ : ∃ f : Nat → Nat, ∀ k, (G.getD k (0, Sc.St.zero)).1 = f k := ⟨_, fun _ => rfl⟩
      obtain ⟨y, hy⟩ : ∃ f : Nat → Sc.St, ∀ k, (G.getD k (0, Sc.St.zero)).2 = f k := ⟨_, fun _ => rfl⟩
      have HLN := Lib.hid hln
      have HYY := Lib.hid hy
      clear hG hN hln hy HBW HV4 HV5 hlt e3 e4 e5 hk HRS HQS HRL HQL HXL
      go_wp2_with fail
      refine KLN.out.mono ?_
      rintro e w6 ⟨v6, ps, rfl, hin, hps, hb⟩
      rw [HGG.out] at hps
      obtain ⟨vp, vc, rfl⟩ := hin.1.slice
      have hpl : ps.length = N := by rw [← HNN.out, ← hps, List.length_map]
      rw [hpl] at hin ⊢
      obtain ⟨z1, hz1⟩ : ∃ z, (((Sc.le 0 L).getD 0 : Nat) : Int) = z := ⟨_, rfl⟩
      obtain ⟨z2, hz2⟩ : ∃ z, (Sc.le 0 L).isNone = z := ⟨_, rfl⟩
      rw [hz1, hz2]
      have HQ6 := Lib.hid (HQ4.out.next hb)
      have HLI := Lib.hid hin
      have HPS := Lib.hid hps
      have HPL := Lib.hid hpl
      clear hb hin hps hpl hz1 hz2 KLN HQ4 hI
      obtain ⟨Q, hQ⟩ : ∃ z, w6.heap.size = z := ⟨_, rfl⟩
      obtain ⟨w7, hw7⟩ : ∃ z, w6.alloc (.cells #[.slice vp N vc] 63) = z := ⟨_, rfl⟩
      have hb : Below w6.heap.size w6 w7 := by rw [← hw7]; exact (Below.refl _ _).alloc (Nat.le_refl _) _
      have HQ7 := Lib.hid (HQ6.out.next hb)
      have HLI := Lib.hid (HLI.out.below hb)
      have HWQ := Lib.hid (show Boxed w7 Q 63 (.slice vp N vc) by rw [← hw7, ← hQ]; exact Boxed.new _ _ _)
      have HW7 := Lib.hid hw7
      have HQQ := Lib.hid hQ
      clear hb hw7 hQ HQ6
      have KEA := Lib.hid (sc_Each s w7 (by rw [HSZ.out]; omega))
      obtain ⟨SB, hSB⟩ : ∃ z, w7.heap.size = z := ⟨_, rfl⟩
      obtain ⟨V, hV⟩ : ∃ z, w7.alloc (.cells #[.string s] 9) = z := ⟨_, rfl⟩
      have hb : Below w7.heap.size w7 V := by rw [← hV]; exact (Below.refl _ _).alloc (Nat.le_refl _) _
      have hbx : Boxed V SB 9 (.string s) := by rw [← hV, ← hSB]; exact Boxed.new _ _ _
      have HSB := Lib.hid hbx
      have HQV := Lib.hid (HQ7.out.next hb)
      have HLI := Lib.hid (HLI.out.below hb)
      have HWQ := Lib.hid (show Boxed V Q 63 (.slice vp N vc) from (hb.block _ HWQ.out.lt).trans HWQ.out)
      have HVV := Lib.hid hV
      have hSBB : B ≤ SB := by rw [← hSB, ← HBB.out]; exact HQ7.out.hb.size
      have HSS := Lib.hid hSB
      clear hb hV hbx hSB HQ7
      go_wp2_with fail
      rw [HW7.out, HQQ.out]
      refine KEA.out.mono ?_
      rintro e wx ⟨rfl, hwx⟩
      rw [HVV.out] at hwx
      subst wx
      rw [HSS.out]
      clear KEA
      obtain ⟨TV, hTV⟩ : ∃ TV, V.heap.size = TV := ⟨_, rfl⟩
      obtain ⟨V0, hV0⟩ : ∃ V0, V.alloc (.cells #[.int .i64 0] 3) = V0 := ⟨_, rfl⟩
      have E0 : Below V.heap.size V V0 := by rw [← hV0]; exact (Below.refl _ _).alloc (Nat.le_refl _) _
      have bT : Boxed V0 TV 3 (.int .i64 0) := by rw [← hV0, ← hTV]; exact Boxed.new _ _ _
      have HTV := Lib.hid hTV
      have HV0 := Lib.hid hV0
      have hQT : Q < TV := by rw [← hTV]; exact HWQ.out.lt
      have hBT : B + 1 < TV := by rw [← hTV]; exact HQV.out.r.lt
      have hST : SB < TV := by rw [← hTV]; exact HSB.out.lt
      have HLI : Hid (∀ W, Below TV V W → LnIn W (.slice vp N vc) ps) := Lib.hid (fun W h => HLI.out.below (by rw [hTV]; exact h))
      clear hTV hV0
      go_wp2_with fail
      rw [HV0.out, HTV.out]
      refine (wpIn_wide (n := 9)).1 ?_
      refine wpIn_loop_rounds 3 ?_
      rw [roundsIn_succ]
      have cT := bT.cell
      obtain ⟨T1, hT1⟩ : ∃ z, V0.heap.size = z := ⟨_, rfl⟩
      obtain ⟨X1, hX1⟩ : ∃ z, V0.alloc (.cells #[.int .i64 0] 3) = z := ⟨_, rfl⟩
      have hVT : V.heap.size = TV := HTV.out
      rw [hVT] at E0
      have HE1 : Hid (Below TV V X1) := Lib.hid (by rw [← hX1]; exact E0.alloc (Nat.le_trans (Nat.le_of_eq hVT.symm) E0.size) _)
      have HbT1 : Hid (Boxed X1 TV 3 (.int .i64 0)) := Lib.hid (by rw [← hX1]; exact bT.alloc _)
      have Hbn1 : Hid (Boxed X1 T1 3 (.int .i64 0)) := Lib.hid (by rw [← hX1, ← hT1]; exact Boxed.new _ _ _)
      have HS1 := Lib.hid (show X1.heap.size = T1 + 1 by rw [← hX1, ← hT1]; simp)
      have hTT : TV < T1 := by rw [← hT1]; exact bT.lt
      have HX1 := Lib.hid hX1
      have HT1 := Lib.hid hT1
      clear hX1 hT1 E0 hVT bT
      gi_wp2_with fail
      rw [HX1.out, HT1.out]
      refine rg_breakS (N := N) (own := ownE (T1 + 3 + 1)) (Kp := KpE B SB (T1 + 3)) (Enc := EncE (T1 + 3) G) rfl (by omega) (gf := 57) (lb := #[.pointer (some ⟨SB, 0, none⟩)]) rfl trivial (enters_of Tryz.func57 (by kernel_rfl) rfl)
        (fun k a X h => by obtain ⟨p, u, c, rfl, _⟩ := h; rfl) (fun b hb => by have := HS1.out; rcases hb with h | h <;> omega) ?iter KpE.trans (fun X o o' h2 h3 => KpE.putObj _ _ (by have := HS1.out; omega) (by have := HS1.out; omega) (by have := HS1.out; omega))
        (fun k X => Below TV V X ∧ Boxed X TV 3 (.int .i64 0) ∧ Boxed X T1 3 (.int .i64 (k : Int)) ∧ (1 ≤ k → (k : Int) < m))
        (fun X => ∃ k : Nat, k ≤ N ∧ (k = N ∨ m ≤ (k : Int)) ∧ (k = 0 → N = 0) ∧ (2 ≤ k → (k : Int) - 1 < m) ∧ Below TV V X ∧ Boxed X TV 3 (.int .i64 0) ∧ Boxed X T1 3 (.int .i64 (k : Int)))
        (fun k X Y hs ht => ⟨hs.1.trans (ht.below (by have := HS1.out; omega) (by have h1 := hs.1.size; have h2 := HTV.out; omega) (fun b hb => by rcases hb with h | h <;> omega)), ht.boxed hs.2.1 (fun h => by rcases h with h | h <;> omega), ht.boxed hs.2.2.1 (fun h => by rcases h with h | h <;> omega), hs.2.2.2⟩)
        (fun X Y hs ht => by
          obtain ⟨k, h2, h3, h4, h5, h6, h7, h8⟩ := hs
          exact ⟨k, h2, h3, h4, h5, h6.trans (ht.below (by have := HS1.out; omega) (by have h1 := h6.size; have h2 := HTV.out; omega) (fun b hb => by rcases hb with h | h <;> omega)), ht.boxed h7 (fun h => by rcases h with h | h <;> omega), ht.boxed h8 (fun h => by rcases h with h | h <;> omega)⟩)
        ⟨HE1.out, HbT1.out, Hbn1.out, by omega⟩ (BxR (T1 + 3) y) (fun k p u c R X Y h ht => h.turn ht) ?E
      case iter =>
        intro X hX hsz
        have hE := HE1.out
        have hXV : ∀ b, b < TV → X.heap[b]? = V.heap[b]? := fun b hb => (hX.block b (by have := HS1.out; omega)).trans (hE.block b hb)
        have h := each_it (9 - 1) B SB (T1 + 3) s L w X HL.out (by rw [HSZ.out]; omega) (by rw [hsz, HS1.out]) (by omega) ((hXV SB hST).trans HSB.out) HBB.out (by omega) (fun b hb => (hXV b (by omega)).trans (HQV.out.hb.block b (by rw [HBB.out]; exact hb))) HK.out.tabs HK.out.ml
        rw [HGG.out, HNN.out] at h
        exact h
      case E =>
        apply Exists.intro
        refine ⟨?asg, ?bod, ?all, ?don⟩
        case asg =>
          rintro l' k args X K hk hi ⟨p, u, c, rfl, hbr, hnv, hsz⟩ hK
          rw [HYY.out k] at hbr
          rw [HLN.out k, HYY.out k]
          unfold stVal
          obtain ⟨R, hR⟩ : ∃ z, X.heap.size = z := ⟨_, rfl⟩
          obtain ⟨Y, hY⟩ : ∃ z, X.alloc (stObj (y k) (.slice p u c)) = z := ⟨_, rfl⟩
          have hb : Below X.heap.size X Y := by rw [← hY]; exact (Below.refl _ _).alloc (Nat.le_refl _) _
          have hbV : Below TV V Y := hi.1.trans (hb.mono (by have h := hi.1.size; have h2 := HTV.out; omega))
          have HKK := Lib.hid (hK p u c R Y (keeps_below hb) (KpE.below hb) ⟨hbV, (hb.block _ hi.2.1.lt).trans hi.2.1, (hb.block _ hi.2.2.1.lt).trans hi.2.2.1, hi.2.2.2⟩ (BxR.new hY hR hbr hnv (by rw [← hR]; exact hsz)))
          have HY := Lib.hid hY
          have HR := Lib.hid hR
          unfold stObj at HY
          clear hK hk hi hbr hnv hsz hb hbV hY hR
          gi_wp2
          rw [HY.out, HR.out]
          exact HKK.out
        case bod =>
          rintro l' k p u c R X hl' ⟨r, hr⟩ hk ⟨hE2, bT2, bn2, hkm⟩ hbx
          have HE2 := Lib.hid hE2
          have HbT2 := Lib.hid bT2
          have Hbn2 := Lib.hid bn2
          have HKM := Lib.hid hkm
          obtain ⟨hR, hbr, hnv, hzr⟩ := hbx
          have hsr := SR.of hR
          obtain ⟨g, o, cc, hv, hcl, hbr2⟩ := (HLI.out X hE2).at (j := k) (by rw [HPL.out]; exact hk)
          obtain ⟨rfl, rfl⟩ : vp = some ⟨g, o, none⟩ ∧ vc = cc := by
            simp only [Value.slice.injEq] at hv
            exact ⟨hv.1, hv.2.2⟩
          have hlk := lkey_at HPS.out k
          obtain ⟨u2, hu2⟩ : ∃ z, (ps.getD k lqd).2.2 = z := ⟨_, rfl⟩
          have hq : ps.getD k lqd = (ln k, y k, u2) := by
            have h1 := congrArg Prod.fst hlk
            have h2 := congrArg Prod.snd hlk
            rw [HLN.out k] at h1
            rw [HYY.out k] at h2
            exact Prod.ext h1 (Prod.ext h2 hu2)
          rw [hq] at hcl hbr2
          dsimp only at hbr2
          obtain ⟨p2, n2, c2, rfl⟩ := hbr2.sl
          have HLC := Lib.hid hcl
          have HSR := Lib.hid hsr
          have HWX := Lib.hid (show Boxed X Q 63 (.slice (some ⟨g, o, none⟩) N vc) from (hE2.block Q hQT).trans HWQ.out)
          obtain ⟨l, hl⟩ : ∃ z, ln k = z := ⟨_, rfl⟩
          obtain ⟨x, hx⟩ : ∃ z, y k = z := ⟨_, rfl⟩
          rw [hl] at HLC
          rw [hx] at HLC HSR hbr hbr2
          have KS := Lib.hid (show ∀ W, Below X.heap.size X W → Calls Tryz.prog 21 #[.agg #[.int .i64 x.kind, .int .u64 (x.conn : Int), .int .i64 x.topic, .int .u64 (x.n : Int), .int .u64 (x.draw : Int), .slice p u c], .agg #[.int .i64 x.kind, .int .u64 (x.conn : Int), .int .i64 x.topic, .int .u64 (x.n : Int), .int .u64 (x.draw : Int), .slice p2 n2 c2]] W fun e w' => e = .returned (.bool true) ∧ Below W.heap.size W w' from fun W hb => by
            have h := rf_SameStep x.kind (x.conn : Int) x.topic (x.n : Int) (x.draw : Int) x.kind (x.conn : Int) x.topic (x.n : Int) (x.draw : Int) (.slice p u c) (.slice p2 n2 c2) x.bytes x.bytes W (hbr.br.below hb) (hbr2.below hb)
            rwa [decide_eq_true (show x.kind = x.kind ∧ (x.conn : Int) = (x.conn : Int) ∧ x.topic = x.topic ∧ (x.n : Int) = (x.n : Int) ∧ (x.draw : Int) = (x.draw : Int) ∧ x.bytes = x.bytes from ⟨rfl, rfl, rfl, rfl, rfl, rfl⟩)] at h)
          rw [hl, hx]
          clear hR hbr hnv hzr hsr hv hcl hbr2 hlk hu2 hq hl hx hE2 bT2 bn2
          gi_wp2_with fail
          refine region_slotsR (fun i => 85 + min i 22) (srG g o N vc k l x p u c p2 n2 c2) (fun _ => true) (by kernel_rfl) (by kernel_rfl) (by kernel_rfl) (fun i => by show 85 + min i 22 < _; simp; omega) (fun i j hi hj h => by have hi : i < 23 := hi; have hj : j < 23 := hj; omega) ?mono ?dst ?gu ?ng ?skip ?step ?done
          case mono =>
            intro i W W' v h hbw
            match i, h with
            | 0, h | 1, h | 2, h | 3, h | 4, h | 5, h | 6, h | 7, h | 8, h | 9, h | 10, h | 11, h | 12, h | 13, h | 14, h | 15, h | 16, h | 17, h | 18, h | 19, h | 20, h | 21, h | 22, h => exact h
            | n + 23, h => exact h.elim
          case dst =>
            intro i o ho
            match i, ho with
            | 0, ho | 1, ho | 2, ho | 3, ho | 4, ho | 5, ho | 6, ho | 7, ho | 8, ho | 9, ho | 10, ho | 11, ho | 12, ho | 13, ho | 14, ho | 15, ho | 16, ho | 17, ho | 18, ho | 19, ho | 20, ho | 21, ho | 22, ho => cases ho; rfl
            | n + 23, ho => exact absurd ho (by simp)
          case gu =>
            intro i o g b ho hgd W v hv
            match i, ho with
            | 0, ho => cases ho; cases hgd
            | 1, ho => cases ho; cases hgd
            | 2, ho => cases ho; cases hgd
            | 3, ho => cases ho; cases hgd
            | 4, ho => cases ho; cases hgd
            | 5, ho => cases ho; cases hgd; first | exact .inl hv | exact .inr ⟨rfl, hv⟩
            | 6, ho => cases ho; cases hgd; first | exact .inl hv | exact .inr ⟨rfl, hv⟩
            | 7, ho => cases ho; cases hgd; first | exact .inl hv | exact .inr ⟨rfl, hv⟩
            | 8, ho => cases ho; cases hgd; first | exact .inl hv | exact .inr ⟨rfl, hv⟩
            | 9, ho => cases ho; cases hgd; first | exact .inl hv | exact .inr ⟨rfl, hv⟩
            | 10, ho => cases ho; cases hgd; first | exact .inl hv | exact .inr ⟨rfl, hv⟩
            | 11, ho => cases ho; cases hgd; first | exact .inl hv | exact .inr ⟨rfl, hv⟩
            | 12, ho => cases ho; cases hgd
            | 13, ho => cases ho; cases hgd
            | 14, ho => cases ho; cases hgd; first | exact .inl hv | exact .inr ⟨rfl, hv⟩
            | 15, ho => cases ho; cases hgd; first | exact .inl hv | exact .inr ⟨rfl, hv⟩
            | 16, ho => cases ho; cases hgd; first | exact .inl hv | exact .inr ⟨rfl, hv⟩
            | 17, ho => cases ho; cases hgd; first | exact .inl hv | exact .inr ⟨rfl, hv⟩
            | 18, ho => cases ho; cases hgd; first | exact .inl hv | exact .inr ⟨rfl, hv⟩
            | 19, ho => cases ho; cases hgd; first | exact .inl hv | exact .inr ⟨rfl, hv⟩
            | 20, ho => cases ho; cases hgd; first | exact .inl hv | exact .inr ⟨rfl, hv⟩
            | 21, ho => cases ho; cases hgd; first | exact .inl hv | exact .inr ⟨rfl, hv⟩
            | 22, ho => cases ho; cases hgd
            | n + 23, ho => exact absurd ho (by simp)
          case ng =>
            intro i o ho hgd
            match i, ho with
            | 0, ho => cases ho; first | rfl | cases hgd
            | 1, ho => cases ho; first | rfl | cases hgd
            | 2, ho => cases ho; first | rfl | cases hgd
            | 3, ho => cases ho; first | rfl | cases hgd
            | 4, ho => cases ho; first | rfl | cases hgd
            | 5, ho => cases ho; first | rfl | cases hgd
            | 6, ho => cases ho; first | rfl | cases hgd
            | 7, ho => cases ho; first | rfl | cases hgd
            | 8, ho => cases ho; first | rfl | cases hgd
            | 9, ho => cases ho; first | rfl | cases hgd
            | 10, ho => cases ho; first | rfl | cases hgd
            | 11, ho => cases ho; first | rfl | cases hgd
            | 12, ho => cases ho; first | rfl | cases hgd
            | 13, ho => cases ho; first | rfl | cases hgd
            | 14, ho => cases ho; first | rfl | cases hgd
            | 15, ho => cases ho; first | rfl | cases hgd
            | 16, ho => cases ho; first | rfl | cases hgd
            | 17, ho => cases ho; first | rfl | cases hgd
            | 18, ho => cases ho; first | rfl | cases hgd
            | 19, ho => cases ho; first | rfl | cases hgd
            | 20, ho => cases ho; first | rfl | cases hgd
            | 21, ho => cases ho; first | rfl | cases hgd
            | 22, ho => cases ho; first | rfl | cases hgd
            | n + 23, ho => exact absurd ho (by simp)
          case skip =>
            intro i W hi hsel
            match i, hi, hsel with
            | 0, _, hsel => first | exact absurd hsel (by decide) | rfl
            | 1, _, hsel => first | exact absurd hsel (by decide) | rfl
            | 2, _, hsel => first | exact absurd hsel (by decide) | rfl
            | 3, _, hsel => first | exact absurd hsel (by decide) | rfl
            | 4, _, hsel => first | exact absurd hsel (by decide) | rfl
            | 5, _, hsel => first | exact absurd hsel (by decide) | rfl
            | 6, _, hsel => first | exact absurd hsel (by decide) | rfl
            | 7, _, hsel => first | exact absurd hsel (by decide) | rfl
            | 8, _, hsel => first | exact absurd hsel (by decide) | rfl
            | 9, _, hsel => first | exact absurd hsel (by decide) | rfl
            | 10, _, hsel => first | exact absurd hsel (by decide) | rfl
            | 11, _, hsel => first | exact absurd hsel (by decide) | rfl
            | 12, _, hsel => first | exact absurd hsel (by decide) | rfl
            | 13, _, hsel => first | exact absurd hsel (by decide) | rfl
            | 14, _, hsel => first | exact absurd hsel (by decide) | rfl
            | 15, _, hsel => first | exact absurd hsel (by decide) | rfl
            | 16, _, hsel => first | exact absurd hsel (by decide) | rfl
            | 17, _, hsel => first | exact absurd hsel (by decide) | rfl
            | 18, _, hsel => first | exact absurd hsel (by decide) | rfl
            | 19, _, hsel => first | exact absurd hsel (by decide) | rfl
            | 20, _, hsel => first | exact absurd hsel (by decide) | rfl
            | 21, _, hsel => first | exact absurd hsel (by decide) | rfl
            | 22, _, hsel => first | exact absurd hsel (by decide) | rfl
            | n + 23, hi, _ => exact absurd hi (by simp)
          case step =>
            intro f a' W i o ho hsel hpre hbel hrest
            match i, ho, hsel with
            | 0, ho, _ =>
              cases ho
              have q17 : a'.tmps.getD 17 undef = .pointer (some ⟨T1, 0, none⟩) := (hrest 17 (by intro i hi; have hi : i < 23 := hi; show 85 + min i 22 ≠ _; omega))
              have y0 := (show Boxed W T1 3 (.int .i64 (k : Int)) from (hbel.block _ Hbn2.out.lt).trans Hbn2.out).cell
              have e17 := rg_ev q17
              exact rg_same (.int .i64 (k : Int)) (by unfold Oper.wp execOp; go_simp; all_goals ((try simp only [e17]); (try go_simp); (try rw [if_pos (by omega)]); (try rw [if_neg (by omega)]); first | done | rfl | exact ⟨rfl, rfl⟩ | trivial)) rfl
            | 1, ho, _ =>
              cases ho
              have q12 : a'.tmps.getD 12 undef = .pointer (some ⟨Q, 0, none⟩) := (hrest 12 (by intro i hi; have hi : i < 23 := hi; show 85 + min i 22 ≠ _; omega))
              have y0 := (show Boxed W Q 63 (.slice (some ⟨g, o, none⟩) N vc) from (hbel.block _ HWX.out.lt).trans HWX.out).cell
              have e12 := rg_ev q12
              exact rg_same (.slice (some ⟨g, o, none⟩) N vc) (by unfold Oper.wp execOp; go_simp; all_goals ((try simp only [e12]); (try go_simp); (try rw [if_pos (by omega)]); (try rw [if_neg (by omega)]); first | done | rfl | exact ⟨rfl, rfl⟩ | trivial)) rfl
            | 2, ho, _ =>
              cases ho
              have q86 : a'.tmps.getD 86 undef = .slice (some ⟨g, o, none⟩) N vc := (hpre { on := 1, ground := .data } (by simp) rfl)
              have e86 := rg_ev q86
              exact rg_same (.int .i64 (N : Int)) (by unfold Oper.wp execOp; go_simp; all_goals ((try simp only [e86]); (try go_simp); (try rw [if_pos (by omega)]); (try rw [if_neg (by omega)]); first | done | rfl | exact ⟨rfl, rfl⟩ | trivial)) rfl
            | 3, ho, _ =>
              cases ho
              have q85 : a'.tmps.getD 85 undef = .int .i64 (k : Int) := (hpre { on := 0, ground := .data } (by simp) rfl)
              have q87 : a'.tmps.getD 87 undef = .int .i64 (N : Int) := (hpre { on := 2, ground := .data } (by simp) rfl)
              have b0 : decide (N ≤ k) = false := decide_eq_false (by omega)
              have e85 := rg_ev q85
              have e87 := rg_ev q87
              exact rg_same (.bool false) (by unfold Oper.wp execOp; go_simp; all_goals ((try simp only [e85, e87]); (try go_simp); (try rw [if_pos (by omega)]); (try rw [if_neg (by omega)]); first | done | rfl | exact ⟨rfl, rfl⟩ | trivial)) rfl
            | 4, ho, _ =>
              cases ho
              have q88 : a'.tmps.getD 88 undef = .bool false := (hpre { on := 3, ground := .data } (by simp) rfl)
              have e88 := rg_ev q88
              exact rg_same (.bool false) (by unfold Oper.wp execOp; go_simp; all_goals ((try simp only [e88]); (try go_simp); (try rw [if_pos (by omega)]); (try rw [if_neg (by omega)]); first | done | rfl | exact ⟨rfl, rfl⟩ | trivial)) rfl
            | 5, ho, _ =>
              cases ho
              have q18 : a'.tmps.getD 18 undef = .int .i64 (l : Int) := (hrest 18 (by intro i hi; have hi : i < 23 := hi; show 85 + min i 22 ≠ _; omega))
              have e18 := rg_ev q18
              exact rg_same (.int .i64 (l : Int)) (by unfold Oper.wp execOp; go_simp; all_goals ((try simp only [e18]); (try go_simp); (try rw [if_pos (by omega)]); (try rw [if_neg (by omega)]); first | done | rfl | exact ⟨rfl, rfl⟩ | trivial)) rfl
            | 6, ho, _ =>
              cases ho
              have q12 : a'.tmps.getD 12 undef = .pointer (some ⟨Q, 0, none⟩) := (hrest 12 (by intro i hi; have hi : i < 23 := hi; show 85 + min i 22 ≠ _; omega))
              have y0 := (show Boxed W Q 63 (.slice (some ⟨g, o, none⟩) N vc) from (hbel.block _ HWX.out.lt).trans HWX.out).cell
              have e12 := rg_ev q12
              exact rg_same (.slice (some ⟨g, o, none⟩) N vc) (by unfold Oper.wp execOp; go_simp; all_goals ((try simp only [e12]); (try go_simp); (try rw [if_pos (by omega)]); (try rw [if_neg (by omega)]); first | done | rfl | exact ⟨rfl, rfl⟩ | trivial)) rfl
            | 7, ho, _ =>
              cases ho
              have q17 : a'.tmps.getD 17 undef = .pointer (some ⟨T1, 0, none⟩) := (hrest 17 (by intro i hi; have hi : i < 23 := hi; show 85 + min i 22 ≠ _; omega))
              have y0 := (show Boxed W T1 3 (.int .i64 (k : Int)) from (hbel.block _ Hbn2.out.lt).trans Hbn2.out).cell
              have e17 := rg_ev q17
              exact rg_same (.int .i64 (k : Int)) (by unfold Oper.wp execOp; go_simp; all_goals ((try simp only [e17]); (try go_simp); (try rw [if_pos (by omega)]); (try rw [if_neg (by omega)]); first | done | rfl | exact ⟨rfl, rfl⟩ | trivial)) rfl
            | 8, ho, _ =>
              cases ho
              have q91 : a'.tmps.getD 91 undef = .slice (some ⟨g, o, none⟩) N vc := (hpre { on := 6, ground := .data } (by simp) rfl)
              have q92 : a'.tmps.getD 92 undef = .int .i64 (k : Int) := (hpre { on := 7, ground := .data } (by simp) rfl)
              have e91 := rg_ev q91
              have e92 := rg_ev q92
              exact rg_same (.pointer (some ⟨g, o + k * 7, none⟩)) (by unfold Oper.wp execOp; go_simp; all_goals ((try simp only [e91, e92]); (try go_simp); (try rw [if_pos (by omega)]); (try rw [if_neg (by omega)]); first | done | rfl | exact ⟨rfl, rfl⟩ | trivial)) rfl
            | 9, ho, _ =>
              cases ho
              have q93 : a'.tmps.getD 93 undef = .pointer (some ⟨g, o + k * 7, none⟩) := (hpre { on := 8, ground := .data } (by simp) rfl)
              have e93 := rg_ev q93
              exact rg_same (.pointer (some ⟨g, o + k * 7, none⟩)) (by unfold Oper.wp execOp; go_simp; all_goals ((try simp only [e93]); (try go_simp); (try rw [if_pos (by omega)]); (try rw [if_neg (by omega)]); first | done | rfl | exact ⟨rfl, rfl⟩ | trivial)) rfl
            | 10, ho, _ =>
              cases ho
              have q94 : a'.tmps.getD 94 undef = .pointer (some ⟨g, o + k * 7, none⟩) := (hpre { on := 9, ground := .data } (by simp) rfl)
              have y0 := cell_below hbel HLC.out.c0
              dsimp only at y0
              have e94 := rg_ev q94
              exact rg_same (.int .i64 (l : Int)) (by unfold Oper.wp execOp; go_simp; all_goals ((try simp only [e94]); (try go_simp); (try rw [if_pos (by omega)]); (try rw [if_neg (by omega)]); first | done | rfl | exact ⟨rfl, rfl⟩ | trivial)) rfl
            | 11, ho, _ =>
              cases ho
              have q90 : a'.tmps.getD 90 undef = .int .i64 (l : Int) := (hpre { on := 5, ground := .data } (by simp) rfl)
              have q95 : a'.tmps.getD 95 undef = .int .i64 (l : Int) := (hpre { on := 10, ground := .data } (by simp) rfl)
              have b0 : ((l : Int) != (l : Int)) = false := by simp
              have e90 := rg_ev q90
              have e95 := rg_ev q95
              exact rg_same (.bool false) (by unfold Oper.wp execOp; go_simp; all_goals ((try simp only [e90, e95]); (try go_simp); (try rw [if_pos (by omega)]); (try rw [if_neg (by omega)]); first | done | rfl | exact ⟨rfl, rfl⟩ | trivial)) rfl
            | 12, ho, _ =>
              cases ho
              have q89 : a'.tmps.getD 89 undef = .bool false := (hpre { on := 4, ground := .data } (by simp) rfl)
              have q96 : a'.tmps.getD 96 undef = .bool false := (hpre { on := 11, ground := .data } (by simp) rfl)
              have e89 := rg_ev q89
              have e96 := rg_ev q96
              exact rg_same (.bool false) (by unfold Oper.wp execOp; go_simp; all_goals ((try simp only [e89, e96]); (try go_simp); (try rw [if_pos (by omega)]); (try rw [if_neg (by omega)]); first | done | rfl | exact ⟨rfl, rfl⟩ | trivial)) rfl
            | 13, ho, _ =>
              cases ho
              have q97 : a'.tmps.getD 97 undef = .bool false := (hpre { on := 12, ground := .data } (by simp) rfl)
              have e97 := rg_ev q97
              exact rg_same (.bool false) (by unfold Oper.wp execOp; go_simp; all_goals ((try simp only [e97]); (try go_simp); (try rw [if_pos (by omega)]); (try rw [if_neg (by omega)]); first | done | rfl | exact ⟨rfl, rfl⟩ | trivial)) rfl
            | 14, ho, _ =>
              cases ho
              have q19 : a'.tmps.getD 19 undef = .pointer (some ⟨R, 0, none⟩) := (hrest 19 (by intro i hi; have hi : i < 23 := hi; show 85 + min i 22 ≠ _; omega))
              obtain ⟨y0, y1, y2, y3, y4, y5, _⟩ := HSR.out.below hbel
              have e19 := rg_ev q19
              exact rg_same (.agg #[.int .i64 x.kind, .int .u64 (x.conn : Int), .int .i64 x.topic, .int .u64 (x.n : Int), .int .u64 (x.draw : Int), .slice p u c]) (by unfold Oper.wp execOp; go_simp; all_goals ((try simp only [e19]); (try go_simp); (try rw [if_pos (by omega)]); (try rw [if_neg (by omega)]); first | done | rfl | exact ⟨rfl, rfl⟩ | trivial)) rfl
            | 15, ho, _ =>
              cases ho
              have q12 : a'.tmps.getD 12 undef = .pointer (some ⟨Q, 0, none⟩) := (hrest 12 (by intro i hi; have hi : i < 23 := hi; show 85 + min i 22 ≠ _; omega))
              have y0 := (show Boxed W Q 63 (.slice (some ⟨g, o, none⟩) N vc) from (hbel.block _ HWX.out.lt).trans HWX.out).cell
              have e12 := rg_ev q12
              exact rg_same (.slice (some ⟨g, o, none⟩) N vc) (by unfold Oper.wp execOp; go_simp; all_goals ((try simp only [e12]); (try go_simp); (try rw [if_pos (by omega)]); (try rw [if_neg (by omega)]); first | done | rfl | exact ⟨rfl, rfl⟩ | trivial)) rfl
            | 16, ho, _ =>
              cases ho
              have q17 : a'.tmps.getD 17 undef = .pointer (some ⟨T1, 0, none⟩) := (hrest 17 (by intro i hi; have hi : i < 23 := hi; show 85 + min i 22 ≠ _; omega))
              have y0 := (show Boxed W T1 3 (.int .i64 (k : Int)) from (hbel.block _ Hbn2.out.lt).trans Hbn2.out).cell
              have e17 := rg_ev q17
              exact rg_same (.int .i64 (k : Int)) (by unfold Oper.wp execOp; go_simp; all_goals ((try simp only [e17]); (try go_simp); (try rw [if_pos (by omega)]); (try rw [if_neg (by omega)]); first | done | rfl | exact ⟨rfl, rfl⟩ | trivial)) rfl
            | 17, ho, _ =>
              cases ho
              have q100 : a'.tmps.getD 100 undef = .slice (some ⟨g, o, none⟩) N vc := (hpre { on := 15, ground := .data } (by simp) rfl)
              have q101 : a'.tmps.getD 101 undef = .int .i64 (k : Int) := (hpre { on := 16, ground := .data } (by simp) rfl)
              have e100 := rg_ev q100
              have e101 := rg_ev q101
              exact rg_same (.pointer (some ⟨g, o + k * 7, none⟩)) (by unfold Oper.wp execOp; go_simp; all_goals ((try simp only [e100, e101]); (try go_simp); (try rw [if_pos (by omega)]); (try rw [if_neg (by omega)]); first | done | rfl | exact ⟨rfl, rfl⟩ | trivial)) rfl
            | 18, ho, _ =>
              cases ho
              have q102 : a'.tmps.getD 102 undef = .pointer (some ⟨g, o + k * 7, none⟩) := (hpre { on := 17, ground := .data } (by simp) rfl)
              have e102 := rg_ev q102
              exact rg_same (.pointer (some ⟨g, o + k * 7 + 1, none⟩)) (by unfold Oper.wp execOp; go_simp; all_goals ((try simp only [e102]); (try go_simp); (try rw [if_pos (by omega)]); (try rw [if_neg (by omega)]); first | done | rfl | exact ⟨rfl, rfl⟩ | trivial)) rfl
            | 19, ho, _ =>
              cases ho
              have q103 : a'.tmps.getD 103 undef = .pointer (some ⟨g, o + k * 7 + 1, none⟩) := (hpre { on := 18, ground := .data } (by simp) rfl)
              obtain ⟨_, y0, y1, y2, y3, y4, y5⟩ := HLC.out.below hbel
              dsimp only at y0 y1 y2 y3 y4 y5
              have e103 := rg_ev q103
              exact rg_same (.agg #[.int .i64 x.kind, .int .u64 (x.conn : Int), .int .i64 x.topic, .int .u64 (x.n : Int), .int .u64 (x.draw : Int), .slice p2 n2 c2]) (by unfold Oper.wp execOp; go_simp; all_goals ((try simp only [e103]); (try go_simp); (try rw [if_pos (by omega)]); (try rw [if_neg (by omega)]); first | done | rfl | exact ⟨rfl, rfl⟩ | trivial)) rfl
            | 20, ho, _ =>
              cases ho
              have q99 : a'.tmps.getD 99 undef = .agg #[.int .i64 x.kind, .int .u64 (x.conn : Int), .int .i64 x.topic, .int .u64 (x.n : Int), .int .u64 (x.draw : Int), .slice p u c] := (hpre { on := 14, ground := .data } (by simp) rfl)
              have q104 : a'.tmps.getD 104 undef = .agg #[.int .i64 x.kind, .int .u64 (x.conn : Int), .int .i64 x.topic, .int .u64 (x.n : Int), .int .u64 (x.draw : Int), .slice p2 n2 c2] := (hpre { on := 19, ground := .data } (by simp) rfl)
              exact rg_call2 99 104 21 _ _ _ _ rfl q99 q104 (enters_of Tryz.func21 (by kernel_rfl) rfl) (KS.out W hbel) (fun e w' h => ⟨_, h.1, _, rfl, rfl, h.2⟩)
            | 21, ho, _ =>
              cases ho
              have q105 : a'.tmps.getD 105 undef = .bool true := (hpre { on := 20, ground := .data } (by simp) rfl)
              have e105 := rg_ev q105
              exact rg_same (.bool false) (by unfold Oper.wp execOp; go_simp; all_goals ((try simp only [e105]); (try go_simp); (try rw [if_pos (by omega)]); (try rw [if_neg (by omega)]); first | done | rfl | exact ⟨rfl, rfl⟩ | trivial)) rfl
            | 22, ho, _ =>
              cases ho
              have q98 : a'.tmps.getD 98 undef = .bool false := (hpre { on := 13, ground := .data } (by simp) rfl)
              have q106 : a'.tmps.getD 106 undef = .bool false := (hpre { on := 21, ground := .data } (by simp) rfl)
              have e98 := rg_ev q98
              have e106 := rg_ev q106
              exact rg_same (.bool false) (by unfold Oper.wp execOp; go_simp; all_goals ((try simp only [e98, e106]); (try go_simp); (try rw [if_pos (by omega)]); (try rw [if_neg (by omega)]); first | done | rfl | exact ⟨rfl, rfl⟩ | trivial)) rfl
            | n + 23, ho, _ => exact absurd ho (by simp)
          case done =>
            intro vs W hbel hvs
            have v0 : vs 0 = .int .i64 (k : Int) := hvs 0 (by decide)
            have v1 : vs 1 = .slice (some ⟨g, o, none⟩) N vc := hvs 1 (by decide)
            have v2 : vs 2 = .int .i64 (N : Int) := hvs 2 (by decide)
            have v3 : vs 3 = .bool false := hvs 3 (by decide)
            have v4 : vs 4 = .bool false := hvs 4 (by decide)
            have v5 : vs 5 = .int .i64 (l : Int) := hvs 5 (by decide)
            have v6 : vs 6 = .slice (some ⟨g, o, none⟩) N vc := hvs 6 (by decide)
            have v7 : vs 7 = .int .i64 (k : Int) := hvs 7 (by decide)
            have v8 : vs 8 = .pointer (some ⟨g, o + k * 7, none⟩) := hvs 8 (by decide)
            have v9 : vs 9 = .pointer (some ⟨g, o + k * 7, none⟩) := hvs 9 (by decide)
            have v10 : vs 10 = .int .i64 (l : Int) := hvs 10 (by decide)
            have v11 : vs 11 = .bool false := hvs 11 (by decide)
            have v12 : vs 12 = .bool false := hvs 12 (by decide)
            have v13 : vs 13 = .bool false := hvs 13 (by decide)
            have v14 : vs 14 = .agg #[.int .i64 x.kind, .int .u64 (x.conn : Int), .int .i64 x.topic, .int .u64 (x.n : Int), .int .u64 (x.draw : Int), .slice p u c] := hvs 14 (by decide)
            have v15 : vs 15 = .slice (some ⟨g, o, none⟩) N vc := hvs 15 (by decide)
            have v16 : vs 16 = .int .i64 (k : Int) := hvs 16 (by decide)
            have v17 : vs 17 = .pointer (some ⟨g, o + k * 7, none⟩) := hvs 17 (by decide)
            have v18 : vs 18 = .pointer (some ⟨g, o + k * 7 + 1, none⟩) := hvs 18 (by decide)
            have v19 : vs 19 = .agg #[.int .i64 x.kind, .int .u64 (x.conn : Int), .int .i64 x.topic, .int .u64 (x.n : Int), .int .u64 (x.draw : Int), .slice p2 n2 c2] := hvs 19 (by decide)
            have v20 : vs 20 = .bool true := hvs 20 (by decide)
            have v21 : vs 21 = .bool false := hvs 21 (by decide)
            have v22 : vs 22 = .bool false := hvs 22 (by decide)
            have HBR := Lib.hid hbel
            simp only [fillN, List.size_toArray, List.length_cons, List.length_nil, Nat.reduceAdd, show List.range 23 = [0, 1, 2, 3, 4, 5, 6, 7, 8, 9, 10, 11, 12, 13, 14, 15, 16, 17, 18, 19, 20, 21, 22] from rfl, List.foldl_cons, List.foldl_nil, show 85 + min 0 22 = 85 from rfl, show 85 + min 1 22 = 86 from rfl, show 85 + min 2 22 = 87 from rfl, show 85 + min 3 22 = 88 from rfl, show 85 + min 4 22 = 89 from rfl, show 85 + min 5 22 = 90 from rfl, show 85 + min 6 22 = 91 from rfl, show 85 + min 7 22 = 92 from rfl, show 85 + min 8 22 = 93 from rfl, show 85 + min 9 22 = 94 from rfl, show 85 + min 10 22 = 95 from rfl, show 85 + min 11 22 = 96 from rfl, show 85 + min 12 22 = 97 from rfl, show 85 + min 13 22 = 98 from rfl, show 85 + min 14 22 = 99 from rfl, show 85 + min 15 22 = 100 from rfl, show 85 + min 16 22 = 101 from rfl, show 85 + min 17 22 = 102 from rfl, show 85 + min 18 22 = 103 from rfl, show 85 + min 19 22 = 104 from rfl, show 85 + min 20 22 = 105 from rfl, show 85 + min 21 22 = 106 from rfl, show 85 + min 22 22 = 107 from rfl, v0, v1, v2, v3, v4, v5, v6, v7, v8, v9, v10, v11, v12, v13, v14, v15, v16, v17, v18, v19, v20, v21, v22]
            clear v0 v1 v2 v3 v4 v5 v6 v7 v8 v9 v10 v11 v12 v13 v14 v15 v16 v17 v18 v19 v20 v21 v22 hvs hbel
            go_simp
            have HE3 := Lib.hid (HE2.out.trans (HBR.out.mono (by rw [← HTV.out]; exact (by have h := HE2.out.size; have h2 := HTV.out; omega))))
            have HbT3 := Lib.hid (show Boxed W TV 3 (.int .i64 0) from (HBR.out.block _ HbT2.out.lt).trans HbT2.out)
            have Hbn3 := Lib.hid (show Boxed W T1 3 (.int .i64 (k : Int)) from (HBR.out.block _ Hbn2.out.lt).trans Hbn2.out)
            have cn := Hbn3.out.cell
            have fn := Hbn3.out.frozen
            have cT2 := HbT3.out.cell
            have cm := (show Boxed W B 3 _ from (HE3.out.block B (by omega)).trans HQV.out.m).cell
            have hk601 : ((k : Int) < 601) := by have := HNL.out; omega
            have hKF : KeepsFrom X1.heap.size X W := keeps_below HBR.out
            have hKP : KpE B SB (T1 + 3) X W := KpE.below HBR.out
            have HKF := Lib.hid hKF
            have HKP := Lib.hid hKP
            clear hKF hKP HBR hkm
            gi_wp2
            · have h1 : m ≤ (k : Int) + 1 := by assumption
              exact ⟨HKF.out.trans ((KeepsOthers.setCell _ _ _).from _), rfl, k + 1, by omega, .inr (by omega), by omega, fun h => by have := HKM.out (by omega); omega, HE3.out.setCell (p := ⟨T1, 0, none⟩) (by show TV ≤ T1; omega) _, HbT3.out.other (by omega) _, Hbn3.out.set _⟩
            · have h1 : (k : Int) + 1 < m := by assumption
              exact ⟨HKF.out.trans ((KeepsOthers.setCell _ _ _).from _), HKP.out.trans (KpE.setCell _ _ (by omega) (by omega) (by omega)), HE3.out.setCell (p := ⟨T1, 0, none⟩) (by show TV ≤ T1; omega) _, HbT3.out.other (by omega) _, Hbn3.out.set _, fun _ => by omega⟩
        case all =>
          rintro X ⟨h1, h2, h3, h4⟩
          exact ⟨N, Nat.le_refl _, .inl rfl, id, fun h => by have := h4 (by omega); omega, h1, h2, h3⟩
        case don =>
          rintro D1 X hD1 ⟨k, hkN, hkm, hk0, hkl, hE2, bT2, bn2⟩ hK1
          have HE2 := Lib.hid hE2
          have HbT2 := Lib.hid bT2
          have Hbn2 := Lib.hid bn2
          have HK1 := Lib.hid hK1
          have cn := bn2.cell
          have cT2 := bT2.cell
          have fT2 := bT2.frozen
          have cw := (show Boxed X Q 63 _ from (hE2.block Q hQT).trans HWQ.out).cell
          have cm := (show Boxed X B 3 _ from (hE2.block B (by omega)).trans HQV.out.m).cell
          obtain ⟨mx, hmx, hmi⟩ : ∃ mx : Int, (∀ W, (Builtin.max_ #[3, 3] 3 #[.int .i64 1, .int .i64 m]).run Tryz.prog W = .ok (.int .i64 mx) W) ∧ (∀ W, (Builtin.min_ #[3, 3] 3 #[.int .i64 N, .int .i64 mx]).run Tryz.prog W = .ok (.int .i64 (k : Int)) W) := by
            refine ⟨if m > 1 then m else 1, fun W => at_maxR _ _ _ _ W, fun W => ?_⟩
            rw [at_minR]
            congr 2
            split <;> split <;> omega
          clear hE2 bT2 bn2 hkm hK1 hkl hk0 cT
          gi_wp2_with fail
          rw [roundsIn_succ]
          obtain ⟨T2, hT2⟩ : ∃ T2, X.heap.size = T2 := ⟨_, rfl⟩
          obtain ⟨X2, hX2⟩ : ∃ X2, X.alloc (.cells #[.int .i64 1] 3) = X2 := ⟨_, rfl⟩
          obtain ⟨X3, hX3⟩ : ∃ X3, X2.alloc (.cells #[.int .i64 0] 3) = X3 := ⟨_, rfl⟩
          have hCX : T1 < X.heap.size := by have := Hbn2.out.lt; omega
          have hVT : V.heap.size = TV := HTV.out
          have E3 : Below TV V X3 := by rw [← hX3, ← hX2]; exact (HE2.out.alloc (by omega) _).alloc (by simp; omega) _
          have bT3 : Boxed X3 T2 3 (.int .i64 1) := by rw [← hX3, ← hX2, ← hT2]; exact (Boxed.new _ _ _).alloc _
          obtain ⟨C2, hC2⟩ : ∃ C2, X2.heap.size = C2 := ⟨_, rfl⟩
          have hTC2 : C2 = T2 + 1 := by rw [← hC2, ← hX2, ← hT2]; simp
          have bn3 : Boxed X3 C2 3 (.int .i64 0) := by rw [← hX3, ← hC2]; exact Boxed.new _ _ _
          have hs3 : X3.heap.size = C2 + 1 := by rw [← hX3, ← hC2]; simp
          have hD1s : D1 < T2 := by rw [← hT2]; exact (Array.getElem?_eq_some_iff.1 HK1.out).1
          have K3 : X3.heap[D1]? = some (.deferred (some [])) := by
            rw [← hX3, ← hX2]
            exact (Below.heap_alloc _ _ _ (by simp; omega)).trans ((Below.heap_alloc _ _ _ (by omega)).trans HK1.out)
          have cT2 : X2.cell? ⟨T2, 0, none⟩ = some (.int .i64 1) := by rw [← hX2, ← hT2]; exact (Boxed.new _ _ _).cell
          have cT2b : (X2.alloc (.cells #[.int .i64 0] 3)).cell? ⟨T2, 0, none⟩ = some (.int .i64 1) := by rw [hX3]; exact bT3.cell
          rw [hT2, hX2]
          have HX3 := Lib.hid hX3
          have HC2 := Lib.hid hC2
          have HTC2 := Lib.hid hTC2
          have HS3 := Lib.hid hs3
          have HE3 := Lib.hid E3
          have HbT3 := Lib.hid bT3
          have Hbn3 := Lib.hid bn3
          have HK3 := Lib.hid K3
          have hTT2 : T1 < T2 := by omega
          clear hX3 hC2 hT2 hX2 hTC2 cn fT2 cw cm hVT E3 bT3 bn3 K3 hs3 hCX hmx hmi
          gi_wp2_with fail
          rw [HX3.out, HC2.out]
          have hTC2 : T2 < C2 := by have := HTC2.out; omega
          clear cT2 cT2b
          refine rg_breakS (N := N) (own := ownE (C2 + 3 + 1)) (Kp := KpE B SB (C2 + 3)) (Enc := EncE (C2 + 3) G) rfl (by omega) (gf := 57) (lb := #[.pointer (some ⟨SB, 0, none⟩)]) rfl trivial (enters_of Tryz.func57 (by kernel_rfl) rfl)
            (fun k a X h => by obtain ⟨p, u, c, rfl, _⟩ := h; rfl) (fun b hb => by have := HS3.out; rcases hb with h | h <;> omega) ?iter2 KpE.trans (fun X o o' h2 h3 => KpE.putObj _ _ (by have := HS3.out; omega) (by have := HS3.out; omega) (by have := HS3.out; omega))
            (fun k Y => Below TV V Y ∧ Boxed Y T2 3 (.int .i64 1) ∧ Boxed Y C2 3 (.int .i64 (k : Int)) ∧ Y.heap[D1]? = some (.deferred (some [])))
            (fun Y => Below TV V Y ∧ Boxed Y T2 3 (.int .i64 1) ∧ Boxed Y C2 3 (.int .i64 (N : Int)) ∧ Y.heap[D1]? = some (.deferred (some [])))
            (fun k X Y hs ht => ⟨hs.1.trans (ht.below (by have := HS3.out; omega) (by have h1 := hs.1.size; have h2 := HTV.out; omega) (fun b hb => by rcases hb with h | h <;> omega)), ht.boxed hs.2.1 (fun h => by rcases h with h | h <;> omega), ht.boxed hs.2.2.1 (fun h => by rcases h with h | h <;> omega), ht.low hs.2.2.2 (by have := HS3.out; omega) (fun h => by rcases h with h | h <;> omega)⟩)
            (fun X Y hs ht => ⟨hs.1.trans (ht.below (by have := HS3.out; omega) (by have h1 := hs.1.size; have h2 := HTV.out; omega) (fun b hb => by rcases hb with h | h <;> omega)), ht.boxed hs.2.1 (fun h => by rcases h with h | h <;> omega), ht.boxed hs.2.2.1 (fun h => by rcases h with h | h <;> omega), ht.low hs.2.2.2 (by have := HS3.out; omega) (fun h => by rcases h with h | h <;> omega)⟩)
            ⟨HE3.out, HbT3.out, Hbn3.out, HK3.out⟩ (BxR (C2 + 3) y) (fun k p u c R X Y h ht => h.turn ht) ?E2
          case iter2 =>
            intro Y hY hsz
            have hE := HE3.out
            have hXV : ∀ b, b < TV → Y.heap[b]? = V.heap[b]? := fun b hb => (hY.block b (by have := HS3.out; omega)).trans (hE.block b hb)
            have h := each_it (9 - 1) B SB (C2 + 3) s L w Y HL.out (by rw [HSZ.out]; omega) (by rw [hsz, HS3.out]) (by omega) ((hXV SB hST).trans HSB.out) HBB.out (by omega) (fun b hb => (hXV b (by omega)).trans (HQV.out.hb.block b (by rw [HBB.out]; exact hb))) HK.out.tabs HK.out.ml
            rw [HGG.out, HNN.out] at h
            exact h
          case E2 =>
            apply Exists.intro
            refine ⟨?asg2, ?bod2, ?all2, ?don2⟩
            case asg2 =>
              rintro l' k args X K hk hi ⟨p, u, c, rfl, hbr, hnv, hsz⟩ hK
              rw [HYY.out k] at hbr
              rw [HLN.out k, HYY.out k]
              unfold stVal
              obtain ⟨R, hR⟩ : ∃ z, X.heap.size = z := ⟨_, rfl⟩
              obtain ⟨Y, hY⟩ : ∃ z, X.alloc (stObj (y k) (.slice p u c)) = z := ⟨_, rfl⟩
              have hb : Below X.heap.size X Y := by rw [← hY]; exact (Below.refl _ _).alloc (Nat.le_refl _) _
              have hbV : Below TV V Y := hi.1.trans (hb.mono (by have h := hi.1.size; have h2 := HTV.out; omega))
              have HKK := Lib.hid (hK p u c R Y (keeps_below hb) (KpE.below hb) ⟨hbV, (hb.block _ hi.2.1.lt).trans hi.2.1, (hb.block _ hi.2.2.1.lt).trans hi.2.2.1, (hb.block _ (Array.getElem?_eq_some_iff.1 hi.2.2.2).1).trans hi.2.2.2⟩ (BxR.new hY hR hbr hnv (by rw [← hR]; exact hsz)))
              have HY := Lib.hid hY
              have HR := Lib.hid hR
              unfold stObj at HY
              clear hK hk hi hbr hnv hsz hb hbV hY hR
              gi_wp2
              rw [HY.out, HR.out]
              exact HKK.out
            case bod2 =>
              rintro l' k p u c R X hl' ⟨r, hr⟩ hk ⟨hE2, bT2, bn2, hK4⟩ hbx
              have HE2 := Lib.hid hE2
              have HbT2 := Lib.hid bT2
              have Hbn2 := Lib.hid bn2
              have HK4 := Lib.hid hK4
              clear hK4
              obtain ⟨hR, hbr, hnv, hzr⟩ := hbx
              have hsr := SR.of hR
              obtain ⟨g, o, cc, hv, hcl, hbr2⟩ := (HLI.out X hE2).at (j := k) (by rw [HPL.out]; exact hk)
              obtain ⟨rfl, rfl⟩ : vp = some ⟨g, o, none⟩ ∧ vc = cc := by
                simp only [Value.slice.injEq] at hv
                exact ⟨hv.1, hv.2.2⟩
              have hlk := lkey_at HPS.out k
              obtain ⟨u2, hu2⟩ : ∃ z, (ps.getD k lqd).2.2 = z := ⟨_, rfl⟩
              have hq : ps.getD k lqd = (ln k, y k, u2) := by
                have h1 := congrArg Prod.fst hlk
                have h2 := congrArg Prod.snd hlk
                rw [HLN.out k] at h1
                rw [HYY.out k] at h2
                exact Prod.ext h1 (Prod.ext h2 hu2)
              rw [hq] at hcl hbr2
              dsimp only at hbr2
              obtain ⟨p2, n2, c2, rfl⟩ := hbr2.sl
              have HLC := Lib.hid hcl
              have HSR := Lib.hid hsr
              have HWX := Lib.hid (show Boxed X Q 63 (.slice (some ⟨g, o, none⟩) N vc) from (hE2.block Q hQT).trans HWQ.out)
              obtain ⟨l, hl⟩ : ∃ z, ln k = z := ⟨_, rfl⟩
              obtain ⟨x, hx⟩ : ∃ z, y k = z := ⟨_, rfl⟩
              rw [hl] at HLC
              rw [hx] at HLC HSR hbr hbr2
              have KS := Lib.hid (show ∀ W, Below X.heap.size X W → Calls Tryz.prog 21 #[.agg #[.int .i64 x.kind, .int .u64 (x.conn : Int), .int .i64 x.topic, .int .u64 (x.n : Int), .int .u64 (x.draw : Int), .slice p u c], .agg #[.int .i64 x.kind, .int .u64 (x.conn : Int), .int .i64 x.topic, .int .u64 (x.n : Int), .int .u64 (x.draw : Int), .slice p2 n2 c2]] W fun e w' => e = .returned (.bool true) ∧ Below W.heap.size W w' from fun W hb => by
                have h := rf_SameStep x.kind (x.conn : Int) x.topic (x.n : Int) (x.draw : Int) x.kind (x.conn : Int) x.topic (x.n : Int) (x.draw : Int) (.slice p u c) (.slice p2 n2 c2) x.bytes x.bytes W (hbr.br.below hb) (hbr2.below hb)
                rwa [decide_eq_true (show x.kind = x.kind ∧ (x.conn : Int) = (x.conn : Int) ∧ x.topic = x.topic ∧ (x.n : Int) = (x.n : Int) ∧ (x.draw : Int) = (x.draw : Int) ∧ x.bytes = x.bytes from ⟨rfl, rfl, rfl, rfl, rfl, rfl⟩)] at h)
              rw [hl, hx]
              clear hR hbr hnv hzr hsr hv hcl hbr2 hlk hu2 hq hl hx hE2 bT2 bn2
              gi_wp2_with fail
              refine region_slotsR (fun i => 85 + min i 22) (srG g o N vc k l x p u c p2 n2 c2) (fun _ => true) (by kernel_rfl) (by kernel_rfl) (by kernel_rfl) (fun i => by show 85 + min i 22 < _; simp; omega) (fun i j hi hj h => by have hi : i < 23 := hi; have hj : j < 23 := hj; omega) ?mono ?dst ?gu ?ng ?skip ?step ?done
              case mono =>
                intro i W W' v h hbw
                match i, h with
                | 0, h | 1, h | 2, h | 3, h | 4, h | 5, h | 6, h | 7, h | 8, h | 9, h | 10, h | 11, h | 12, h | 13, h | 14, h | 15, h | 16, h | 17, h | 18, h | 19, h | 20, h | 21, h | 22, h => exact h
                | n + 23, h => exact h.elim
              case dst =>
                intro i o ho
                match i, ho with
                | 0, ho | 1, ho | 2, ho | 3, ho | 4, ho | 5, ho | 6, ho | 7, ho | 8, ho | 9, ho | 10, ho | 11, ho | 12, ho | 13, ho | 14, ho | 15, ho | 16, ho | 17, ho | 18, ho | 19, ho | 20, ho | 21, ho | 22, ho => cases ho; rfl
                | n + 23, ho => exact absurd ho (by simp)
              case gu =>
                intro i o g b ho hgd W v hv
                match i, ho with
                | 0, ho => cases ho; cases hgd
                | 1, ho => cases ho; cases hgd
                | 2, ho => cases ho; cases hgd
                | 3, ho => cases ho; cases hgd
                | 4, ho => cases ho; cases hgd
                | 5, ho => cases ho; cases hgd; first | exact .inl hv | exact .inr ⟨rfl, hv⟩
                | 6, ho => cases ho; cases hgd; first | exact .inl hv | exact .inr ⟨rfl, hv⟩
                | 7, ho => cases ho; cases hgd; first | exact .inl hv | exact .inr ⟨rfl, hv⟩
                | 8, ho => cases ho; cases hgd; first | exact .inl hv | exact .inr ⟨rfl, hv⟩
                | 9, ho => cases ho; cases hgd; first | exact .inl hv | exact .inr ⟨rfl, hv⟩
                | 10, ho => cases ho; cases hgd; first | exact .inl hv | exact .inr ⟨rfl, hv⟩
                | 11, ho => cases ho; cases hgd; first | exact .inl hv | exact .inr ⟨rfl, hv⟩
                | 12, ho => cases ho; cases hgd
                | 13, ho => cases ho; cases hgd
                | 14, ho => cases ho; cases hgd; first | exact .inl hv | exact .inr ⟨rfl, hv⟩
                | 15, ho => cases ho; cases hgd; first | exact .inl hv | exact .inr ⟨rfl, hv⟩
                | 16, ho => cases ho; cases hgd; first | exact .inl hv | exact .inr ⟨rfl, hv⟩
                | 17, ho => cases ho; cases hgd; first | exact .inl hv | exact .inr ⟨rfl, hv⟩
                | 18, ho => cases ho; cases hgd; first | exact .inl hv | exact .inr ⟨rfl, hv⟩
                | 19, ho => cases ho; cases hgd; first | exact .inl hv | exact .inr ⟨rfl, hv⟩
                | 20, ho => cases ho; cases hgd; first | exact .inl hv | exact .inr ⟨rfl, hv⟩
                | 21, ho => cases ho; cases hgd; first | exact .inl hv | exact .inr ⟨rfl, hv⟩
                | 22, ho => cases ho; cases hgd
                | n + 23, ho => exact absurd ho (by simp)
              case ng =>
                intro i o ho hgd
                match i, ho with
                | 0, ho => cases ho; first | rfl | cases hgd
                | 1, ho => cases ho; first | rfl | cases hgd
                | 2, ho => cases ho; first | rfl | cases hgd
                | 3, ho => cases ho; first | rfl | cases hgd
                | 4, ho => cases ho; first | rfl | cases hgd
                | 5, ho => cases ho; first | rfl | cases hgd
                | 6, ho => cases ho; first | rfl | cases hgd
                | 7, ho => cases ho; first | rfl | cases hgd
                | 8, ho => cases ho; first | rfl | cases hgd
                | 9, ho => cases ho; first | rfl | cases hgd
                | 10, ho => cases ho; first | rfl | cases hgd
                | 11, ho => cases ho; first | rfl | cases hgd
                | 12, ho => cases ho; first | rfl | cases hgd
                | 13, ho => cases ho; first | rfl | cases hgd
                | 14, ho => cases ho; first | rfl | cases hgd
                | 15, ho => cases ho; first | rfl | cases hgd
                | 16, ho => cases ho; first | rfl | cases hgd
                | 17, ho => cases ho; first | rfl | cases hgd
                | 18, ho => cases ho; first | rfl | cases hgd
                | 19, ho => cases ho; first | rfl | cases hgd
                | 20, ho => cases ho; first | rfl | cases hgd
                | 21, ho => cases ho; first | rfl | cases hgd
                | 22, ho => cases ho; first | rfl | cases hgd
                | n + 23, ho => exact absurd ho (by simp)
              case skip =>
                intro i W hi hsel
                match i, hi, hsel with
                | 0, _, hsel => first | exact absurd hsel (by decide) | rfl
                | 1, _, hsel => first | exact absurd hsel (by decide) | rfl
                | 2, _, hsel => first | exact absurd hsel (by decide) | rfl
                | 3, _, hsel => first | exact absurd hsel (by decide) | rfl
                | 4, _, hsel => first | exact absurd hsel (by decide) | rfl
                | 5, _, hsel => first | exact absurd hsel (by decide) | rfl
                | 6, _, hsel => first | exact absurd hsel (by decide) | rfl
                | 7, _, hsel => first | exact absurd hsel (by decide) | rfl
                | 8, _, hsel => first | exact absurd hsel (by decide) | rfl
                | 9, _, hsel => first | exact absurd hsel (by decide) | rfl
                | 10, _, hsel => first | exact absurd hsel (by decide) | rfl
                | 11, _, hsel => first | exact absurd hsel (by decide) | rfl
                | 12, _, hsel => first | exact absurd hsel (by decide) | rfl
                | 13, _, hsel => first | exact absurd hsel (by decide) | rfl
                | 14, _, hsel => first | exact absurd hsel (by decide) | rfl
                | 15, _, hsel => first | exact absurd hsel (by decide) | rfl
                | 16, _, hsel => first | exact absurd hsel (by decide) | rfl
                | 17, _, hsel => first | exact absurd hsel (by decide) | rfl
                | 18, _, hsel => first | exact absurd hsel (by decide) | rfl
                | 19, _, hsel => first | exact absurd hsel (by decide) | rfl
                | 20, _, hsel => first | exact absurd hsel (by decide) | rfl
                | 21, _, hsel => first | exact absurd hsel (by decide) | rfl
                | 22, _, hsel => first | exact absurd hsel (by decide) | rfl
                | n + 23, hi, _ => exact absurd hi (by simp)
              case step =>
                intro f a' W i o ho hsel hpre hbel hrest
                match i, ho, hsel with
                | 0, ho, _ =>
                  cases ho
                  have q17 : a'.tmps.getD 17 undef = .pointer (some ⟨C2, 0, none⟩) := (hrest 17 (by intro i hi; have hi : i < 23 := hi; show 85 + min i 22 ≠ _; omega))
                  have y0 := (show Boxed W C2 3 (.int .i64 (k : Int)) from (hbel.block _ Hbn2.out.lt).trans Hbn2.out).cell
                  have e17 := rg_ev q17
                  exact rg_same (.int .i64 (k : Int)) (by unfold Oper.wp execOp; go_simp; all_goals ((try simp only [e17]); (try go_simp); (try rw [if_pos (by omega)]); (try rw [if_neg (by omega)]); first | done | rfl | exact ⟨rfl, rfl⟩ | trivial)) rfl
                | 1, ho, _ =>
                  cases ho
                  have q12 : a'.tmps.getD 12 undef = .pointer (some ⟨Q, 0, none⟩) := (hrest 12 (by intro i hi; have hi : i < 23 := hi; show 85 + min i 22 ≠ _; omega))
                  have y0 := (show Boxed W Q 63 (.slice (some ⟨g, o, none⟩) N vc) from (hbel.block _ HWX.out.lt).trans HWX.out).cell
                  have e12 := rg_ev q12
                  exact rg_same (.slice (some ⟨g, o, none⟩) N vc) (by unfold Oper.wp execOp; go_simp; all_goals ((try simp only [e12]); (try go_simp); (try rw [if_pos (by omega)]); (try rw [if_neg (by omega)]); first | done | rfl | exact ⟨rfl, rfl⟩ | trivial)) rfl
                | 2, ho, _ =>
                  cases ho
                  have q86 : a'.tmps.getD 86 undef = .slice (some ⟨g, o, none⟩) N vc := (hpre { on := 1, ground := .data } (by simp) rfl)
                  have e86 := rg_ev q86
                  exact rg_same (.int .i64 (N : Int)) (by unfold Oper.wp execOp; go_simp; all_goals ((try simp only [e86]); (try go_simp); (try rw [if_pos (by omega)]); (try rw [if_neg (by omega)]); first | done | rfl | exact ⟨rfl, rfl⟩ | trivial)) rfl
                | 3, ho, _ =>
                  cases ho
                  have q85 : a'.tmps.getD 85 undef = .int .i64 (k : Int) := (hpre { on := 0, ground := .data } (by simp) rfl)
                  have q87 : a'.tmps.getD 87 undef = .int .i64 (N : Int) := (hpre { on := 2, ground := .data } (by simp) rfl)
                  have b0 : decide (N ≤ k) = false := decide_eq_false (by omega)
                  have e85 := rg_ev q85
                  have e87 := rg_ev q87
                  exact rg_same (.bool false) (by unfold Oper.wp execOp; go_simp; all_goals ((try simp only [e85, e87]); (try go_simp); (try rw [if_pos (by omega)]); (try rw [if_neg (by omega)]); first | done | rfl | exact ⟨rfl, rfl⟩ | trivial)) rfl
                | 4, ho, _ =>
                  cases ho
                  have q88 : a'.tmps.getD 88 undef = .bool false := (hpre { on := 3, ground := .data } (by simp) rfl)
                  have e88 := rg_ev q88
                  exact rg_same (.bool false) (by unfold Oper.wp execOp; go_simp; all_goals ((try simp only [e88]); (try go_simp); (try rw [if_pos (by omega)]); (try rw [if_neg (by omega)]); first | done | rfl | exact ⟨rfl, rfl⟩ | trivial)) rfl
                | 5, ho, _ =>
                  cases ho
                  have q18 : a'.tmps.getD 18 undef = .int .i64 (l : Int) := (hrest 18 (by intro i hi; have hi : i < 23 := hi; show 85 + min i 22 ≠ _; omega))
                  have e18 := rg_ev q18
                  exact rg_same (.int .i64 (l : Int)) (by unfold Oper.wp execOp; go_simp; all_goals ((try simp only [e18]); (try go_simp); (try rw [if_pos (by omega)]); (try rw [if_neg (by omega)]); first | done | rfl | exact ⟨rfl, rfl⟩ | trivial)) rfl
                | 6, ho, _ =>
                  cases ho
                  have q12 : a'.tmps.getD 12 undef = .pointer (some ⟨Q, 0, none⟩) := (hrest 12 (by intro i hi; have hi : i < 23 := hi; show 85 + min i 22 ≠ _; omega))
                  have y0 := (show Boxed W Q 63 (.slice (some ⟨g, o, none⟩) N vc) from (hbel.block _ HWX.out.lt).trans HWX.out).cell
                  have e12 := rg_ev q12
                  exact rg_same (.slice (some ⟨g, o, none⟩) N vc) (by unfold Oper.wp execOp; go_simp; all_goals ((try simp only [e12]); (try go_simp); (try rw [if_pos (by omega)]); (try rw [if_neg (by omega)]); first | done | rfl | exact ⟨rfl, rfl⟩ | trivial)) rfl
                | 7, ho, _ =>
                  cases ho
                  have q17 : a'.tmps.getD 17 undef = .pointer (some ⟨C2, 0, none⟩) := (hrest 17 (by intro i hi; have hi : i < 23 := hi; show 85 + min i 22 ≠ _; omega))
                  have y0 := (show Boxed W C2 3 (.int .i64 (k : Int)) from (hbel.block _ Hbn2.out.lt).trans Hbn2.out).cell
                  have e17 := rg_ev q17
                  exact rg_same (.int .i64 (k : Int)) (by unfold Oper.wp execOp; go_simp; all_goals ((try simp only [e17]); (try go_simp); (try rw [if_pos (by omega)]); (try rw [if_neg (by omega)]); first | done | rfl | exact ⟨rfl, rfl⟩ | trivial)) rfl
                | 8, ho, _ =>
                  cases ho
                  have q91 : a'.tmps.getD 91 undef = .slice (some ⟨g, o, none⟩) N vc := (hpre { on := 6, ground := .data } (by simp) rfl)
                  have q92 : a'.tmps.getD 92 undef = .int .i64 (k : Int) := (hpre { on := 7, ground := .data } (by simp) rfl)
                  have e91 := rg_ev q91
                  have e92 := rg_ev q92
                  exact rg_same (.pointer (some ⟨g, o + k * 7, none⟩)) (by unfold Oper.wp execOp; go_simp; all_goals ((try simp only [e91, e92]); (try go_simp); (try rw [if_pos (by omega)]); (try rw [if_neg (by omega)]); first | done | rfl | exact ⟨rfl, rfl⟩ | trivial)) rfl
                | 9, ho, _ =>
                  cases ho
                  have q93 : a'.tmps.getD 93 undef = .pointer (some ⟨g, o + k * 7, none⟩) := (hpre { on := 8, ground := .data } (by simp) rfl)
                  have e93 := rg_ev q93
                  exact rg_same (.pointer (some ⟨g, o + k * 7, none⟩)) (by unfold Oper.wp execOp; go_simp; all_goals ((try simp only [e93]); (try go_simp); (try rw [if_pos (by omega)]); (try rw [if_neg (by omega)]); first | done | rfl | exact ⟨rfl, rfl⟩ | trivial)) rfl
                | 10, ho, _ =>
                  cases ho
                  have q94 : a'.tmps.getD 94 undef = .pointer (some ⟨g, o + k * 7, none⟩) := (hpre { on := 9, ground := .data } (by simp) rfl)
                  have y0 := cell_below hbel HLC.out.c0
                  dsimp only at y0
                  have e94 := rg_ev q94
                  exact rg_same (.int .i64 (l : Int)) (by unfold Oper.wp execOp; go_simp; all_goals ((try simp only [e94]); (try go_simp); (try rw [if_pos (by omega)]); (try rw [if_neg (by omega)]); first | done | rfl | exact ⟨rfl, rfl⟩ | trivial)) rfl
                | 11, ho, _ =>
                  cases ho
                  have q90 : a'.tmps.getD 90 undef = .int .i64 (l : Int) := (hpre { on := 5, ground := .data } (by simp) rfl)
                  have q95 : a'.tmps.getD 95 undef = .int .i64 (l : Int) := (hpre { on := 10, ground := .data } (by simp) rfl)
                  have b0 : ((l : Int) != (l : Int)) = false := by simp
                  have e90 := rg_ev q90
                  have e95 := rg_ev q95
                  exact rg_same (.bool false) (by unfold Oper.wp execOp; go_simp; all_goals ((try simp only [e90, e95]); (try go_simp); (try rw [if_pos (by omega)]); (try rw [if_neg (by omega)]); first | done | rfl | exact ⟨rfl, rfl⟩ | trivial)) rfl
                | 12, ho, _ =>
                  cases ho
                  have q89 : a'.tmps.getD 89 undef = .bool false := (hpre { on := 4, ground := .data } (by simp) rfl)
                  have q96 : a'.tmps.getD 96 undef = .bool false := (hpre { on := 11, ground := .data } (by simp) rfl)
                  have e89 := rg_ev q89
                  have e96 := rg_ev q96
                  exact rg_same (.bool false) (by unfold Oper.wp execOp; go_simp; all_goals ((try simp only [e89, e96]); (try go_simp); (try rw [if_pos (by omega)]); (try rw [if_neg (by omega)]); first | done | rfl | exact ⟨rfl, rfl⟩ | trivial)) rfl
                | 13, ho, _ =>
                  cases ho
                  have q97 : a'.tmps.getD 97 undef = .bool false := (hpre { on := 12, ground := .data } (by simp) rfl)
                  have e97 := rg_ev q97
                  exact rg_same (.bool false) (by unfold Oper.wp execOp; go_simp; all_goals ((try simp only [e97]); (try go_simp); (try rw [if_pos (by omega)]); (try rw [if_neg (by omega)]); first | done | rfl | exact ⟨rfl, rfl⟩ | trivial)) rfl
                | 14, ho, _ =>
                  cases ho
                  have q19 : a'.tmps.getD 19 undef = .pointer (some ⟨R, 0, none⟩) := (hrest 19 (by intro i hi; have hi : i < 23 := hi; show 85 + min i 22 ≠ _; omega))
                  obtain ⟨y0, y1, y2, y3, y4, y5, _⟩ := HSR.out.below hbel
                  have e19 := rg_ev q19
                  exact rg_same (.agg #[.int .i64 x.kind, .int .u64 (x.conn : Int), .int .i64 x.topic, .int .u64 (x.n : Int), .int .u64 (x.draw : Int), .slice p u c]) (by unfold Oper.wp execOp; go_simp; all_goals ((try simp only [e19]); (try go_simp); (try rw [if_pos (by omega)]); (try rw [if_neg (by omega)]); first | done | rfl | exact ⟨rfl, rfl⟩ | trivial)) rfl
                | 15, ho, _ =>
                  cases ho
                  have q12 : a'.tmps.getD 12 undef = .pointer (some ⟨Q, 0, none⟩) := (hrest 12 (by intro i hi; have hi : i < 23 := hi; show 85 + min i 22 ≠ _; omega))
                  have y0 := (show Boxed W Q 63 (.slice (some ⟨g, o, none⟩) N vc) from (hbel.block _ HWX.out.lt).trans HWX.out).cell
                  have e12 := rg_ev q12
                  exact rg_same (.slice (some ⟨g, o, none⟩) N vc) (by unfold Oper.wp execOp; go_simp; all_goals ((try simp only [e12]); (try go_simp); (try rw [if_pos (by omega)]); (try rw [if_neg (by omega)]); first | done | rfl | exact ⟨rfl, rfl⟩ | trivial)) rfl
                | 16, ho, _ =>
                  cases ho
                  have q17 : a'.tmps.getD 17 undef = .pointer (some ⟨C2, 0, none⟩) := (hrest 17 (by intro i hi; have hi : i < 23 := hi; show 85 + min i 22 ≠ _; omega))
                  have y0 := (show Boxed W C2 3 (.int .i64 (k : Int)) from (hbel.block _ Hbn2.out.lt).trans Hbn2.out).cell
                  have e17 := rg_ev q17
                  exact rg_same (.int .i64 (k : Int)) (by unfold Oper.wp execOp; go_simp; all_goals ((try simp only [e17]); (try go_simp); (try rw [if_pos (by omega)]); (try rw [if_neg (by omega)]); first | done | rfl | exact ⟨rfl, rfl⟩ | trivial)) rfl
                | 17, ho, _ =>
                  cases ho
                  have q100 : a'.tmps.getD 100 undef = .slice (some ⟨g, o, none⟩) N vc := (hpre { on := 15, ground := .data } (by simp) rfl)
                  have q101 : a'.tmps.getD 101 undef = .int .i64 (k : Int) := (hpre { on := 16, ground := .data } (by simp) rfl)
                  have e100 := rg_ev q100
                  have e101 := rg_ev q101
                  exact rg_same (.pointer (some ⟨g, o + k * 7, none⟩)) (by unfold Oper.wp execOp; go_simp; all_goals ((try simp only [e100, e101]); (try go_simp); (try rw [if_pos (by omega)]); (try rw [if_neg (by omega)]); first | done | rfl | exact ⟨rfl, rfl⟩ | trivial)) rfl
                | 18, ho, _ =>
                  cases ho
                  have q102 : a'.tmps.getD 102 undef = .pointer (some ⟨g, o + k * 7, none⟩) := (hpre { on := 17, ground := .data } (by simp) rfl)
                  have e102 := rg_ev q102
                  exact rg_same (.pointer (some ⟨g, o + k * 7 + 1, none⟩)) (by unfold Oper.wp execOp; go_simp; all_goals ((try simp only [e102]); (try go_simp); (try rw [if_pos (by omega)]); (try rw [if_neg (by omega)]); first | done | rfl | exact ⟨rfl, rfl⟩ | trivial)) rfl
                | 19, ho, _ =>
                  cases ho
                  have q103 : a'.tmps.getD 103 undef = .pointer (some ⟨g, o + k * 7 + 1, none⟩) := (hpre { on := 18, ground := .data } (by simp) rfl)
                  obtain ⟨_, y0, y1, y2, y3, y4, y5⟩ := HLC.out.below hbel
                  dsimp only at y0 y1 y2 y3 y4 y5
                  have e103 := rg_ev q103
                  exact rg_same (.agg #[.int .i64 x.kind, .int .u64 (x.conn : Int), .int .i64 x.topic, .int .u64 (x.n : Int), .int .u64 (x.draw : Int), .slice p2 n2 c2]) (by unfold Oper.wp execOp; go_simp; all_goals ((try simp only [e103]); (try go_simp); (try rw [if_pos (by omega)]); (try rw [if_neg (by omega)]); first | done | rfl | exact ⟨rfl, rfl⟩ | trivial)) rfl
                | 20, ho, _ =>
                  cases ho
                  have q99 : a'.tmps.getD 99 undef = .agg #[.int .i64 x.kind, .int .u64 (x.conn : Int), .int .i64 x.topic, .int .u64 (x.n : Int), .int .u64 (x.draw : Int), .slice p u c] := (hpre { on := 14, ground := .data } (by simp) rfl)
                  have q104 : a'.tmps.getD 104 undef = .agg #[.int .i64 x.kind, .int .u64 (x.conn : Int), .int .i64 x.topic, .int .u64 (x.n : Int), .int .u64 (x.draw : Int), .slice p2 n2 c2] := (hpre { on := 19, ground := .data } (by simp) rfl)
                  exact rg_call2 99 104 21 _ _ _ _ rfl q99 q104 (enters_of Tryz.func21 (by kernel_rfl) rfl) (KS.out W hbel) (fun e w' h => ⟨_, h.1, _, rfl, rfl, h.2⟩)
                | 21, ho, _ =>
                  cases ho
                  have q105 : a'.tmps.getD 105 undef = .bool true := (hpre { on := 20, ground := .data } (by simp) rfl)
                  have e105 := rg_ev q105
                  exact rg_same (.bool false) (by unfold Oper.wp execOp; go_simp; all_goals ((try simp only [e105]); (try go_simp); (try rw [if_pos (by omega)]); (try rw [if_neg (by omega)]); first | done | rfl | exact ⟨rfl, rfl⟩ | trivial)) rfl
                | 22, ho, _ =>
                  cases ho
                  have q98 : a'.tmps.getD 98 undef = .bool false := (hpre { on := 13, ground := .data } (by simp) rfl)
                  have q106 : a'.tmps.getD 106 undef = .bool false := (hpre { on := 21, ground := .data } (by simp) rfl)
                  have e98 := rg_ev q98
                  have e106 := rg_ev q106
                  exact rg_same (.bool false) (by unfold Oper.wp execOp; go_simp; all_goals ((try simp only [e98, e106]); (try go_simp); (try rw [if_pos (by omega)]); (try rw [if_neg (by omega)]); first | done | rfl | exact ⟨rfl, rfl⟩ | trivial)) rfl
                | n + 23, ho, _ => exact absurd ho (by simp)
              case done =>
                intro vs W hbel hvs
                have v0 : vs 0 = .int .i64 (k : Int) := hvs 0 (by decide)
                have v1 : vs 1 = .slice (some ⟨g, o, none⟩) N vc := hvs 1 (by decide)
                have v2 : vs 2 = .int .i64 (N : Int) := hvs 2 (by decide)
                have v3 : vs 3 = .bool false := hvs 3 (by decide)
                have v4 : vs 4 = .bool false := hvs 4 (by decide)
                have v5 : vs 5 = .int .i64 (l : Int) := hvs 5 (by decide)
                have v6 : vs 6 = .slice (some ⟨g, o, none⟩) N vc := hvs 6 (by decide)
                have v7 : vs 7 = .int .i64 (k : Int) := hvs 7 (by decide)
                have v8 : vs 8 = .pointer (some ⟨g, o + k * 7, none⟩) := hvs 8 (by decide)
                have v9 : vs 9 = .pointer (some ⟨g, o + k * 7, none⟩) := hvs 9 (by decide)
                have v10 : vs 10 = .int .i64 (l : Int) := hvs 10 (by decide)
                have v11 : vs 11 = .bool false := hvs 11 (by decide)
                have v12 : vs 12 = .bool false := hvs 12 (by decide)
                have v13 : vs 13 = .bool false := hvs 13 (by decide)
                have v14 : vs 14 = .agg #[.int .i64 x.kind, .int .u64 (x.conn : Int), .int .i64 x.topic, .int .u64 (x.n : Int), .int .u64 (x.draw : Int), .slice p u c] := hvs 14 (by decide)
                have v15 : vs 15 = .slice (some ⟨g, o, none⟩) N vc := hvs 15 (by decide)
                have v16 : vs 16 = .int .i64 (k : Int) := hvs 16 (by decide)
                have v17 : vs 17 = .pointer (some ⟨g, o + k * 7, none⟩) := hvs 17 (by decide)
                have v18 : vs 18 = .pointer (some ⟨g, o + k * 7 + 1, none⟩) := hvs 18 (by decide)
                have v19 : vs 19 = .agg #[.int .i64 x.kind, .int .u64 (x.conn : Int), .int .i64 x.topic, .int .u64 (x.n : Int), .int .u64 (x.draw : Int), .slice p2 n2 c2] := hvs 19 (by decide)
                have v20 : vs 20 = .bool true := hvs 20 (by decide)
                have v21 : vs 21 = .bool false := hvs 21 (by decide)
                have v22 : vs 22 = .bool false := hvs 22 (by decide)
                have HBR := Lib.hid hbel
                simp only [fillN, List.size_toArray, List.length_cons, List.length_nil, Nat.reduceAdd, show List.range 23 = [0, 1, 2, 3, 4, 5, 6, 7, 8, 9, 10, 11, 12, 13, 14, 15, 16, 17, 18, 19, 20, 21, 22] from rfl, List.foldl_cons, List.foldl_nil, show 85 + min 0 22 = 85 from rfl, show 85 + min 1 22 = 86 from rfl, show 85 + min 2 22 = 87 from rfl, show 85 + min 3 22 = 88 from rfl, show 85 + min 4 22 = 89 from rfl, show 85 + min 5 22 = 90 from rfl, show 85 + min 6 22 = 91 from rfl, show 85 + min 7 22 = 92 from rfl, show 85 + min 8 22 = 93 from rfl, show 85 + min 9 22 = 94 from rfl, show 85 + min 10 22 = 95 from rfl, show 85 + min 11 22 = 96 from rfl, show 85 + min 12 22 = 97 from rfl, show 85 + min 13 22 = 98 from rfl, show 85 + min 14 22 = 99 from rfl, show 85 + min 15 22 = 100 from rfl, show 85 + min 16 22 = 101 from rfl, show 85 + min 17 22 = 102 from rfl, show 85 + min 18 22 = 103 from rfl, show 85 + min 19 22 = 104 from rfl, show 85 + min 20 22 = 105 from rfl, show 85 + min 21 22 = 106 from rfl, show 85 + min 22 22 = 107 from rfl, v0, v1, v2, v3, v4, v5, v6, v7, v8, v9, v10, v11, v12, v13, v14, v15, v16, v17, v18, v19, v20, v21, v22]
                clear v0 v1 v2 v3 v4 v5 v6 v7 v8 v9 v10 v11 v12 v13 v14 v15 v16 v17 v18 v19 v20 v21 v22 hvs hbel
                go_simp
                have HE3 := Lib.hid (HE2.out.trans (HBR.out.mono (by have h := HE2.out.size; have h2 := HTV.out; omega)))
                have HbT3 := Lib.hid (show Boxed W T2 3 (.int .i64 1) from (HBR.out.block _ HbT2.out.lt).trans HbT2.out)
                have Hbn3 := Lib.hid (show Boxed W C2 3 (.int .i64 (k : Int)) from (HBR.out.block _ Hbn2.out.lt).trans Hbn2.out)
                have HK5 := Lib.hid ((HBR.out.block _ (Array.getElem?_eq_some_iff.1 HK4.out).1).trans HK4.out)
                have cn := Hbn3.out.cell
                have fn := Hbn3.out.frozen
                have cT2 := HbT3.out.cell
                have hk601 : ((k : Int) < 601) := by have := HNL.out; omega
                have hKF : KeepsFrom X3.heap.size X W := keeps_below HBR.out
                have hKP : KpE B SB (C2 + 3) X W := KpE.below HBR.out
                have HKF := Lib.hid hKF
                have HKP := Lib.hid hKP
                clear hKF hKP HBR
                gi_wp2
                exact ⟨HKF.out.trans ((KeepsOthers.setCell _ _ _).from _), HKP.out.trans (KpE.setCell _ _ (by omega) (by omega) (by omega)), HE3.out.setCell (p := ⟨C2, 0, none⟩) (by show TV ≤ C2; omega) _, HbT3.out.other (by omega) _, Hbn3.out.set _, (Below.heap_setCell _ _ _ _ (by show D1 ≠ C2; omega)).trans HK5.out⟩
            case all2 => exact fun Y h => h
            case don2 =>
              rintro D2 Y hD2 ⟨hE5, bT5, bn5, K5⟩ hK2
              have HE5 := Lib.hid hE5
              have HbT5 := Lib.hid bT5
              have HK5 := Lib.hid K5
              have HK2 := Lib.hid hK2
              have cn := bn5.cell
              have cT5 := bT5.cell
              have fT5 := bT5.frozen
              have cw := (show Boxed Y Q 63 _ from (hE5.block Q hQT).trans HWQ.out).cell
              have r3 : ((N : Int) != (N : Int)) = false := bne_self_eq_false _
              clear hE5 bT5 bn5 K5 hK2
              gi_wp2_with fail
              rw [roundsIn_succ]
              obtain ⟨Z, hZ⟩ : ∃ Z, Y.alloc (.cells #[.int .i64 2] 3) = Z := ⟨_, rfl⟩
              obtain ⟨T3, hT3⟩ : ∃ T3, Y.heap.size = T3 := ⟨_, rfl⟩
              have hVT : V.heap.size = TV := HTV.out
              have cZ : Z.cell? ⟨T3, 0, none⟩ = some (.int .i64 2) := by rw [← hZ, ← hT3]; exact (Boxed.new _ _ _).cell
              have E6 : Below TV V Z := by rw [← hZ]; exact HE5.out.alloc (by have h := HE5.out.size; omega) _
              have K6 : Z.heap[D1]? = some (.deferred (some [])) := by rw [← hZ]; exact (Below.heap_alloc _ _ _ (Array.getElem?_eq_some_iff.1 HK5.out).1).trans HK5.out
              have K7 : Z.heap[D2]? = some (.deferred (some [])) := by rw [← hZ]; exact (Below.heap_alloc _ _ _ (Array.getElem?_eq_some_iff.1 HK2.out).1).trans HK2.out
              rw [hT3, hZ]
              rw [← hVT] at E6
              have HQZ := Lib.hid (HQV.out.next E6)
              have HK6 := Lib.hid K6
              have HK7 := Lib.hid K7
              have WKZ := Lib.hid (WK.out Z (HK.out.below HQZ.out.hb))
              have hD1s : D1 < T2 := hD1s
              clear hT3 hZ E6 K6 K7 cn cT5 fT5 cw r3 hVT
              gi_wp2_with fail
              go_wp2_with fail
              refine WKZ.out.mono ?_
              rintro e V' ⟨rfl, hbV⟩
              have bR : Boxed V' (B + 1) 4 (.bool false) := (hbV.block _ HQZ.out.r.lt).trans HQZ.out.r
              have K8 : V'.heap[D1]? = some (.deferred (some [])) := (hbV.block _ (Array.getElem?_eq_some_iff.1 HK6.out).1).trans HK6.out
              have K9 : V'.heap[D2]? = some (.deferred (some [])) := (hbV.block _ (Array.getElem?_eq_some_iff.1 HK7.out).1).trans HK7.out
              have bV := HQZ.out.hb.trans (hbV.mono HQZ.out.hb.size)
              have cR := bR.cell
              have fR := bR.frozen
              have HK8 := Lib.hid K8
              have HK9 := Lib.hid K9
              have HbR := Lib.hid bR
              have HbV := Lib.hid bV
              clear bR K8 K9 bV hbV cZ
              first | go_wp2_with fail | skip
              have hBw := HQZ.out.hB
              have hX1 := HS1.out
              have hX3 := HS3.out
              have d1 : B + 1 < D1 := by omega
              have d2 : B + 1 < D2 := by omega
              have d12 : D1 ≠ D2 := by omega
              have L9 : (V'.setCell ⟨B + 1, 0, none⟩ (.bool true)).heap[D2]? = some (.deferred (some [])) := (Below.heap_setCell _ _ _ _ (by show D2 ≠ B + 1; omega)).trans HK9.out
              have L8 : ((V'.setCell ⟨B + 1, 0, none⟩ (.bool true)).putObj D2 (.deferred none)).heap[D1]? = some (.deferred (some [])) := (World.putObj_heap_other d12).trans ((Below.heap_setCell _ _ _ _ (by show D1 ≠ B + 1; omega)).trans HK8.out)
              have L0 : Boxed (((V'.setCell ⟨B + 1, 0, none⟩ (.bool true)).putObj D2 (.deferred none)).putObj D1 (.deferred none)) (B + 1) 4 (.bool true) := (World.putObj_heap_other (by omega)).trans ((World.putObj_heap_other (by omega)).trans (HbR.out.set _))
              have c0 := L0.cell
              refine ⟨by simp, .inl ⟨_, _, rfl, run_takeDeferred L9, ?_⟩⟩
              refine ⟨by simp, .inl ⟨_, _, rfl, run_takeDeferred L8, ?_⟩⟩
              refine ⟨.bool true, ?_, rfl, ?_⟩
              · simp [results, Tryz.results9, go_sem, c0]
              · refine (HbV.out.setCell (p := ⟨B + 1, 0, none⟩) (by show w.heap.size ≤ B + 1; omega) _).trans ((belowK_b (w := w) (Nat.le_refl _) _ D2 _ _ (by omega) L9 rfl rfl).trans (belowK_b (w := w) (Nat.le_refl _) _ D1 _ _ (by omega) L8 rfl rfl))
end Go.Proofs.YtbaakfcbakpmpaaGreatDoor
