/- Texts of this claim, one behind the other: Ud, Ue. -/
import Derived.Test.YtbaakfcbakpmpaaGreatDoorUem6
import Derived.Test.YtbaakfcbakpmpaaGreatDoorUem2
import Derived.Test.YtbaakfcbakpmpaaGreatDoorUem3
/- script: the reference's parse. No conditions but those that each law states. Printed by genUd.py. -/
namespace Go.Proofs.YtbaakfcbakpmpaaGreatDoor
set_option linter.unusedVariables false
set_option linter.unusedSimpArgs false
open Go.RowKit Go.Shelf
set_option maxHeartbeats 8000000
set_option maxRecDepth 100000
/-- what words say, as the reference has it -/
def oneVal (y : Sc.St) : Value := .agg #[.int .u64 (y.n : Int), .int .u64 (y.draw : Int), .int .u64 (y.conn : Int), .int .i64 y.topic, .string ⟨y.bytes.toArray⟩]
def oneObj (y : Sc.St) (yb : ByteArray) : Obj := .cells #[.int .u64 (y.n : Int), .int .u64 (y.draw : Int), .int .u64 (y.conn : Int), .int .i64 y.topic, .string yb] 92 (0, 0)
structure OneR (w : World) (R : Nat) (y : Sc.St) (yb : ByteArray) : Prop where
  c0 : w.cell? ⟨R, 0, none⟩ = some (.int .u64 (y.n : Int))
  c1 : w.cell? ⟨R, 1, none⟩ = some (.int .u64 (y.draw : Int))
  c2 : w.cell? ⟨R, 2, none⟩ = some (.int .u64 (y.conn : Int))
  c3 : w.cell? ⟨R, 3, none⟩ = some (.int .i64 y.topic)
  c4 : w.cell? ⟨R, 4, none⟩ = some (.string yb)
  fr : ∀ i, w.frozen? ⟨R, i, none⟩ = false
theorem OneR.of {w : World} {R : Nat} {y : Sc.St} {yb : ByteArray} (h : w.heap[R]? = some (oneObj y yb)) : OneR w R y yb := by
  unfold oneObj at h
  refine ⟨?_, ?_, ?_, ?_, ?_, fun i => frozen_of_row _ _ _ _ _ h⟩ <;> simp [World.cell?, h]
theorem one_end {w W W' : World} {A : Nat} {z y : Sc.St} {zb yb : ByteArray} (hr : W.heap[A]? = some (oneObj z zb)) (hb : Below w.heap.size w W) (hA : w.heap.size ≤ A)
    (hW : ((((W.setCell ⟨A, 0, none⟩ (.int .u64 (y.n : Int))).setCell ⟨A, 1, none⟩ (.int .u64 (y.draw : Int))).setCell ⟨A, 2, none⟩ (.int .u64 (y.conn : Int))).setCell ⟨A, 3, none⟩ (.int .i64 y.topic)).setCell ⟨A, 4, none⟩ (.string yb) = W') : OneR W' A y yb ∧ Below w.heap.size w W' := by
  unfold oneObj at hr
  have h1 := heap_setCell_same W A 0 _ _ (.int .u64 (y.n : Int)) hr
  have h2 := heap_setCell_same _ A 1 _ _ (.int .u64 (y.draw : Int)) h1
  have h3 := heap_setCell_same _ A 2 _ _ (.int .u64 (y.conn : Int)) h2
  have h4 := heap_setCell_same _ A 3 _ _ (.int .i64 y.topic) h3
  have h5 := heap_setCell_same _ A 4 _ _ (.string yb) h4
  rw [hW] at h5
  refine ⟨OneR.of (by rw [h5]; unfold oneObj; simp), ?_⟩
  rw [← hW]
  exact ((((hb.setCell (p := ⟨A, 0, none⟩) hA _).setCell (p := ⟨A, 1, none⟩) hA _).setCell (p := ⟨A, 2, none⟩) hA _).setCell (p := ⟨A, 3, none⟩) hA _).setCell (p := ⟨A, 4, none⟩) hA _
/-- words that lie so -/
def WsAt (w : World) (p : Option Addr) (ws : List (List UInt8)) : Prop := ws.length = 0 ∨ ∃ g o, p = some ⟨g, o, none⟩ ∧ ∀ j, j < ws.length → w.cell? ⟨g, o + j, none⟩ = some (tx (ws.getD j []))
theorem WsAt.below {w w' : World} {p : Option Addr} {ws : List (List UInt8)} (h : WsAt w p ws) (hb : Below w.heap.size w w') : WsAt w' p ws := h.imp id (fun ⟨g, o, h1, h2⟩ => ⟨g, o, h1, fun j hj => cell_below hb (h2 j hj)⟩)
def rpY (g : Nat) (o j m c : Nat) (bb eb tb sb : ByteArray) : Nat → World → Value → Prop
  | 0, _, v => v = .int .i64 0
  | 1, _, v => v = .bool false
  | 2, _, v => v = .bool false
  | 3, _, v => v = .string bb
  | 4, _, v => v = .string eb
  | 5, _, v => v = .slice (some ⟨g, o, none⟩) m c
  | 6, _, v => v = .int .i64 (j : Int)
  | 7, _, v => v = .pointer (some ⟨g, o + j, none⟩)
  | 8, _, v => v = .string tb
  | 9, _, v => v = .string sb
  | 10, _, v => v = .bool (!(eb.toList == sb.toList))
  | 11, _, v => v = .bool (!(eb.toList == sb.toList))
  | _, _, _ => False
def rpN  : Nat → World → Value → Prop
  | 0, _, v => v = .int .i64 210
  | 1, _, v => v = .bool true
  | 2, _, v => v = .bool true
  | 3, _, v => v = undef
  | 4, _, v => v = undef
  | 5, _, v => v = undef
  | 6, _, v => v = undef
  | 7, _, v => v = undef
  | 8, _, v => v = undef
  | 9, _, v => v = undef
  | 10, _, v => v = undef
  | 11, _, v => v = .bool true
  | _, _, _ => False
theorem rf_parse (ps : ByteArray) (p : Option Addr) (n c : Nat) (ws : List (List UInt8)) (w : World) (hn : ws.length = n) (hw : WsAt w p ws) (hps : ∀ q ∈ ps.data.toList, Sc.isP q) (hpl : ps.size ≤ 3) (hws : ∀ t ∈ ws, t.length ≤ 50000) (hnl : n ≤ 60000) :
    Calls Tryz.prog 50 #[.string ps, .slice p n c] w fun e w' => ∃ one, e = .returned (.tuple #[one, .bool (Sc.reads ps.data.toList ws Sc.St.zero).isSome]) ∧ (∃ y, one = oneVal y) ∧ (∀ y, Sc.reads ps.data.toList ws Sc.St.zero = some y → one = oneVal y) ∧ Below w.heap.size w w' := by
  obtain ⟨A, hA⟩ : ∃ z, w.heap.size = z := ⟨_, rfl⟩
  obtain ⟨W, hW⟩ : ∃ z, (w.alloc (.cells #[.int .u64 0, .int .u64 0, .int .u64 0, .int .i64 0, .string ⟨#[]⟩] 92)).alloc (.cells #[.int .u64 0, .int .u64 0, .int .u64 0, .int .i64 0, .string ⟨#[]⟩] 92) = z := ⟨_, rfl⟩
  have hb : Below w.heap.size w W := by rw [← hW]; exact ((Below.refl _ _).alloc (Nat.le_refl _) _).alloc (by simp) _
  have hr0 : W.heap[A]? = some (oneObj Sc.St.zero ⟨#[]⟩) := by rw [← hW, Below.heap_alloc _ _ _ (by simp [hA]), ← hA]; exact World.alloc_heap_new _ _
  have hr1 : W.heap[A + 1]? = some (oneObj Sc.St.zero ⟨#[]⟩) := by
    rw [← hW]
    have h := World.alloc_heap_new (w.alloc (.cells #[.int .u64 0, .int .u64 0, .int .u64 0, .int .i64 0, .string ⟨#[]⟩] 92)) (.cells #[.int .u64 0, .int .u64 0, .int .u64 0, .int .i64 0, .string ⟨#[]⟩] 92)
    have h2 : w.heap.size + 1 = A + 1 := by rw [hA]
    rw [World.size_alloc, h2] at h
    exact h
  obtain ⟨L, hL⟩ : ∃ z, ps.data.toList = z := ⟨_, rfl⟩
  obtain ⟨r, hrr⟩ : ∃ z, Sc.reads L ws Sc.St.zero = z := ⟨_, rfl⟩
  rw [hL, hrr]
  have HL := Lib.hid hL
  have HRR := Lib.hid hrr
  have HB := Lib.hid hb
  have HAA := Lib.hid hA
  have HW := Lib.hid hW
  have HN := Lib.hid hn
  have HWS0 := Lib.hid hw
  have HPS := Lib.hid hps
  have HWL := Lib.hid hws
  have HR0 := Lib.hid hr0
  have HR1 := Lib.hid hr1
  clear hA hW hb hr0 hr1 hL hrr hn hw hps hws
  go_enter Tryz.func50, Tryz.ntmps50
  go_upto_region 2 with (fail)
  rw [HAA.out, HW.out]
  obtain ⟨m, hm⟩ : ∃ z, ps.size = z := ⟨_, rfl⟩
  have HLM := Lib.hid (show L.length = m by rw [← HL.out, ← hm]; simp)
  have HMM := Lib.hid hm
  by_cases hlen : n = m
  · obtain rfl : m = n := hlen.symm
    have q0 : ((m : Int) != (m : Int)) = false := by simp
    go_wp2_with fail
    go_loopw [7] (fun i wr => ∃ (j : Nat) (y : Sc.St) (yb : ByteArray), j ≤ m ∧ i = .int .i64 j ∧ Sc.reads L ws Sc.St.zero = Sc.reads (L.drop j) (ws.drop j) y ∧ yb.data.toList = y.bytes ∧ wr.heap[A + 1]? = some (oneObj y yb) ∧ wr.heap[A]? = some (oneObj Sc.St.zero ⟨#[]⟩) ∧ Below w.heap.size w wr) (fun i _ => m - (intOf i).toNat)
    case atStart => exact ⟨0, Sc.St.zero, ⟨#[]⟩, Nat.zero_le _, rfl, rfl, rfl, HR1.out, HR0.out, HB.out⟩
    case round =>
      obtain ⟨j, y, yb, hj, rfl, hrd, hyb, hr1, hr0, hbw⟩ := hrel
      have HRD := Lib.hid hrd
      have HYB := Lib.hid hyb
      have HA1 := Lib.hid hr1
      have HA0 := Lib.hid hr0
      have HBW := Lib.hid hbw
      obtain ⟨c0, c1, c2, c3, c4, frC⟩ := OneR.of hr1
      have g0 := frC 0
      have g1 := frC 1
      have g2 := frC 2
      have g3 := frC 3
      have g4 := frC 4
      clear hrd hyb hr1 hr0 hbw frC
      by_cases hlt : j < m
      · have hI : (j : Int) < (m : Int) := by omega
        have hjL : j < L.length := by rw [HLM.out]; exact hlt
        have hjw : j < ws.length := by rw [HN.out]; exact hlt
        have hixx : ∀ c : UInt8, L[j] = c → ∀ W, (Instr.index 9 (.string ps) (.int .i64 (j : Int))).run Tryz.prog W = .ok (.int .u8 (c.toNat : Int)) W := fun c hc W => by
          have hjs : j < ps.size := by rw [HMM.out]; exact hlt
          have h1 := dec_index_at0 ps W j hjs
          have h2 : ps[j]'hjs = c := by
            have h3 : ps.data.toList[j]? = some c := by rw [HL.out, List.getElem?_eq_getElem hjL, hc]
            rw [Array.getElem?_toList] at h3
            obtain ⟨h4, h5⟩ := Array.getElem?_eq_some_iff.1 h3
            exact h5
          rw [h2] at h1
          exact h1
        obtain ⟨g, o, rfl, hc⟩ : ∃ g o, p = some ⟨g, o, none⟩ ∧ ∀ j, j < ws.length → w.cell? ⟨g, o + j, none⟩ = some (tx (ws.getD j [])) := by
          rcases HWS0.out with h | h
          · omega
          · exact h
        obtain ⟨t, ht⟩ : ∃ z, ws.getD j [] = z := ⟨_, rfl⟩
        have hct := cell_below HBW.out (hc j hjw)
        rw [ht] at hct
        unfold tx at hct
        have HTL := Lib.hid (show t.length ≤ 50000 from HWL.out t (by rw [← ht, List.getD_eq_getElem?_getD, List.getElem?_eq_getElem hjw]; exact List.getElem_mem hjw))
        have HST := Lib.hid (show r = (Sc.read1 L[j] t y).bind (Sc.reads (L.drop (j + 1)) (ws.drop (j + 1))) by
          rw [← HRR.out, HRD.out, List.drop_eq_getElem_cons hjL, List.drop_eq_getElem_cons hjw, ← ht, List.getD_eq_getElem?_getD, List.getElem?_eq_getElem hjw]
          rfl)
        obtain ⟨tb, htb⟩ : ∃ z : ByteArray, (⟨t.toArray⟩ : ByteArray) = z := ⟨_, rfl⟩
        rw [htb] at hct
        have htd : tb.data.toList = t := by rw [← htb]
        have HTD := Lib.hid htd
        have htz : tb.size ≤ 50000 := by
          have h := HTL.out
          have h2 : tb.data.toList.length = tb.size := by simp
          rw [htd] at h2
          omega
        have hgo : (o : Int) + (j : Int) = ((o + j : Nat) : Int) := by omega
        have HC := Lib.hid hc
        clear hc ht htb htd
        rcases HPS.out L[j] (by rw [HL.out]; exact List.getElem_mem hjL) with hp | hp | hp | hp | hp
        · have hix := hixx 78 hp
          have KP := Lib.hid (ref_parse tb wr (by omega))
          have hst := HST.out
          rw [hp] at hst
          obtain ⟨pe, hpe⟩ : ∃ z, Dp.parE t = z := ⟨_, rfl⟩
          obtain ⟨pn, hpn⟩ : ∃ z, Dp.parN t = z := ⟨_, rfl⟩
          rw [HTD.out, hpe, hpn] at KP
          clear hixx hp
          by_cases hp0 : pe = 0
          · subst hp0
            obtain ⟨_, pb1, pb2⟩ := Dp.digs_par hpe
            rw [hpn] at pb1 pb2
            obtain ⟨pm, rfl⟩ : ∃ q : Nat, pn = (q : Int) := ⟨pn.toNat, by omega⟩
            have HR2 := Lib.hid (show Sc.reads L ws Sc.St.zero = Sc.reads (L.drop (j + 1)) (ws.drop (j + 1)) { y with n := pm } by
              rw [HRR.out, hst, show Sc.read1 78 t y = some { y with n := pm } by unfold Sc.read1; rw [if_neg (by decide), hpe, if_pos rfl, if_neg (by decide), if_pos rfl, hpn]; rfl]
              rfl)
            have HRW := Lib.hid (show (wr.setCell ⟨A + 1, 0, none⟩ (.int .u64 (pm : Int))).heap[A + 1]? = some (oneObj { y with n := pm } yb) by
              have h := HA1.out
              unfold oneObj at h ⊢
              rw [heap_setCell_same wr (A + 1) 0 _ _ _ h]; simp)
            have HRA := Lib.hid (show (wr.setCell ⟨A + 1, 0, none⟩ (.int .u64 (pm : Int))).heap[A]? = some (oneObj Sc.St.zero ⟨#[]⟩) from (Below.heap_setCell _ _ _ _ (by show A ≠ A + 1; omega)).trans HA0.out)
            have HRB := Lib.hid (show Below w.heap.size w (wr.setCell ⟨A + 1, 0, none⟩ (.int .u64 (pm : Int))) from HBW.out.setCell (p := ⟨A + 1, 0, none⟩) (by rw [HAA.out]; show A ≤ A + 1; omega) _)
            clear hst hpe hpn
            go_wp2_with fail
            refine KP.out.mono ?_
            rintro e w2 ⟨rfl, rfl⟩
            go_wp2_with fail
            go_roundw
            case rel => exact ⟨j + 1, { y with n := pm }, yb, hlt, by go_num, HR2.out, HYB.out, HRW.out, HRA.out, HRB.out⟩
            case measure => simp [intOf]; omega
          · have q1 : (pe != 0) = true := by rw [bne_iff_ne]; exact hp0
            have HNO := Lib.hid (show r = none by rw [hst]; unfold Sc.read1; rw [if_neg (by decide), hpe, if_neg hp0]; rfl)
            clear hst hpe hpn hp0
            obtain ⟨d0, d1, d2, d3, d4, fr⟩ := OneR.of HA0.out
            have f0 := fr 0
            have f1 := fr 1
            have f2 := fr 2
            have f3 := fr 3
            have f4 := fr 4
            clear fr
            go_wp2_with fail
            refine KP.out.mono ?_
            rintro e w2 ⟨rfl, rfl⟩
            go_wp2_with fail
            obtain ⟨W9, h9⟩ : ∃ z, ((((wr.setCell ⟨A, 0, none⟩ (.int .u64 (y.n : Int))).setCell ⟨A, 1, none⟩ (.int .u64 (y.draw : Int))).setCell ⟨A, 2, none⟩ (.int .u64 (y.conn : Int))).setCell ⟨A, 3, none⟩ (.int .i64 y.topic)).setCell ⟨A, 4, none⟩ (.string yb) = z := ⟨_, rfl⟩
            rw [h9]
            obtain ⟨⟨x0, x1, x2, x3, x4, _⟩, hb9⟩ := one_end HA0.out HBW.out (Nat.le_of_eq HAA.out) h9
            have HB9 := Lib.hid hb9
            clear h9 hb9 c0 c1 c2 c3 c4 d0 d1 d2 d3 d4 f0 f1 f2 f3 f4
            simp [bodyPost, results, Tryz.results50, go_sem, x0, x1, x2, x3, x4]
            rw [HNO.out]
            exact ⟨_, ⟨rfl, rfl⟩, ⟨y, by unfold oneVal; rw [← HYB.out, ba_eta]⟩, fun y h => (by cases h), HB9.out⟩
        · have hix := hixx 68 hp
          have KP := Lib.hid (ref_parse tb wr (by omega))
          have hst := HST.out
          rw [hp] at hst
          obtain ⟨pe, hpe⟩ : ∃ z, Dp.parE t = z := ⟨_, rfl⟩
          obtain ⟨pn, hpn⟩ : ∃ z, Dp.parN t = z := ⟨_, rfl⟩
          rw [HTD.out, hpe, hpn] at KP
          clear hixx hp
          by_cases hp0 : pe = 0
          · subst hp0
            obtain ⟨_, pb1, pb2⟩ := Dp.digs_par hpe
            rw [hpn] at pb1 pb2
            obtain ⟨pm, rfl⟩ : ∃ q : Nat, pn = (q : Int) := ⟨pn.toNat, by omega⟩
            have HR2 := Lib.hid (show Sc.reads L ws Sc.St.zero = Sc.reads (L.drop (j + 1)) (ws.drop (j + 1)) { y with draw := pm } by
              rw [HRR.out, hst, show Sc.read1 68 t y = some { y with draw := pm } by unfold Sc.read1; rw [if_neg (by decide), hpe, if_pos rfl, if_neg (by decide), if_neg (by decide), if_pos rfl, hpn]; rfl]
              rfl)
            have HRW := Lib.hid (show (wr.setCell ⟨A + 1, 1, none⟩ (.int .u64 (pm : Int))).heap[A + 1]? = some (oneObj { y with draw := pm } yb) by
              have h := HA1.out
              unfold oneObj at h ⊢
              rw [heap_setCell_same wr (A + 1) 1 _ _ _ h]; simp)
            have HRA := Lib.hid (show (wr.setCell ⟨A + 1, 1, none⟩ (.int .u64 (pm : Int))).heap[A]? = some (oneObj Sc.St.zero ⟨#[]⟩) from (Below.heap_setCell _ _ _ _ (by show A ≠ A + 1; omega)).trans HA0.out)
            have HRB := Lib.hid (show Below w.heap.size w (wr.setCell ⟨A + 1, 1, none⟩ (.int .u64 (pm : Int))) from HBW.out.setCell (p := ⟨A + 1, 1, none⟩) (by rw [HAA.out]; show A ≤ A + 1; omega) _)
            clear hst hpe hpn
            go_wp2_with fail
            refine KP.out.mono ?_
            rintro e w2 ⟨rfl, rfl⟩
            go_wp2_with fail
            go_roundw
            case rel => exact ⟨j + 1, { y with draw := pm }, yb, hlt, by go_num, HR2.out, HYB.out, HRW.out, HRA.out, HRB.out⟩
            case measure => simp [intOf]; omega
          · have q1 : (pe != 0) = true := by rw [bne_iff_ne]; exact hp0
            have HNO := Lib.hid (show r = none by rw [hst]; unfold Sc.read1; rw [if_neg (by decide), hpe, if_neg hp0]; rfl)
            clear hst hpe hpn hp0
            obtain ⟨d0, d1, d2, d3, d4, fr⟩ := OneR.of HA0.out
            have f0 := fr 0
            have f1 := fr 1
            have f2 := fr 2
            have f3 := fr 3
            have f4 := fr 4
            clear fr
            go_wp2_with fail
            refine KP.out.mono ?_
            rintro e w2 ⟨rfl, rfl⟩
            go_wp2_with fail
            obtain ⟨W9, h9⟩ : ∃ z, ((((wr.setCell ⟨A, 0, none⟩ (.int .u64 (y.n : Int))).setCell ⟨A, 1, none⟩ (.int .u64 (y.draw : Int))).setCell ⟨A, 2, none⟩ (.int .u64 (y.conn : Int))).setCell ⟨A, 3, none⟩ (.int .i64 y.topic)).setCell ⟨A, 4, none⟩ (.string yb) = z := ⟨_, rfl⟩
            rw [h9]
            obtain ⟨⟨x0, x1, x2, x3, x4, _⟩, hb9⟩ := one_end HA0.out HBW.out (Nat.le_of_eq HAA.out) h9
            have HB9 := Lib.hid hb9
            clear h9 hb9 c0 c1 c2 c3 c4 d0 d1 d2 d3 d4 f0 f1 f2 f3 f4
            simp [bodyPost, results, Tryz.results50, go_sem, x0, x1, x2, x3, x4]
            rw [HNO.out]
            exact ⟨_, ⟨rfl, rfl⟩, ⟨y, by unfold oneVal; rw [← HYB.out, ba_eta]⟩, fun y h => (by cases h), HB9.out⟩
        · have hix := hixx 67 hp
          have KP := Lib.hid (ref_parse tb wr (by omega))
          have hst := HST.out
          rw [hp] at hst
          obtain ⟨pe, hpe⟩ : ∃ z, Dp.parE t = z := ⟨_, rfl⟩
          obtain ⟨pn, hpn⟩ : ∃ z, Dp.parN t = z := ⟨_, rfl⟩
          rw [HTD.out, hpe, hpn] at KP
          clear hixx hp
          by_cases hp0 : pe = 0
          · subst hp0
            obtain ⟨_, pb1, pb2⟩ := Dp.digs_par hpe
            rw [hpn] at pb1 pb2
            obtain ⟨pm, rfl⟩ : ∃ q : Nat, pn = (q : Int) := ⟨pn.toNat, by omega⟩
            have HR2 := Lib.hid (show Sc.reads L ws Sc.St.zero = Sc.reads (L.drop (j + 1)) (ws.drop (j + 1)) { y with conn := pm } by
              rw [HRR.out, hst, show Sc.read1 67 t y = some { y with conn := pm } by unfold Sc.read1; rw [if_neg (by decide), hpe, if_pos rfl, if_neg (by decide), if_neg (by decide), if_neg (by decide), hpn]; rfl]
              rfl)
            have HRW := Lib.hid (show (wr.setCell ⟨A + 1, 2, none⟩ (.int .u64 (pm : Int))).heap[A + 1]? = some (oneObj { y with conn := pm } yb) by
              have h := HA1.out
              unfold oneObj at h ⊢
              rw [heap_setCell_same wr (A + 1) 2 _ _ _ h]; simp)
            have HRA := Lib.hid (show (wr.setCell ⟨A + 1, 2, none⟩ (.int .u64 (pm : Int))).heap[A]? = some (oneObj Sc.St.zero ⟨#[]⟩) from (Below.heap_setCell _ _ _ _ (by show A ≠ A + 1; omega)).trans HA0.out)
            have HRB := Lib.hid (show Below w.heap.size w (wr.setCell ⟨A + 1, 2, none⟩ (.int .u64 (pm : Int))) from HBW.out.setCell (p := ⟨A + 1, 2, none⟩) (by rw [HAA.out]; show A ≤ A + 1; omega) _)
            clear hst hpe hpn
            go_wp2_with fail
            refine KP.out.mono ?_
            rintro e w2 ⟨rfl, rfl⟩
            go_wp2_with fail
            go_roundw
            case rel => exact ⟨j + 1, { y with conn := pm }, yb, hlt, by go_num, HR2.out, HYB.out, HRW.out, HRA.out, HRB.out⟩
            case measure => simp [intOf]; omega
          · have q1 : (pe != 0) = true := by rw [bne_iff_ne]; exact hp0
            have HNO := Lib.hid (show r = none by rw [hst]; unfold Sc.read1; rw [if_neg (by decide), hpe, if_neg hp0]; rfl)
            clear hst hpe hpn hp0
            obtain ⟨d0, d1, d2, d3, d4, fr⟩ := OneR.of HA0.out
            have f0 := fr 0
            have f1 := fr 1
            have f2 := fr 2
            have f3 := fr 3
            have f4 := fr 4
            clear fr
            go_wp2_with fail
            refine KP.out.mono ?_
            rintro e w2 ⟨rfl, rfl⟩
            go_wp2_with fail
            obtain ⟨W9, h9⟩ : ∃ z, ((((wr.setCell ⟨A, 0, none⟩ (.int .u64 (y.n : Int))).setCell ⟨A, 1, none⟩ (.int .u64 (y.draw : Int))).setCell ⟨A, 2, none⟩ (.int .u64 (y.conn : Int))).setCell ⟨A, 3, none⟩ (.int .i64 y.topic)).setCell ⟨A, 4, none⟩ (.string yb) = z := ⟨_, rfl⟩
            rw [h9]
            obtain ⟨⟨x0, x1, x2, x3, x4, _⟩, hb9⟩ := one_end HA0.out HBW.out (Nat.le_of_eq HAA.out) h9
            have HB9 := Lib.hid hb9
            clear h9 hb9 c0 c1 c2 c3 c4 d0 d1 d2 d3 d4 f0 f1 f2 f3 f4
            simp [bodyPost, results, Tryz.results50, go_sem, x0, x1, x2, x3, x4]
            rw [HNO.out]
            exact ⟨_, ⟨rfl, rfl⟩, ⟨y, by unfold oneVal; rw [← HYB.out, ba_eta]⟩, fun y h => (by cases h), HB9.out⟩
        · have hix := hixx 84 hp
          have KP := Lib.hid (ref_parse tb wr (by omega))
          have hst := HST.out
          rw [hp] at hst
          obtain ⟨pe, hpe⟩ : ∃ z, Dp.parE t = z := ⟨_, rfl⟩
          obtain ⟨pn, hpn⟩ : ∃ z, Dp.parN t = z := ⟨_, rfl⟩
          rw [HTD.out, hpe, hpn] at KP
          clear hixx hp
          by_cases hp0 : pe = 0
          · subst hp0
            obtain ⟨_, pb1, pb2⟩ := Dp.digs_par hpe
            rw [hpn] at pb1 pb2
            obtain ⟨pm, rfl⟩ : ∃ q : Nat, pn = (q : Int) := ⟨pn.toNat, by omega⟩
            by_cases hpm : (pm : Int) ≤ 2147483647
            · have hm1 : ¬ (2147483647 : Int) < (pm : Int) := by omega
              have hcv : ∀ W, (convert 23 3 (.int .u64 (pm : Int))).run Tryz.prog W = .ok (.int .i64 (pm : Int)) W := fun W => by
                simp [go_sem, convert, Tryz.underlying3, Tryz.underlying23, IntKind.wrap, IntKind.bits, IntKind.signed]
                omega
              have HR2 := Lib.hid (show Sc.reads L ws Sc.St.zero = Sc.reads (L.drop (j + 1)) (ws.drop (j + 1)) { y with topic := (pm : Int) } by
                rw [HRR.out, hst, show Sc.read1 84 t y = some { y with topic := (pm : Int) } by unfold Sc.read1; rw [if_neg (by decide), hpe, if_pos rfl, if_pos rfl, hpn, if_pos hpm]]
                rfl)
              have HRW := Lib.hid (show (wr.setCell ⟨A + 1, 3, none⟩ (.int .i64 (pm : Int))).heap[A + 1]? = some (oneObj { y with topic := (pm : Int) } yb) by
                have h := HA1.out
                unfold oneObj at h ⊢
                rw [heap_setCell_same wr (A + 1) 3 _ _ _ h]; simp)
              have HRA := Lib.hid (show (wr.setCell ⟨A + 1, 3, none⟩ (.int .i64 (pm : Int))).heap[A]? = some (oneObj Sc.St.zero ⟨#[]⟩) from (Below.heap_setCell _ _ _ _ (by show A ≠ A + 1; omega)).trans HA0.out)
              have HRB := Lib.hid (show Below w.heap.size w (wr.setCell ⟨A + 1, 3, none⟩ (.int .i64 (pm : Int))) from HBW.out.setCell (p := ⟨A + 1, 3, none⟩) (by rw [HAA.out]; show A ≤ A + 1; omega) _)
              clear hst hpe hpn pb1 pb2
              go_wp2_with fail
              refine KP.out.mono ?_
              rintro e w2 ⟨rfl, rfl⟩
              go_wp2_with fail
              go_roundw
              case rel => exact ⟨j + 1, { y with topic := (pm : Int) }, yb, hlt, by go_num, HR2.out, HYB.out, HRW.out, HRA.out, HRB.out⟩
              case measure => simp [intOf]; omega
            · have hm1 : (2147483647 : Int) < (pm : Int) := by omega
              have HNO := Lib.hid (show r = none by rw [hst]; unfold Sc.read1; rw [if_neg (by decide), hpe, if_pos rfl, if_pos rfl, hpn, if_neg hpm]; rfl)
              clear hst hpe hpn hpm
              obtain ⟨d0, d1, d2, d3, d4, fr⟩ := OneR.of HA0.out
              have f0 := fr 0
              have f1 := fr 1
              have f2 := fr 2
              have f3 := fr 3
              have f4 := fr 4
              clear fr
              go_wp2_with fail
              refine KP.out.mono ?_
              rintro e w2 ⟨rfl, rfl⟩
              go_wp2_with fail
              obtain ⟨W9, h9⟩ : ∃ z, ((((wr.setCell ⟨A, 0, none⟩ (.int .u64 (y.n : Int))).setCell ⟨A, 1, none⟩ (.int .u64 (y.draw : Int))).setCell ⟨A, 2, none⟩ (.int .u64 (y.conn : Int))).setCell ⟨A, 3, none⟩ (.int .i64 y.topic)).setCell ⟨A, 4, none⟩ (.string yb) = z := ⟨_, rfl⟩
              rw [h9]
              obtain ⟨⟨x0, x1, x2, x3, x4, _⟩, hb9⟩ := one_end HA0.out HBW.out (Nat.le_of_eq HAA.out) h9
              have HB9 := Lib.hid hb9
              clear h9 hb9 c0 c1 c2 c3 c4 d0 d1 d2 d3 d4 f0 f1 f2 f3 f4
              simp [bodyPost, results, Tryz.results50, go_sem, x0, x1, x2, x3, x4]
              rw [HNO.out]
              exact ⟨_, ⟨rfl, rfl⟩, ⟨y, by unfold oneVal; rw [← HYB.out, ba_eta]⟩, fun y h => (by cases h), HB9.out⟩
          · have q1 : (pe != 0) = true := by rw [bne_iff_ne]; exact hp0
            have HNO := Lib.hid (show r = none by rw [hst]; unfold Sc.read1; rw [if_neg (by decide), hpe, if_neg hp0]; rfl)
            clear hst hpe hpn hp0
            obtain ⟨d0, d1, d2, d3, d4, fr⟩ := OneR.of HA0.out
            have f0 := fr 0
            have f1 := fr 1
            have f2 := fr 2
            have f3 := fr 3
            have f4 := fr 4
            clear fr
            go_wp2_with fail
            refine KP.out.mono ?_
            rintro e w2 ⟨rfl, rfl⟩
            go_wp2_with fail
            obtain ⟨W9, h9⟩ : ∃ z, ((((wr.setCell ⟨A, 0, none⟩ (.int .u64 (y.n : Int))).setCell ⟨A, 1, none⟩ (.int .u64 (y.draw : Int))).setCell ⟨A, 2, none⟩ (.int .u64 (y.conn : Int))).setCell ⟨A, 3, none⟩ (.int .i64 y.topic)).setCell ⟨A, 4, none⟩ (.string yb) = z := ⟨_, rfl⟩
            rw [h9]
            obtain ⟨⟨x0, x1, x2, x3, x4, _⟩, hb9⟩ := one_end HA0.out HBW.out (Nat.le_of_eq HAA.out) h9
            have HB9 := Lib.hid hb9
            clear h9 hb9 c0 c1 c2 c3 c4 d0 d1 d2 d3 d4 f0 f1 f2 f3 f4
            simp [bodyPost, results, Tryz.results50, go_sem, x0, x1, x2, x3, x4]
            rw [HNO.out]
            exact ⟨_, ⟨rfl, rfl⟩, ⟨y, by unfold oneVal; rw [← HYB.out, ba_eta]⟩, fun y h => (by cases h), HB9.out⟩
        · have hst := HST.out
          rw [hp] at hst
          have hix := hixx 66 hp
          clear hixx hp
          cases t with
          | nil =>
            have q1 : ((tb.size : Int) == 0) = true := by
              have h := HTD.out
              have h2 : tb.data.toList.length = tb.size := by simp
              rw [h] at h2
              rw [beq_iff_eq, ← h2]; rfl
            have HNO := Lib.hid (show r = none by rw [hst]; rfl)
            clear hst
            obtain ⟨d0, d1, d2, d3, d4, fr⟩ := OneR.of HA0.out
            have f0 := fr 0
            have f1 := fr 1
            have f2 := fr 2
            have f3 := fr 3
            have f4 := fr 4
            clear fr
            go_wp2_with fail
            obtain ⟨W9, h9⟩ : ∃ z, ((((wr.setCell ⟨A, 0, none⟩ (.int .u64 (y.n : Int))).setCell ⟨A, 1, none⟩ (.int .u64 (y.draw : Int))).setCell ⟨A, 2, none⟩ (.int .u64 (y.conn : Int))).setCell ⟨A, 3, none⟩ (.int .i64 y.topic)).setCell ⟨A, 4, none⟩ (.string yb) = z := ⟨_, rfl⟩
            rw [h9]
            obtain ⟨⟨x0, x1, x2, x3, x4, _⟩, hb9⟩ := one_end HA0.out HBW.out (Nat.le_of_eq HAA.out) h9
            have HB9 := Lib.hid hb9
            clear h9 hb9 c0 c1 c2 c3 c4 d0 d1 d2 d3 d4 f0 f1 f2 f3 f4
            simp [bodyPost, results, Tryz.results50, go_sem, x0, x1, x2, x3, x4]
            rw [HNO.out]
            exact ⟨_, ⟨rfl, rfl⟩, ⟨y, by unfold oneVal; rw [← HYB.out, ba_eta]⟩, fun y h => (by cases h), HB9.out⟩
          | cons b0 t2 =>
            have htz1 : 0 < tb.size := by
              have h := HTD.out
              have h2 : tb.data.toList.length = tb.size := by simp
              rw [h] at h2
              simp at h2
              omega
            have q1 : ((tb.size : Int) == 0) = false := by rw [beq_eq_false_iff_ne]; omega
            have hi0 : ∀ W, (Instr.index 9 (.string tb) (.int .i64 0)).run Tryz.prog W = .ok (.int .u8 (b0.toNat : Int)) W := fun W => by
              have h1 := dec_index_at0 tb W 0 htz1
              have h2 : tb[0]'htz1 = b0 := by
                have h3 : tb.data.toList[0]? = some b0 := by rw [HTD.out]; rfl
                rw [Array.getElem?_toList] at h3
                obtain ⟨h4, h5⟩ := Array.getElem?_eq_some_iff.1 h3
                exact h5
              rw [h2] at h1
              exact h1
            by_cases hb0 : b0 = 61
            · subst hb0
              have q2 : (((61 : UInt8).toNat : Int) != 61) = false := by decide
              obtain ⟨sb, hsb⟩ : ∃ z, tb.extract 1 tb.size = z := ⟨_, rfl⟩
              have hsd : sb.data.toList = t2 := by
                have h2 : (61 :: t2 : List UInt8).length = tb.size := by rw [← HTD.out]; simp
                rw [← hsb, Lib.extract_data, HTD.out, ← h2]
                simp
              have HSL := Lib.hid (show ∀ W, (Instr.slice 9 (.string tb) (some (.int .i64 1)) none none).run Tryz.prog W = .ok (.string sb) W from fun W => by
                have h2 : (1 : Int) ≤ tb.size := by omega
                rw [← hsb]
                simp [go_sem, Tryz.underlying9, h2])
              have hsz : sb.size ≤ 50000 := by
                have h2 : sb.data.toList.length = sb.size := by simp
                have h3 := HTL.out
                rw [hsd] at h2
                simp only [List.length_cons] at h3
                omega
              have HSD := Lib.hid hsd
              have KD := ref_Decode sb false wr (by omega)
              rw [hsd] at KD
              clear hsd hsb
              have hsl := HSL.out
              cases hdd : Gt.dec false t2 with
              | none =>
                rw [hdd] at KD
                unfold decOut at KD
                have KD := Lib.hid KD
                have HNO := Lib.hid (show r = none by rw [hst]; simp [Sc.read1, hdd])
                clear hst hdd
                go_wp2_with fail
                refine KD.out.mono ?_
                rintro e w2 ⟨rfl, hb2⟩
                have HB2 := Lib.hid (HBW.out.trans (hb2.mono HBW.out.size))
                have HA02 := Lib.hid ((hb2.block _ (Array.getElem?_eq_some_iff.1 HA0.out).1).trans HA0.out)
                have HA12 := Lib.hid ((hb2.block _ (Array.getElem?_eq_some_iff.1 HA1.out).1).trans HA1.out)
                clear hb2 c0 c1 c2 c3 c4 g0 g1 g2 g3 g4 hct hsl hi0
                go_wp2_with fail
                refine region_slotsG (fun i => 52 + min i 11) (rpN ) (fun i => ([true, true, true, false, false, false, false, false, false, false, false, true] : List Bool).getD i true) (by kernel_rfl) (by kernel_rfl) (fun i => by show 52 + min i 11 < _; simp; omega) (fun i j hi hj h => by have hi : i < 12 := hi; have hj : j < 12 := hj; omega) ?mono ?dst ?gu ?ng ?skip ?step ?done
                case mono =>
                  intro i W W' v h hbw
                  match i, h with
                  | 0, h | 1, h | 2, h | 3, h | 4, h | 5, h | 6, h | 7, h | 8, h | 9, h | 10, h | 11, h => exact h
                  | n + 12, h => exact h.elim
                case dst =>
                  intro i o ho
                  match i, ho with
                  | 0, ho | 1, ho | 2, ho | 3, ho | 4, ho | 5, ho | 6, ho | 7, ho | 8, ho | 9, ho | 10, ho | 11, ho => cases ho; rfl
                  | n + 12, ho => exact absurd ho (by simp)
                case gu =>
                  intro i o g b ho hgd W v hv
                  match i, ho with
                  | 0, ho => cases ho; cases hgd
                  | 1, ho => cases ho; cases hgd
                  | 2, ho => cases ho; cases hgd
                  | 3, ho => cases ho; cases hgd; exact hv
                  | 4, ho => cases ho; cases hgd; exact hv
                  | 5, ho => cases ho; cases hgd; exact hv
                  | 6, ho => cases ho; cases hgd; exact hv
                  | 7, ho => cases ho; cases hgd; exact hv
                  | 8, ho => cases ho; cases hgd; exact hv
                  | 9, ho => cases ho; cases hgd; exact hv
                  | 10, ho => cases ho; cases hgd; exact hv
                  | 11, ho => cases ho; cases hgd
                  | n + 12, ho => exact absurd ho (by simp)
                case ng =>
                  intro i o ho hgd
                  match i, ho with
                  | 0, ho => cases ho; first | rfl | cases hgd
                  | 1, ho => cases ho; first | rfl | cases hgd
                  | 2, ho => cases ho; first | rfl | cases hgd
                  | 3, ho => cases ho; first | rfl | cases hgd
                  | 4, ho => cases ho; first | rfl | cases hgd
                  | 5, ho => cases ho; first | rfl | cases hgd
                  | 6, ho => cases ho; first | rfl | cases hgd
                  | 7, ho => cases ho; first | rfl | cases hgd
                  | 8, ho => cases ho; first | rfl | cases hgd
                  | 9, ho => cases ho; first | rfl | cases hgd
                  | 10, ho => cases ho; first | rfl | cases hgd
                  | 11, ho => cases ho; first | rfl | cases hgd
                  | n + 12, ho => exact absurd ho (by simp)
                case skip =>
                  intro i W hi hsel
                  match i, hi, hsel with
                  | 0, _, hsel => first | exact absurd hsel (by decide) | rfl
                  | 1, _, hsel => first | exact absurd hsel (by decide) | rfl
                  | 2, _, hsel => first | exact absurd hsel (by decide) | rfl
                  | 3, _, hsel => first | exact absurd hsel (by decide) | rfl
                  | 4, _, hsel => first | exact absurd hsel (by decide) | rfl
                  | 5, _, hsel => first | exact absurd hsel (by decide) | rfl
                  | 6, _, hsel => first | exact absurd hsel (by decide) | rfl
                  | 7, _, hsel => first | exact absurd hsel (by decide) | rfl
                  | 8, _, hsel => first | exact absurd hsel (by decide) | rfl
                  | 9, _, hsel => first | exact absurd hsel (by decide) | rfl
                  | 10, _, hsel => first | exact absurd hsel (by decide) | rfl
                  | 11, _, hsel => first | exact absurd hsel (by decide) | rfl
                  | n + 12, hi, _ => exact absurd hi (by simp)
                case step =>
                  intro f a' W i o ho hsel hpre hbel hrest
                  match i, ho, hsel with
                  | 0, ho, _ =>
                    cases ho
                    have q9 : a'.tmps.getD 9 undef = .int .i64 210 := (hrest 9 (by intro i hi; have hi : i < 12 := hi; show 52 + min i 11 ≠ _; omega))
                    have e9 := rg_ev q9
                    exact rg_same (.int .i64 210) (by unfold Oper.wp execOp; go_simp; all_goals ((try simp only [e9]); (try go_simp); (try rw [if_pos (by omega)]); (try rw [if_neg (by omega)]); first | done | rfl | exact ⟨rfl, rfl⟩ | trivial)) rfl
                  | 1, ho, _ =>
                    cases ho
                    have q52 : a'.tmps.getD 52 undef = .int .i64 210 := (hpre { on := 0, ground := .data } (by simp) rfl)
                    have e52 := rg_ev q52
                    exact rg_same (.bool true) (by unfold Oper.wp execOp; go_simp; all_goals ((try simp only [e52]); (try go_simp); (try rw [if_pos (by omega)]); (try rw [if_neg (by omega)]); first | done | rfl | exact ⟨rfl, rfl⟩ | trivial)) rfl
                  | 2, ho, _ =>
                    cases ho
                    have q53 : a'.tmps.getD 53 undef = .bool true := (hpre { on := 1, ground := .data } (by simp) rfl)
                    have e53 := rg_ev q53
                    exact rg_same (.bool true) (by unfold Oper.wp execOp; go_simp; all_goals ((try simp only [e53]); (try go_simp); (try rw [if_pos (by omega)]); (try rw [if_neg (by omega)]); first | done | rfl | exact ⟨rfl, rfl⟩ | trivial)) rfl
                  | 3, ho, hsel => exact absurd hsel (by decide)
                  | 4, ho, hsel => exact absurd hsel (by decide)
                  | 5, ho, hsel => exact absurd hsel (by decide)
                  | 6, ho, hsel => exact absurd hsel (by decide)
                  | 7, ho, hsel => exact absurd hsel (by decide)
                  | 8, ho, hsel => exact absurd hsel (by decide)
                  | 9, ho, hsel => exact absurd hsel (by decide)
                  | 10, ho, hsel => exact absurd hsel (by decide)
                  | 11, ho, _ =>
                    cases ho
                    have q54 : a'.tmps.getD 54 undef = .bool true := (hpre { on := 2, ground := .data } (by simp) rfl)
                    have q62 : a'.tmps.getD 62 undef = undef := (hpre { on := 10, ground := .data } (by simp) rfl)
                    have e54 := rg_ev q54
                    have e62 := rg_ev q62
                    exact rg_same (.bool true) (by unfold Oper.wp execOp; go_simp; all_goals ((try simp only [e54, e62]); (try go_simp); (try rw [if_pos (by omega)]); (try rw [if_neg (by omega)]); first | done | rfl | exact ⟨rfl, rfl⟩ | trivial)) rfl
                  | n + 12, ho, _ => exact absurd ho (by simp)
                case done =>
                  intro vs W hbel hvs
                  have v0 : vs 0 = .int .i64 210 := hvs 0 (by decide)
                  have v1 : vs 1 = .bool true := hvs 1 (by decide)
                  have v2 : vs 2 = .bool true := hvs 2 (by decide)
                  have v3 : vs 3 = undef := hvs 3 (by decide)
                  have v4 : vs 4 = undef := hvs 4 (by decide)
                  have v5 : vs 5 = undef := hvs 5 (by decide)
                  have v6 : vs 6 = undef := hvs 6 (by decide)
                  have v7 : vs 7 = undef := hvs 7 (by decide)
                  have v8 : vs 8 = undef := hvs 8 (by decide)
                  have v9 : vs 9 = undef := hvs 9 (by decide)
                  have v10 : vs 10 = undef := hvs 10 (by decide)
                  have v11 : vs 11 = .bool true := hvs 11 (by decide)
                  have HBR := Lib.hid hbel
                  simp only [fillN, List.size_toArray, List.length_cons, List.length_nil, Nat.reduceAdd, show List.range 12 = [0, 1, 2, 3, 4, 5, 6, 7, 8, 9, 10, 11] from rfl, List.foldl_cons, List.foldl_nil, show 52 + min 0 11 = 52 from rfl, show 52 + min 1 11 = 53 from rfl, show 52 + min 2 11 = 54 from rfl, show 52 + min 3 11 = 55 from rfl, show 52 + min 4 11 = 56 from rfl, show 52 + min 5 11 = 57 from rfl, show 52 + min 6 11 = 58 from rfl, show 52 + min 7 11 = 59 from rfl, show 52 + min 8 11 = 60 from rfl, show 52 + min 9 11 = 61 from rfl, show 52 + min 10 11 = 62 from rfl, show 52 + min 11 11 = 63 from rfl, v0, v1, v2, v3, v4, v5, v6, v7, v8, v9, v10, v11]
                  clear v0 v1 v2 v3 v4 v5 v6 v7 v8 v9 v10 v11 hvs hbel
                  go_simp
                  have HB3 := Lib.hid (HB2.out.trans (HBR.out.mono HB2.out.size))
                  have HA03 := Lib.hid ((HBR.out.block _ (Array.getElem?_eq_some_iff.1 HA02.out).1).trans HA02.out)
                  have HA13 := Lib.hid ((HBR.out.block _ (Array.getElem?_eq_some_iff.1 HA12.out).1).trans HA12.out)
                  clear HBR
                  obtain ⟨c0, c1, c2, c3, c4, _⟩ := OneR.of HA13.out
                  obtain ⟨d0, d1, d2, d3, d4, fr⟩ := OneR.of HA03.out
                  have f0 := fr 0
                  have f1 := fr 1
                  have f2 := fr 2
                  have f3 := fr 3
                  have f4 := fr 4
                  clear fr
                  go_wp2_with fail
                  obtain ⟨W9, h9⟩ : ∃ z, ((((W.setCell ⟨A, 0, none⟩ (.int .u64 (y.n : Int))).setCell ⟨A, 1, none⟩ (.int .u64 (y.draw : Int))).setCell ⟨A, 2, none⟩ (.int .u64 (y.conn : Int))).setCell ⟨A, 3, none⟩ (.int .i64 y.topic)).setCell ⟨A, 4, none⟩ (.string yb) = z := ⟨_, rfl⟩
                  rw [h9]
                  obtain ⟨⟨x0, x1, x2, x3, x4, _⟩, hb9⟩ := one_end HA03.out HB3.out (Nat.le_of_eq HAA.out) h9
                  have HB9 := Lib.hid hb9
                  clear h9 hb9 c0 c1 c2 c3 c4 d0 d1 d2 d3 d4 f0 f1 f2 f3 f4
                  simp [bodyPost, results, Tryz.results50, go_sem, x0, x1, x2, x3, x4]
                  rw [HNO.out]
                  exact ⟨_, ⟨rfl, rfl⟩, ⟨y, by unfold oneVal; rw [← HYB.out, ba_eta]⟩, fun y h => (by cases h), HB9.out⟩
              | some bl =>
                rw [hdd] at KD
                obtain ⟨bb, hbb⟩ : ∃ z : ByteArray, (⟨bl.toArray⟩ : ByteArray) = z := ⟨_, rfl⟩
                unfold decOut at KD
                simp only [hbb] at KD
                have hbd : bb.data.toList = bl := by rw [← hbb]
                have HBD := Lib.hid hbd
                have KD := Lib.hid KD
                have hbz : bb.size ≤ 50000 := by
                  have h2 : bb.data.toList.length = bb.size := by simp
                  have h3 := Gt.dec_length false t2.length t2 bl (Nat.le_refl _) hdd
                  have h4 := HTL.out
                  rw [hbd] at h2
                  simp only [List.length_cons] at h4
                  omega
                have KE := Lib.hid (fun W => ref_Encode bb W (by omega))
                obtain ⟨eb, heb⟩ : ∃ z : ByteArray, (⟨(Gt.enc bb.data.toList).toArray⟩ : ByteArray) = z := ⟨_, rfl⟩
                rw [heb] at KE
                have HEB := Lib.hid (show eb.data.toList = Gt.enc bl by rw [← heb, hbd])
                clear heb hbb hbd
                go_wp2_with fail
                refine KD.out.mono ?_
                rintro e w2 ⟨rfl, hb2⟩
                have HB2 := Lib.hid (HBW.out.trans (hb2.mono HBW.out.size))
                have HA02 := Lib.hid ((hb2.block _ (Array.getElem?_eq_some_iff.1 HA0.out).1).trans HA0.out)
                have HA12 := Lib.hid ((hb2.block _ (Array.getElem?_eq_some_iff.1 HA1.out).1).trans HA1.out)
                have HCT := Lib.hid (cell_below hb2 hct)
                clear hb2 c0 c1 c2 c3 c4 g0 g1 g2 g3 g4 hct hsl hi0
                have HDD := Lib.hid hdd
                have HST2 := Lib.hid hst
                clear hdd hst
                go_wp2_with fail
                refine region_slotsG (fun i => 52 + min i 11) (rpY g o j m c bb eb tb sb) (fun _ => true) (by kernel_rfl) (by kernel_rfl) (fun i => by show 52 + min i 11 < _; simp; omega) (fun i j hi hj h => by have hi : i < 12 := hi; have hj : j < 12 := hj; omega) ?mono ?dst ?gu ?ng ?skip ?step ?done
                case mono =>
                  intro i W W' v h hbw
                  match i, h with
                  | 0, h | 1, h | 2, h | 3, h | 4, h | 5, h | 6, h | 7, h | 8, h | 9, h | 10, h | 11, h => exact h
                  | n + 12, h => exact h.elim
                case dst =>
                  intro i o ho
                  match i, ho with
                  | 0, ho | 1, ho | 2, ho | 3, ho | 4, ho | 5, ho | 6, ho | 7, ho | 8, ho | 9, ho | 10, ho | 11, ho => cases ho; rfl
                  | n + 12, ho => exact absurd ho (by simp)
                case gu =>
                  intro i o g b ho hgd W v hv
                  match i, ho with
                  | 0, ho => cases ho; cases hgd
                  | 1, ho => cases ho; cases hgd
                  | 2, ho => cases ho; cases hgd
                  | 3, ho => cases ho; cases hgd; exact hv
                  | 4, ho => cases ho; cases hgd; exact hv
                  | 5, ho => cases ho; cases hgd; exact hv
                  | 6, ho => cases ho; cases hgd; exact hv
                  | 7, ho => cases ho; cases hgd; exact hv
                  | 8, ho => cases ho; cases hgd; exact hv
                  | 9, ho => cases ho; cases hgd; exact hv
                  | 10, ho => cases ho; cases hgd; exact hv
                  | 11, ho => cases ho; cases hgd
                  | n + 12, ho => exact absurd ho (by simp)
                case ng =>
                  intro i o ho hgd
                  match i, ho with
                  | 0, ho => cases ho; first | rfl | cases hgd
                  | 1, ho => cases ho; first | rfl | cases hgd
                  | 2, ho => cases ho; first | rfl | cases hgd
                  | 3, ho => cases ho; first | rfl | cases hgd
                  | 4, ho => cases ho; first | rfl | cases hgd
                  | 5, ho => cases ho; first | rfl | cases hgd
                  | 6, ho => cases ho; first | rfl | cases hgd
                  | 7, ho => cases ho; first | rfl | cases hgd
                  | 8, ho => cases ho; first | rfl | cases hgd
                  | 9, ho => cases ho; first | rfl | cases hgd
                  | 10, ho => cases ho; first | rfl | cases hgd
                  | 11, ho => cases ho; first | rfl | cases hgd
                  | n + 12, ho => exact absurd ho (by simp)
                case skip =>
                  intro i W hi hsel
                  match i, hi, hsel with
                  | 0, _, hsel => first | exact absurd hsel (by decide) | rfl
                  | 1, _, hsel => first | exact absurd hsel (by decide) | rfl
                  | 2, _, hsel => first | exact absurd hsel (by decide) | rfl
                  | 3, _, hsel => first | exact absurd hsel (by decide) | rfl
                  | 4, _, hsel => first | exact absurd hsel (by decide) | rfl
                  | 5, _, hsel => first | exact absurd hsel (by decide) | rfl
                  | 6, _, hsel => first | exact absurd hsel (by decide) | rfl
                  | 7, _, hsel => first | exact absurd hsel (by decide) | rfl
                  | 8, _, hsel => first | exact absurd hsel (by decide) | rfl
                  | 9, _, hsel => first | exact absurd hsel (by decide) | rfl
                  | 10, _, hsel => first | exact absurd hsel (by decide) | rfl
                  | 11, _, hsel => first | exact absurd hsel (by decide) | rfl
                  | n + 12, hi, _ => exact absurd hi (by simp)
                case step =>
                  intro f a' W i o ho hsel hpre hbel hrest
                  match i, ho, hsel with
                  | 0, ho, _ =>
                    cases ho
                    have q9 : a'.tmps.getD 9 undef = .int .i64 0 := (hrest 9 (by intro i hi; have hi : i < 12 := hi; show 52 + min i 11 ≠ _; omega))
                    have e9 := rg_ev q9
                    exact rg_same (.int .i64 0) (by unfold Oper.wp execOp; go_simp; all_goals ((try simp only [e9]); (try go_simp); (try rw [if_pos (by omega)]); (try rw [if_neg (by omega)]); first | done | rfl | exact ⟨rfl, rfl⟩ | trivial)) rfl
                  | 1, ho, _ =>
                    cases ho
                    have q52 : a'.tmps.getD 52 undef = .int .i64 0 := (hpre { on := 0, ground := .data } (by simp) rfl)
                    have e52 := rg_ev q52
                    exact rg_same (.bool false) (by unfold Oper.wp execOp; go_simp; all_goals ((try simp only [e52]); (try go_simp); (try rw [if_pos (by omega)]); (try rw [if_neg (by omega)]); first | done | rfl | exact ⟨rfl, rfl⟩ | trivial)) rfl
                  | 2, ho, _ =>
                    cases ho
                    have q53 : a'.tmps.getD 53 undef = .bool false := (hpre { on := 1, ground := .data } (by simp) rfl)
                    have e53 := rg_ev q53
                    exact rg_same (.bool false) (by unfold Oper.wp execOp; go_simp; all_goals ((try simp only [e53]); (try go_simp); (try rw [if_pos (by omega)]); (try rw [if_neg (by omega)]); first | done | rfl | exact ⟨rfl, rfl⟩ | trivial)) rfl
                  | 3, ho, _ =>
                    cases ho
                    have q8 : a'.tmps.getD 8 undef = .string bb := (hrest 8 (by intro i hi; have hi : i < 12 := hi; show 52 + min i 11 ≠ _; omega))
                    have e8 := rg_ev q8
                    exact rg_same (.string bb) (by unfold Oper.wp execOp; go_simp; all_goals ((try simp only [e8]); (try go_simp); (try rw [if_pos (by omega)]); (try rw [if_neg (by omega)]); first | done | rfl | exact ⟨rfl, rfl⟩ | trivial)) rfl
                  | 4, ho, _ =>
                    cases ho
                    have q55 : a'.tmps.getD 55 undef = .string bb := (hpre { on := 3, ground := .data } (by simp) rfl)
                    exact rg_call 55 71 _ _ _ rfl q55 (enters_of Tryz.func71 (by kernel_rfl) rfl) (KE.out W) (fun e w' h => ⟨_, h.1, _, rfl, rfl, h.2⟩)
                  | 5, ho, _ =>
                    cases ho
                    have q1 : a'.tmps.getD 1 undef = .slice (some ⟨g, o, none⟩) m c := (hrest 1 (by intro i hi; have hi : i < 12 := hi; show 52 + min i 11 ≠ _; omega))
                    have e1 := rg_ev q1
                    exact rg_same (.slice (some ⟨g, o, none⟩) m c) (by unfold Oper.wp execOp; go_simp; all_goals ((try simp only [e1]); (try go_simp); (try rw [if_pos (by omega)]); (try rw [if_neg (by omega)]); first | done | rfl | exact ⟨rfl, rfl⟩ | trivial)) rfl
                  | 6, ho, _ =>
                    cases ho
                    have q7 : a'.tmps.getD 7 undef = .int .i64 (j : Int) := (hrest 7 (by intro i hi; have hi : i < 12 := hi; show 52 + min i 11 ≠ _; omega))
                    have e7 := rg_ev q7
                    exact rg_same (.int .i64 (j : Int)) (by unfold Oper.wp execOp; go_simp; all_goals ((try simp only [e7]); (try go_simp); (try rw [if_pos (by omega)]); (try rw [if_neg (by omega)]); first | done | rfl | exact ⟨rfl, rfl⟩ | trivial)) rfl
                  | 7, ho, _ =>
                    cases ho
                    have q57 : a'.tmps.getD 57 undef = .slice (some ⟨g, o, none⟩) m c := (hpre { on := 5, ground := .data } (by simp) rfl)
                    have q58 : a'.tmps.getD 58 undef = .int .i64 (j : Int) := (hpre { on := 6, ground := .data } (by simp) rfl)
                    have e57 := rg_ev q57
                    have e58 := rg_ev q58
                    exact rg_same (.pointer (some ⟨g, o + j, none⟩)) (by unfold Oper.wp execOp; go_simp; all_goals ((try simp only [e57, e58]); (try go_simp); (try rw [if_pos (by omega)]); (try rw [if_neg (by omega)]); first | done | rfl | exact ⟨rfl, rfl⟩ | trivial)) rfl
                  | 8, ho, _ =>
                    cases ho
                    have q59 : a'.tmps.getD 59 undef = .pointer (some ⟨g, o + j, none⟩) := (hpre { on := 7, ground := .data } (by simp) rfl)
                    have ce := cell_below hbel HCT.out
                    have e59 := rg_ev q59
                    exact rg_same (.string tb) (by unfold Oper.wp execOp; go_simp; all_goals ((try simp only [e59]); (try go_simp); (try rw [if_pos (by omega)]); (try rw [if_neg (by omega)]); first | done | rfl | exact ⟨rfl, rfl⟩ | trivial)) rfl
                  | 9, ho, _ =>
                    cases ho
                    have q60 : a'.tmps.getD 60 undef = .string tb := (hpre { on := 8, ground := .data } (by simp) rfl)
                    have hs1 := HSL.out W
                    have e60 := rg_ev q60
                    exact rg_same (.string sb) (by unfold Oper.wp execOp; go_simp; all_goals ((try simp only [e60]); (try go_simp); (try rw [if_pos (by omega)]); (try rw [if_neg (by omega)]); first | done | rfl | exact ⟨rfl, rfl⟩ | trivial)) rfl
                  | 10, ho, _ =>
                    cases ho
                    have q56 : a'.tmps.getD 56 undef = .string eb := (hpre { on := 4, ground := .data } (by simp) rfl)
                    have q61 : a'.tmps.getD 61 undef = .string sb := (hpre { on := 9, ground := .data } (by simp) rfl)
                    have e56 := rg_ev q56
                    have e61 := rg_ev q61
                    exact rg_same (.bool (!(eb.toList == sb.toList))) (by unfold Oper.wp execOp; go_simp; all_goals ((try simp only [e56, e61]); (try go_simp); (try rw [if_pos (by omega)]); (try rw [if_neg (by omega)]); first | done | rfl | exact ⟨rfl, rfl⟩ | trivial)) rfl
                  | 11, ho, _ =>
                    cases ho
                    have q54 : a'.tmps.getD 54 undef = .bool false := (hpre { on := 2, ground := .data } (by simp) rfl)
                    have q62 : a'.tmps.getD 62 undef = .bool (!(eb.toList == sb.toList)) := (hpre { on := 10, ground := .data } (by simp) rfl)
                    have e54 := rg_ev q54
                    have e62 := rg_ev q62
                    exact rg_same (.bool (!(eb.toList == sb.toList))) (by unfold Oper.wp execOp; go_simp; all_goals ((try simp only [e54, e62]); (try go_simp); (try rw [if_pos (by omega)]); (try rw [if_neg (by omega)]); first | done | rfl | exact ⟨rfl, rfl⟩ | trivial)) rfl
                  | n + 12, ho, _ => exact absurd ho (by simp)
                case done =>
                  intro vs W hbel hvs
                  have v0 : vs 0 = .int .i64 0 := hvs 0 (by decide)
                  have v1 : vs 1 = .bool false := hvs 1 (by decide)
                  have v2 : vs 2 = .bool false := hvs 2 (by decide)
                  have v3 : vs 3 = .string bb := hvs 3 (by decide)
                  have v4 : vs 4 = .string eb := hvs 4 (by decide)
                  have v5 : vs 5 = .slice (some ⟨g, o, none⟩) m c := hvs 5 (by decide)
                  have v6 : vs 6 = .int .i64 (j : Int) := hvs 6 (by decide)
                  have v7 : vs 7 = .pointer (some ⟨g, o + j, none⟩) := hvs 7 (by decide)
                  have v8 : vs 8 = .string tb := hvs 8 (by decide)
                  have v9 : vs 9 = .string sb := hvs 9 (by decide)
                  have v10 : vs 10 = .bool (!(eb.toList == sb.toList)) := hvs 10 (by decide)
                  have v11 : vs 11 = .bool (!(eb.toList == sb.toList)) := hvs 11 (by decide)
                  have HBR := Lib.hid hbel
                  simp only [fillN, List.size_toArray, List.length_cons, List.length_nil, Nat.reduceAdd, show List.range 12 = [0, 1, 2, 3, 4, 5, 6, 7, 8, 9, 10, 11] from rfl, List.foldl_cons, List.foldl_nil, show 52 + min 0 11 = 52 from rfl, show 52 + min 1 11 = 53 from rfl, show 52 + min 2 11 = 54 from rfl, show 52 + min 3 11 = 55 from rfl, show 52 + min 4 11 = 56 from rfl, show 52 + min 5 11 = 57 from rfl, show 52 + min 6 11 = 58 from rfl, show 52 + min 7 11 = 59 from rfl, show 52 + min 8 11 = 60 from rfl, show 52 + min 9 11 = 61 from rfl, show 52 + min 10 11 = 62 from rfl, show 52 + min 11 11 = 63 from rfl, v0, v1, v2, v3, v4, v5, v6, v7, v8, v9, v10, v11]
                  clear v0 v1 v2 v3 v4 v5 v6 v7 v8 v9 v10 v11 hvs hbel
                  go_simp
                  have HB3 := Lib.hid (HB2.out.trans (HBR.out.mono HB2.out.size))
                  have HA03 := Lib.hid ((HBR.out.block _ (Array.getElem?_eq_some_iff.1 HA02.out).1).trans HA02.out)
                  have HA13 := Lib.hid ((HBR.out.block _ (Array.getElem?_eq_some_iff.1 HA12.out).1).trans HA12.out)
                  clear HBR
                  obtain ⟨c0, c1, c2, c3, c4, _⟩ := OneR.of HA13.out
                  by_cases heq : Gt.enc bl = t2
                  · have q3 : (eb.toList == sb.toList) = true := by rw [ByteArray.toList_eq, ByteArray.toList_eq, HEB.out, HSD.out, heq]; exact beq_self_eq_true _
                    have HR2 := Lib.hid (show Sc.reads L ws Sc.St.zero = Sc.reads (L.drop (j + 1)) (ws.drop (j + 1)) { y with bytes := bl } by
                      rw [HRR.out, HST2.out, show Sc.read1 66 (61 :: t2) y = some { y with bytes := bl } by simp [Sc.read1, HDD.out, heq]]
                      rfl)
                    have HRW := Lib.hid (show (W.setCell ⟨A + 1, 4, none⟩ (.string bb)).heap[A + 1]? = some (oneObj { y with bytes := bl } bb) by
                      have h := HA13.out
                      unfold oneObj at h ⊢
                      rw [heap_setCell_same W (A + 1) 4 _ _ _ h]; simp)
                    have HRA := Lib.hid (show (W.setCell ⟨A + 1, 4, none⟩ (.string bb)).heap[A]? = some (oneObj Sc.St.zero ⟨#[]⟩) from (Below.heap_setCell _ _ _ _ (by show A ≠ A + 1; omega)).trans HA03.out)
                    have HRB := Lib.hid (show Below w.heap.size w (W.setCell ⟨A + 1, 4, none⟩ (.string bb)) from HB3.out.setCell (p := ⟨A + 1, 4, none⟩) (by rw [HAA.out]; show A ≤ A + 1; omega) _)
                    have g4 := (OneR.of HA13.out).fr 4
                    clear heq
                    simp only [q3, Bool.not_true]
                    go_wp2_with fail
                    go_roundw
                    case rel => exact ⟨j + 1, { y with bytes := bl }, bb, hlt, by go_num, HR2.out, HBD.out, HRW.out, HRA.out, HRB.out⟩
                    case measure => simp [intOf]; omega
                  · have q3 : (eb.toList == sb.toList) = false := by
                      rw [beq_eq_false_iff_ne, ByteArray.toList_eq, ByteArray.toList_eq, HEB.out, HSD.out]
                      exact heq
                    have HNO := Lib.hid (show r = none by rw [HST2.out]; simp [Sc.read1, HDD.out, heq])
                    clear heq
                    simp only [q3, Bool.not_false]
                    obtain ⟨d0, d1, d2, d3, d4, fr⟩ := OneR.of HA03.out
                    have f0 := fr 0
                    have f1 := fr 1
                    have f2 := fr 2
                    have f3 := fr 3
                    have f4 := fr 4
                    clear fr
                    go_wp2_with fail
                    obtain ⟨W9, h9⟩ : ∃ z, ((((W.setCell ⟨A, 0, none⟩ (.int .u64 (y.n : Int))).setCell ⟨A, 1, none⟩ (.int .u64 (y.draw : Int))).setCell ⟨A, 2, none⟩ (.int .u64 (y.conn : Int))).setCell ⟨A, 3, none⟩ (.int .i64 y.topic)).setCell ⟨A, 4, none⟩ (.string yb) = z := ⟨_, rfl⟩
                    rw [h9]
                    obtain ⟨⟨x0, x1, x2, x3, x4, _⟩, hb9⟩ := one_end HA03.out HB3.out (Nat.le_of_eq HAA.out) h9
                    have HB9 := Lib.hid hb9
                    clear h9 hb9 c0 c1 c2 c3 c4 d0 d1 d2 d3 d4 f0 f1 f2 f3 f4
                    simp [bodyPost, results, Tryz.results50, go_sem, x0, x1, x2, x3, x4]
                    rw [HNO.out]
                    exact ⟨_, ⟨rfl, rfl⟩, ⟨y, by unfold oneVal; rw [← HYB.out, ba_eta]⟩, fun y h => (by cases h), HB9.out⟩
            · have q2 : ((b0.toNat : Int) != 61) = true := by
                rw [bne_iff_ne]
                intro e
                exact hb0 (UInt8.toNat_inj.1 (by show b0.toNat = 61; omega))
              have HNO := Lib.hid (show r = none by rw [hst]; simp [Sc.read1, hb0])
              clear hst hb0
              obtain ⟨d0, d1, d2, d3, d4, fr⟩ := OneR.of HA0.out
              have f0 := fr 0
              have f1 := fr 1
              have f2 := fr 2
              have f3 := fr 3
              have f4 := fr 4
              clear fr
              go_wp2_with fail
              obtain ⟨W9, h9⟩ : ∃ z, ((((wr.setCell ⟨A, 0, none⟩ (.int .u64 (y.n : Int))).setCell ⟨A, 1, none⟩ (.int .u64 (y.draw : Int))).setCell ⟨A, 2, none⟩ (.int .u64 (y.conn : Int))).setCell ⟨A, 3, none⟩ (.int .i64 y.topic)).setCell ⟨A, 4, none⟩ (.string yb) = z := ⟨_, rfl⟩
              rw [h9]
              obtain ⟨⟨x0, x1, x2, x3, x4, _⟩, hb9⟩ := one_end HA0.out HBW.out (Nat.le_of_eq HAA.out) h9
              have HB9 := Lib.hid hb9
              clear h9 hb9 c0 c1 c2 c3 c4 d0 d1 d2 d3 d4 f0 f1 f2 f3 f4
              simp [bodyPost, results, Tryz.results50, go_sem, x0, x1, x2, x3, x4]
              rw [HNO.out]
              exact ⟨_, ⟨rfl, rfl⟩, ⟨y, by unfold oneVal; rw [← HYB.out, ba_eta]⟩, fun y h => (by cases h), HB9.out⟩
      · have hI : ¬ (j : Int) < (m : Int) := by omega
        have HRE := Lib.hid (show r = some y by
          rw [← HRR.out, HRD.out, List.drop_of_length_le (by rw [HLM.out]; omega), List.drop_of_length_le (by rw [HN.out]; omega)]
          rfl)
        obtain ⟨d0, d1, d2, d3, d4, fr⟩ := OneR.of HA0.out
        have f0 := fr 0
        have f1 := fr 1
        have f2 := fr 2
        have f3 := fr 3
        have f4 := fr 4
        clear fr
        go_wp2_with fail
        obtain ⟨W9, h9⟩ : ∃ z, ((((wr.setCell ⟨A, 0, none⟩ (.int .u64 (y.n : Int))).setCell ⟨A, 1, none⟩ (.int .u64 (y.draw : Int))).setCell ⟨A, 2, none⟩ (.int .u64 (y.conn : Int))).setCell ⟨A, 3, none⟩ (.int .i64 y.topic)).setCell ⟨A, 4, none⟩ (.string yb) = z := ⟨_, rfl⟩
        rw [h9]
        obtain ⟨⟨x0, x1, x2, x3, x4, _⟩, hb9⟩ := one_end HA0.out HBW.out (Nat.le_of_eq HAA.out) h9
        have HB9 := Lib.hid hb9
        clear h9 hb9 c0 c1 c2 c3 c4 d0 d1 d2 d3 d4 f0 f1 f2 f3 f4
        simp [bodyPost, results, Tryz.results50, go_sem, x0, x1, x2, x3, x4]
        rw [HRE.out]
        refine ⟨_, ⟨rfl, rfl⟩, ⟨y, by unfold oneVal; rw [← HYB.out, ba_eta]⟩, fun z h => ?_, HB9.out⟩
        cases h
        unfold oneVal
        rw [← HYB.out, ba_eta]
  · have q0 : ((n : Int) != (m : Int)) = true := by rw [bne_iff_ne]; omega
    have HNO := Lib.hid (show r = none by rw [← HRR.out]; exact reads_len L ws _ (by rw [HLM.out, HN.out]; omega))
    obtain ⟨c0, c1, c2, c3, c4, _⟩ := OneR.of HR1.out
    obtain ⟨d0, d1, d2, d3, d4, fr⟩ := OneR.of HR0.out
    have f0 := fr 0
    have f1 := fr 1
    have f2 := fr 2
    have f3 := fr 3
    have f4 := fr 4
    clear fr hlen
    go_wp2_with fail
    obtain ⟨W9, h9⟩ : ∃ z, ((((W.setCell ⟨A, 0, none⟩ (.int .u64 (Sc.St.zero.n : Int))).setCell ⟨A, 1, none⟩ (.int .u64 (Sc.St.zero.draw : Int))).setCell ⟨A, 2, none⟩ (.int .u64 (Sc.St.zero.conn : Int))).setCell ⟨A, 3, none⟩ (.int .i64 Sc.St.zero.topic)).setCell ⟨A, 4, none⟩ (.string ⟨#[]⟩) = z := ⟨_, rfl⟩
    rw [h9]
    obtain ⟨⟨x0, x1, x2, x3, x4, _⟩, hb9⟩ := one_end HR0.out HB.out (Nat.le_of_eq HAA.out) h9
    have HB9 := Lib.hid hb9
    clear h9 hb9 c0 c1 c2 c3 c4 d0 d1 d2 d3 d4 f0 f1 f2 f3 f4
    simp [bodyPost, results, Tryz.results50, go_sem, x0, x1, x2, x3, x4]
    rw [HNO.out]
    exact ⟨_, ⟨rfl, rfl⟩, ⟨Sc.St.zero, rfl⟩, fun y h => (by cases h), HB9.out⟩
end Go.Proofs.YtbaakfcbakpmpaaGreatDoor

/- script: the reference's Parse and OutParse. No conditions but those that each law states. Printed by genUe.py. -/
namespace Go.Proofs.YtbaakfcbakpmpaaGreatDoor
set_option linter.unusedVariables false
set_option linter.unusedSimpArgs false
open Go.RowKit Go.Shelf
set_option maxHeartbeats 8000000
set_option maxRecDepth 100000
theorem parse_cons {T : Sc.Shapes} {l w0 : List UInt8} {ws : List (List UInt8)} (h : Gs.parts 32 [] l = w0 :: ws) : Sc.parse T l = (match T.find? fun e => e.2.1 == w0 with
    | none => none
    | some (k, _, ps) => (Sc.reads ps ws Sc.St.zero).map fun x => (k, x)) := by
  unfold Sc.parse Sc.words; rw [h]; rfl
theorem parse_hit {T : Sc.Shapes} (hT : T = Sc.stepT ∨ T = Sc.outT) {l w0 : List UInt8} {ws : List (List UInt8)} (h : Gs.parts 32 [] l = w0 :: ws) {i : Nat} (hi : i < T.length) (hn : (T.getD i (0, [], [])).2.1 = w0) :
    Sc.parse T l = (Sc.reads (T.getD i (0, [], [])).2.2 ws Sc.St.zero).map fun x => ((T.getD i (0, [], [])).1, x) := by
  rw [parse_cons h, ← hn, (find_name hT hi).1]
theorem parse_miss {T : Sc.Shapes} {l w0 : List UInt8} {ws : List (List UInt8)} (h : Gs.parts 32 [] l = w0 :: ws) (hn : ∀ i, i < T.length → (T.getD i (0, [], [])).2.1 ≠ w0) : Sc.parse T l = none := by
  rw [parse_cons h, find_none hn]
theorem tab_st : ∀ i : Fin 9, (Sc.stepT.getD i.val (0, [], [])).1 = (i.val : Int) + 1 ∧ shN Sc.stepT ((i.val : Int) + 1) = (Sc.stepT.getD i.val (0, [], [])).2.1 ∧ shP Sc.stepT ((i.val : Int) + 1) = (Sc.stepT.getD i.val (0, [], [])).2.2 := by decide +kernel
theorem tab_ot : ∀ i : Fin 6, (Sc.outT.getD i.val (0, [], [])).1 = (i.val : Int) + 1 ∧ shN Sc.outT ((i.val : Int) + 1) = (Sc.outT.getD i.val (0, [], [])).2.1 ∧ shP Sc.outT ((i.val : Int) + 1) = (Sc.outT.getD i.val (0, [], [])).2.2 := by decide +kernel
theorem tab_at {T : Sc.Shapes} (hT : T = Sc.stepT ∨ T = Sc.outT) {k : Nat} (h1 : 1 ≤ k) (h2 : k ≤ T.length) : (T.getD (k - 1) (0, [], [])).1 = (k : Int) ∧ shN T (k : Int) = (T.getD (k - 1) (0, [], [])).2.1 ∧ shP T (k : Int) = (T.getD (k - 1) (0, [], [])).2.2 := by
  obtain ⟨i, rfl⟩ : ∃ i, k = i + 1 := ⟨k - 1, by omega⟩
  rw [Nat.add_sub_cancel, show ((i + 1 : Nat) : Int) = (i : Int) + 1 by omega]
  rcases hT with rfl | rfl
  · exact tab_st ⟨i, by have h2 : i + 1 ≤ 9 := h2; omega⟩
  · exact tab_ot ⟨i, by have h2 : i + 1 ≤ 6 := h2; omega⟩
theorem tail_run (g n c : Nat) (h1 : 1 ≤ n) : ∃ q, (∀ W, (Instr.slice 94 (.slice (some ⟨g, 0, none⟩) n c) (some (.int .i64 1)) none none).run Tryz.prog W = .ok (.slice q (n - 1) (c - 1)) W) ∧ (1 < c → q = some ⟨g, 1, none⟩) := by
  refine ⟨if c = 1 then some ⟨g, 0, none⟩ else some ⟨g, 1, none⟩, fun W => ?_, fun h => by rw [if_neg (by omega)]⟩
  have h2 : (1 : Int) ≤ (n : Int) := by omega
  have hs : (sizeOf 9).run Tryz.prog W = .ok 1 W := by kernel_rfl
  simp [go_sem, Tryz.underlying94, h2, hs, sliced, Addr.add]
  try (split <;> rfl)
theorem rf_Parse (s : ByteArray) (w : World) (hs : s.size ≤ 50000) :
    Calls Tryz.prog 19 #[.string s] w fun e w' => ∃ u, e = .returned (.tuple #[stVal (stp (Sc.parse Sc.stepT s.data.toList)) u, .int .i64 (erS (Sc.parse Sc.stepT s.data.toList))]) ∧ BRow w' u (stp (Sc.parse Sc.stepT s.data.toList)).bytes ∧ NewV w.heap.size u ∧ Below w.heap.size w w' := by
  obtain ⟨o, ho⟩ : ∃ z, Sc.parse Sc.stepT s.data.toList = z := ⟨_, rfl⟩
  rw [ho]
  obtain ⟨S, hS⟩ : ∃ z, w.heap.size = z := ⟨_, rfl⟩
  obtain ⟨W, hW⟩ : ∃ z, w.alloc (.cells #[.int .i64 0, .int .u64 0, .int .i64 0, .int .u64 0, .int .u64 0, .slice none 0 0] 26) = z := ⟨_, rfl⟩
  have hb : Below w.heap.size w W := by rw [← hW]; exact (Below.refl _ _).alloc (Nat.le_refl _) _
  have hr : W.heap[S]? = some (stObj Sc.St.zero (.slice none 0 0)) := by rw [← hW, ← hS]; exact World.alloc_heap_new _ _
  have KW := rf_words s 32 W (by omega)
  obtain ⟨L, hL⟩ : ∃ z, Gs.parts 32 [] s.data.toList = z := ⟨_, rfl⟩
  obtain ⟨n, hn⟩ : ∃ z, L.length = z := ⟨_, rfl⟩
  rw [hL, hn, show ((32 : UInt8).toNat : Int) = 32 from rfl] at KW
  have hn1 : 1 ≤ n := by rw [← hn, ← hL]; exact List.length_pos_iff.2 (Gs.parts_ne _ _ _)
  have hnl : n ≤ 50001 := by
    have h1 := Gs.parts_many 32 s.data.toList []
    have h2 : s.data.toList.length = s.size := rfl
    rw [hL, hn] at h1
    omega
  have hwl : ∀ t ∈ L, t.length ≤ 50000 := fun t ht => by
    rw [← hL] at ht
    have h1 := Gs.parts_len 32 _ _ t ht
    have h2 : s.data.toList.length = s.size := rfl
    rw [h2] at h1
    simp only [List.length_nil] at h1
    omega
  obtain ⟨w0, ws, hLc⟩ : ∃ a b, L = a :: b := by
    cases L with
    | nil => rw [List.length_nil] at hn; omega
    | cons a b => exact ⟨a, b, rfl⟩
  have hwn : ws.length = n - 1 := by rw [← hn, hLc]; rfl
  have HT1 := Lib.hid (show ∀ i, i < 9 → (Sc.stepT.getD i (0, [], [])).2.1 = w0 → o = (Sc.reads (Sc.stepT.getD i (0, [], [])).2.2 ws Sc.St.zero).map fun x => ((Sc.stepT.getD i (0, [], [])).1, x) from fun i hi he => ho.symm.trans (parse_hit (.inl rfl) (hL.trans hLc) hi he))
  have HT2 := Lib.hid (show (∀ i, i < 9 → (Sc.stepT.getD i (0, [], [])).2.1 ≠ w0) → o = none from fun h => ho.symm.trans (parse_miss (hL.trans hLc) h))
  have HWL := Lib.hid (show ∀ t ∈ ws, t.length ≤ 50000 from fun t ht => hwl t (by rw [hLc]; exact List.mem_cons_of_mem _ ht))
  have HLC := Lib.hid hLc
  have HLN := Lib.hid hn
  have HWN := Lib.hid hwn
  have KW := Lib.hid KW
  have HB := Lib.hid hb
  have HR := Lib.hid hr
  have HSS := Lib.hid hS
  have HWW := Lib.hid hW
  clear hb hr hS hW hL hn hwl hLc hwn ho
  go_enter Tryz.func19, Tryz.ntmps19
  go_upto_region 1 with (fail)
  rw [HSS.out, HWW.out]
  go_wp2_with fail
  refine KW.out.mono ?_
  rintro e w1 ⟨r, rfl, hrow, ⟨pw, cw, rfl, hcw⟩, hb1⟩
  obtain ⟨g, hpg, hcells⟩ : ∃ g, pw = some ⟨g, 0, none⟩ ∧ ∀ j, j < L.length → w1.cell? ⟨g, j, none⟩ = some (tx (L.getD j [])) := by
    obtain ⟨p', c', h1, h2⟩ := hrow
    cases h1
    rcases h2 with h2 | ⟨g, h3, h4⟩
    · rw [HLN.out] at h2; omega
    · exact ⟨g, h3, h4⟩
  subst hpg
  obtain ⟨q, hq1, hq2⟩ := tail_run g n cw hn1
  obtain ⟨n1, hn1e⟩ : ∃ z, n - 1 = z := ⟨_, rfl⟩
  obtain ⟨c1, hc1e⟩ : ∃ z, cw - 1 = z := ⟨_, rfl⟩
  obtain ⟨wb, hwb⟩ : ∃ z : ByteArray, (⟨w0.toArray⟩ : ByteArray) = z := ⟨_, rfl⟩
  have hc0 : w1.cell? ⟨g, 0, none⟩ = some (.string wb) := by
    have h := hcells 0 (by rw [HLN.out]; omega)
    rw [HLC.out] at h
    rw [← hwb]; exact h
  have HWS := Lib.hid (show WsAt w1 q ws from by
    by_cases h2 : n = 1
    · exact .inl (by rw [HWN.out]; omega)
    · refine .inr ⟨g, 1, hq2 (by omega), fun j hj => ?_⟩
      have h := hcells (1 + j) (by have := HLN.out; have := HWN.out; omega)
      rw [h, HLC.out, Nat.add_comm]; rfl)
  have HQ := Lib.hid (hn1e ▸ hc1e ▸ hq1)
  have HWB := Lib.hid (show wb.data.toList = w0 by rw [← hwb])
  have HC0 := Lib.hid hc0
  have HB1 := Lib.hid (HB.out.trans (hb1.mono HB.out.size))
  have HR1 := Lib.hid ((hb1.block _ (Array.getElem?_eq_some_iff.1 HR.out).1).trans HR.out)
  have HN1 := Lib.hid hn1e
  have hn1l : n1 ≤ 50001 := by omega
  clear hrow hcw hb1 hcells hq1 hq2 hn1e hc1e hwb hc0 KW
  go_wp2_with fail
  go_loopw [5] (fun v wr => ∃ k : Nat, 1 ≤ k ∧ k ≤ 10 ∧ v = .int .i64 k ∧ (o = none ∨ ∀ i, i + 1 < k → (Sc.stepT.getD i (0, [], [])).2.1 ≠ w0) ∧ wr.heap[S]? = some (stObj Sc.St.zero (.slice none 0 0)) ∧ Below w.heap.size w wr ∧ Below w1.heap.size w1 wr) (fun i _ => 10 - (intOf i).toNat)
  case atStart => exact ⟨1, by omega, by omega, rfl, .inr (fun i hi => by omega), HR1.out, HB1.out, Below.refl _ _⟩
  case round =>
    obtain ⟨k, hk1, hk2, rfl, hinv, hS2, hbw, hb1w⟩ := hrel
    have HI := Lib.hid hinv
    have HS2 := Lib.hid hS2
    have HBW := Lib.hid hbw
    have HB1W := Lib.hid hb1w
    clear hinv hS2 hbw hb1w
    by_cases hle : k ≤ 9
    · have hI : (k : Int) ≤ 9 := by omega
      obtain ⟨t1, t2, t3⟩ := tab_at (T := Sc.stepT) (.inl rfl) hk1 hle
      have KS := rf_Shape (k : Int) wr
      obtain ⟨f1, f2, f3⟩ := shP_facts (T := Sc.stepT) (.inl rfl) (k : Int)
      obtain ⟨nm, hnm⟩ : ∃ z : ByteArray, (⟨(shN Sc.stepT (k : Int)).toArray⟩ : ByteArray) = z := ⟨_, rfl⟩
      obtain ⟨ps, hps⟩ : ∃ z : ByteArray, (⟨(shP Sc.stepT (k : Int)).toArray⟩ : ByteArray) = z := ⟨_, rfl⟩
      rw [hnm, hps] at KS
      have e1 : nm.data.toList = (Sc.stepT.getD (k - 1) (0, [], [])).2.1 := by rw [← hnm, ← t2]
      have e2 : ps.data.toList = (Sc.stepT.getD (k - 1) (0, [], [])).2.2 := by rw [← hps, ← t3]
      have s2 : ps.size ≤ 3 := by rw [← hps]; exact f2
      have HPP := Lib.hid (show ∀ q ∈ ps.data.toList, Sc.isP q by rw [← hps]; exact f1)
      have KS := Lib.hid KS
      have HE1 := Lib.hid e1
      have HE2 := Lib.hid e2
      have HT0 := Lib.hid t1
      clear f1 f2 f3 hnm hps e1 e2 t1 t2 t3
      by_cases hq : (Sc.stepT.getD (k - 1) (0, [], [])).2.1 = w0
      · have q1 : (nm.toList == wb.toList) = true := by rw [ByteArray.toList_eq, ByteArray.toList_eq, HE1.out, HWB.out, hq]; exact beq_self_eq_true _
        have HO := HT1.out (k - 1) (by omega) hq
        rw [HT0.out, ← HE2.out] at HO
        obtain ⟨rr, hrr⟩ : ∃ z, Sc.reads ps.data.toList ws Sc.St.zero = z := ⟨_, rfl⟩
        rw [hrr] at HO
        have HO := Lib.hid HO
        have HRR := Lib.hid hrr
        clear hq hrr
        go_wp2_with fail
        refine KS.out.mono ?_
        rintro e w2 ⟨rfl, hb2⟩
        have HB2 := Lib.hid (HBW.out.trans (hb2.mono HBW.out.size))
        have HB12 := Lib.hid (HB1W.out.trans (hb2.mono HB1W.out.size))
        have HS3 := Lib.hid ((hb2.block _ (Array.getElem?_eq_some_iff.1 HS2.out).1).trans HS2.out)
        have hc0 := cell_below HB12.out HC0.out
        have KP := rf_parse ps q n1 c1 ws w2 (by rw [HWN.out, HN1.out]) (HWS.out.below HB12.out) HPP.out s2 HWL.out (by omega)
        rw [HRR.out] at KP
        have KP := Lib.hid KP
        have hsl := HQ.out
        clear hb2
        go_wp2_with fail
        refine KP.out.mono ?_
        rintro e w3 ⟨one, rfl, hone, hy, hb3⟩
        have HB3 := Lib.hid (HB2.out.trans (hb3.mono HB2.out.size))
        have HB13 := Lib.hid (HB12.out.trans (hb3.mono HB12.out.size))
        have HS4 := Lib.hid ((hb3.block _ (Array.getElem?_eq_some_iff.1 HS3.out).1).trans HS3.out)
        clear hb3 hc0 hsl KP
        cases rr with
        | none =>
          obtain ⟨y0, rfl⟩ := hone
          clear hy
          unfold oneVal
          obtain ⟨Z, hZ⟩ : ∃ z, w3.heap.size = z := ⟨_, rfl⟩
          obtain ⟨bb, hbb⟩ : ∃ z : ByteArray, (⟨y0.bytes.toArray⟩ : ByteArray) = z := ⟨_, rfl⟩
          rw [hbb]
          obtain ⟨w4, hw4⟩ : ∃ z, w3.alloc (.cells #[.int .u64 (y0.n : Int), .int .u64 (y0.draw : Int), .int .u64 (y0.conn : Int), .int .i64 y0.topic, .string bb] 92) = z := ⟨_, rfl⟩
          have hb4 : Below w3.heap.size w3 w4 := by rw [← hw4]; exact (Below.refl _ _).alloc (Nat.le_refl _) _
          have HB4 := Lib.hid (HB3.out.trans (hb4.mono HB3.out.size))
          have HB14 := Lib.hid (HB13.out.trans (hb4.mono HB13.out.size))
          have HS5 := Lib.hid ((hb4.block _ (Array.getElem?_eq_some_iff.1 HS4.out).1).trans HS4.out)
          have HW4 := Lib.hid hw4
          have HZ := Lib.hid hZ
          clear hb4 hw4 hZ hbb
          go_upto_region 8 with (fail)
          rw [HZ.out, HW4.out]
          go_wp2_with fail
          go_roundw
          case rel => exact ⟨k + 1, by omega, by omega, by go_num, .inl HO.out, HS5.out, HB4.out, HB14.out⟩
          case measure => simp [intOf]; omega
        | some y =>
          have hy1 := hy y rfl
          subst hy1
          clear hy hone
          unfold oneVal
          obtain ⟨Z, hZ⟩ : ∃ z, w3.heap.size = z := ⟨_, rfl⟩
          obtain ⟨bb, hbb⟩ : ∃ z : ByteArray, (⟨y.bytes.toArray⟩ : ByteArray) = z := ⟨_, rfl⟩
          rw [hbb]
          obtain ⟨w4, hw4⟩ : ∃ z, w3.alloc (.cells #[.int .u64 (y.n : Int), .int .u64 (y.draw : Int), .int .u64 (y.conn : Int), .int .i64 y.topic, .string bb] 92) = z := ⟨_, rfl⟩
          have hb4 : Below w3.heap.size w3 w4 := by rw [← hw4]; exact (Below.refl _ _).alloc (Nat.le_refl _) _
          have hZ4 : w4.heap[Z]? = some (.cells #[.int .u64 (y.n : Int), .int .u64 (y.draw : Int), .int .u64 (y.conn : Int), .int .i64 y.topic, .string bb] 92 (0, 0)) := by rw [← hw4, ← hZ]; exact World.alloc_heap_new _ _
          have HB4 := Lib.hid (HB3.out.trans (hb4.mono HB3.out.size))
          have HB14 := Lib.hid (HB13.out.trans (hb4.mono HB13.out.size))
          have HS5 := Lib.hid ((hb4.block _ (Array.getElem?_eq_some_iff.1 HS4.out).1).trans HS4.out)
          have HW4 := Lib.hid hw4
          have HZ := Lib.hid hZ
          have z0 : w4.cell? ⟨Z, 0, none⟩ = some (.int .u64 (y.n : Int)) := by simp [World.cell?, hZ4]
          have z1 : w4.cell? ⟨Z, 1, none⟩ = some (.int .u64 (y.draw : Int)) := by simp [World.cell?, hZ4]
          have z2 : w4.cell? ⟨Z, 2, none⟩ = some (.int .u64 (y.conn : Int)) := by simp [World.cell?, hZ4]
          have z3 : w4.cell? ⟨Z, 3, none⟩ = some (.int .i64 y.topic) := by simp [World.cell?, hZ4]
          have z4 : w4.cell? ⟨Z, 4, none⟩ = some (.string bb) := by simp [World.cell?, hZ4]
          have hbl : bb.data.toList = y.bytes := by rw [← hbb]
          clear hb4 hw4 hZ hZ4 hbb
          obtain ⟨w5, hw5⟩ : ∃ z, Lib.bytesWorld w4 5 bb = z := ⟨_, rfl⟩
          have hb5 : Below w4.heap.size w4 w5 := by rw [← hw5]; exact below_bytesWorld _ _ _ _ (Nat.le_refl _)
          have hcv := Lib.run_convert_string_bytes (P := Tryz.prog) w4 9 24 5 bb Tryz.underlying9 Tryz.underlying24 Tryz.underlying5
          have hge := grownCap_ge w4 bb.size 0 5
          obtain ⟨cp, hcp⟩ : ∃ z, grownCap w4 bb.size 0 5 = z := ⟨_, rfl⟩
          obtain ⟨G, hG⟩ : ∃ z, w4.heap.size = z := ⟨_, rfl⟩
          have HBV := Lib.hid (show BRow w5 (.slice (some ⟨G, 0, none⟩) bb.size cp) y.bytes from by
            rw [← hw5, ← hbl]
            exact ⟨_, cp, rfl, by rw [← hcp]; exact hge, .inr ⟨G, 0, rfl, fun j hj => by rw [Nat.zero_add]; have := Lib.bytesWorld_cell w4 5 bb j hj; rw [hG] at this; exact this⟩⟩)
          have HNV := Lib.hid (show NewV w.heap.size (.slice (some ⟨G, 0, none⟩) bb.size cp) from fun g hg => by
            have h1 : G = g := by simpa [Value.ownBlock] using hg
            have h2 := HB4.out.size
            omega)
          rw [hw5, hcp, hG] at hcv
          have hS6 : w5.heap[S]? = some (stObj Sc.St.zero (.slice none 0 0)) := (hb5.block _ (Array.getElem?_eq_some_iff.1 HS5.out).1).trans HS5.out
          have HB5 := Lib.hid (HB4.out.trans (hb5.mono HB4.out.size))
          have HS6 := Lib.hid hS6
          obtain ⟨s0, s1, s2', s3, s4, s5, sf⟩ := SR.of hS6
          have f0 := sf 0
          have f1 := sf 1
          have f2 := sf 2
          have f3 := sf 3
          have f4 := sf 4
          have f5 := sf 5
          clear hw5 hb5 hge hcp hG hbl hS6 sf
          go_upto_region 8 with (fail)
          rw [HZ.out, HW4.out]
          skip
          go_wp2_with fail
          obtain ⟨X, hX⟩ : ∃ X, stS w5 S { y with kind := (k : Int) } (.slice (some ⟨G, 0, none⟩) bb.size cp) = X := ⟨_, rfl⟩
          have hX6 : X.heap[S]? = some (stObj { y with kind := (k : Int) } (.slice (some ⟨G, 0, none⟩) bb.size cp)) := by rw [← hX]; exact stS_heap HS6.out _ _
          have HBX := Lib.hid (show Below w.heap.size w X by rw [← hX]; exact stS_below _ _ HB5.out (Nat.le_of_eq HSS.out))
          have HBV2 := Lib.hid (show BRow X (.slice (some ⟨G, 0, none⟩) bb.size cp) y.bytes by rw [← hX]; exact brow_other HBV.out HS6.out ⟨_, _, _, rfl⟩ (stS_keep _ _ _ _))
          unfold stS at hX
          (try simp only at hX)
          rw [hX]
          obtain ⟨x0, x1, x2, x3, x4, x5, _⟩ := SR.of hX6
          clear hX hX6 s0 s1 s2' s3 s4 s5 f0 f1 f2 f3 f4 f5
          simp [bodyPost, results, Tryz.results19, go_sem, x0, x1, x2, x3, x4, x5]
          rw [HO.out]
          exact ⟨_, ⟨rfl, rfl⟩, HBV2.out, HNV.out, HBX.out⟩
      · have q1 : (nm.toList == wb.toList) = false := by
          rw [beq_eq_false_iff_ne, ByteArray.toList_eq, ByteArray.toList_eq, HE1.out, HWB.out]
          exact hq
        have HI2 := Lib.hid (show o = none ∨ ∀ i, i + 1 < k + 1 → (Sc.stepT.getD i (0, [], [])).2.1 ≠ w0 from HI.out.imp id (fun h i hi => by
          by_cases e : i + 1 < k
          · exact h i e
          · obtain rfl : i = k - 1 := by omega
            exact hq))
        clear hq
        go_wp2_with fail
        refine KS.out.mono ?_
        rintro e w2 ⟨rfl, hb2⟩
        have HB2 := Lib.hid (HBW.out.trans (hb2.mono HBW.out.size))
        have HB12 := Lib.hid (HB1W.out.trans (hb2.mono HB1W.out.size))
        have HS3 := Lib.hid ((hb2.block _ (Array.getElem?_eq_some_iff.1 HS2.out).1).trans HS2.out)
        have hc0 := cell_below HB12.out HC0.out
        clear hb2
        go_wp2_with fail
        go_roundw
        case rel => exact ⟨k + 1, by omega, by omega, by go_num, HI2.out, HS3.out, HB2.out, HB12.out⟩
        case measure => simp [intOf]; omega
    · have hI : ¬ (k : Int) ≤ 9 := by omega
      have HO := Lib.hid (show o = none from HI.out.elim id (fun h => HT2.out (fun i hi => h i (by omega))))
      obtain ⟨s0, s1, s2', s3, s4, s5, sf⟩ := SR.of HS2.out
      have f0 := sf 0
      have f1 := sf 1
      have f2 := sf 2
      have f3 := sf 3
      have f4 := sf 4
      have f5 := sf 5
      clear sf
      go_wp2_with fail
      obtain ⟨X, hX⟩ : ∃ X, stS wr S Sc.St.zero (.slice none 0 0) = X := ⟨_, rfl⟩
      have hX6 : X.heap[S]? = some (stObj Sc.St.zero (.slice none 0 0)) := by rw [← hX]; exact stS_heap HS2.out _ _
      have HBX := Lib.hid (show Below w.heap.size w X by rw [← hX]; exact stS_below _ _ HBW.out (Nat.le_of_eq HSS.out))
      unfold stS Sc.St.zero at hX
      simp only [show ((0 : Nat) : Int) = 0 from rfl] at hX
      rw [hX]
      obtain ⟨x0, x1, x2, x3, x4, x5, _⟩ := SR.of hX6
      unfold Sc.St.zero at x0 x1 x2 x3 x4
      clear hX hX6 s0 s1 s2' s3 s4 s5 f0 f1 f2 f3 f4 f5
      simp [bodyPost, results, Tryz.results19, go_sem, x0, x1, x2, x3, x4, x5]
      rw [HO.out]
      exact ⟨_, ⟨rfl, rfl⟩, BRow.nil _, (fun g hg => by simp [Value.ownBlock] at hg), HBX.out⟩
theorem rf_OutParse (s : ByteArray) (w : World) (hs : s.size ≤ 50000) :
    Calls Tryz.prog 20 #[.string s] w fun e w' => ∃ u, e = .returned (.tuple #[otVal (otk (Sc.parse Sc.outT s.data.toList)) (ots (Sc.parse Sc.outT s.data.toList)) u, .int .i64 (erS (Sc.parse Sc.outT s.data.toList))]) ∧ BRow w' u (ots (Sc.parse Sc.outT s.data.toList)).bytes ∧ NewV w.heap.size u ∧ Below w.heap.size w w' := by
  obtain ⟨o, ho⟩ : ∃ z, Sc.parse Sc.outT s.data.toList = z := ⟨_, rfl⟩
  rw [ho]
  obtain ⟨S, hS⟩ : ∃ z, w.heap.size = z := ⟨_, rfl⟩
  obtain ⟨W, hW⟩ : ∃ z, w.alloc (.cells #[.int .i64 0, .int .u64 0, .int .i64 0, .slice none 0 0] 29) = z := ⟨_, rfl⟩
  have hb : Below w.heap.size w W := by rw [← hW]; exact (Below.refl _ _).alloc (Nat.le_refl _) _
  have hr : W.heap[S]? = some (otObj 0 Sc.St.zero (.slice none 0 0)) := by rw [← hW, ← hS]; exact World.alloc_heap_new _ _
  have KW := rf_words s 32 W (by omega)
  obtain ⟨L, hL⟩ : ∃ z, Gs.parts 32 [] s.data.toList = z := ⟨_, rfl⟩
  obtain ⟨n, hn⟩ : ∃ z, L.length = z := ⟨_, rfl⟩
  rw [hL, hn, show ((32 : UInt8).toNat : Int) = 32 from rfl] at KW
  have hn1 : 1 ≤ n := by rw [← hn, ← hL]; exact List.length_pos_iff.2 (Gs.parts_ne _ _ _)
  have hnl : n ≤ 50001 := by
    have h1 := Gs.parts_many 32 s.data.toList []
    have h2 : s.data.toList.length = s.size := rfl
    rw [hL, hn] at h1
    omega
  have hwl : ∀ t ∈ L, t.length ≤ 50000 := fun t ht => by
    rw [← hL] at ht
    have h1 := Gs.parts_len 32 _ _ t ht
    have h2 : s.data.toList.length = s.size := rfl
    rw [h2] at h1
    simp only [List.length_nil] at h1
    omega
  obtain ⟨w0, ws, hLc⟩ : ∃ a b, L = a :: b := by
    cases L with
    | nil => rw [List.length_nil] at hn; omega
    | cons a b => exact ⟨a, b, rfl⟩
  have hwn : ws.length = n - 1 := by rw [← hn, hLc]; rfl
  have HT1 := Lib.hid (show ∀ i, i < 6 → (Sc.outT.getD i (0, [], [])).2.1 = w0 → o = (Sc.reads (Sc.outT.getD i (0, [], [])).2.2 ws Sc.St.zero).map fun x => ((Sc.outT.getD i (0, [], [])).1, x) from fun i hi he => ho.symm.trans (parse_hit (.inr rfl) (hL.trans hLc) hi he))
  have HT2 := Lib.hid (show (∀ i, i < 6 → (Sc.outT.getD i (0, [], [])).2.1 ≠ w0) → o = none from fun h => ho.symm.trans (parse_miss (hL.trans hLc) h))
  have HWL := Lib.hid (show ∀ t ∈ ws, t.length ≤ 50000 from fun t ht => hwl t (by rw [hLc]; exact List.mem_cons_of_mem _ ht))
  have HLC := Lib.hid hLc
  have HLN := Lib.hid hn
  have HWN := Lib.hid hwn
  have KW := Lib.hid KW
  have HB := Lib.hid hb
  have HR := Lib.hid hr
  have HSS := Lib.hid hS
  have HWW := Lib.hid hW
  clear hb hr hS hW hL hn hwl hLc hwn ho
  go_enter Tryz.func20, Tryz.ntmps20
  go_upto_region 1 with (fail)
  rw [HSS.out, HWW.out]
  go_wp2_with fail
  refine KW.out.mono ?_
  rintro e w1 ⟨r, rfl, hrow, ⟨pw, cw, rfl, hcw⟩, hb1⟩
  obtain ⟨g, hpg, hcells⟩ : ∃ g, pw = some ⟨g, 0, none⟩ ∧ ∀ j, j < L.length → w1.cell? ⟨g, j, none⟩ = some (tx (L.getD j [])) := by
    obtain ⟨p', c', h1, h2⟩ := hrow
    cases h1
    rcases h2 with h2 | ⟨g, h3, h4⟩
    · rw [HLN.out] at h2; omega
    · exact ⟨g, h3, h4⟩
  subst hpg
  obtain ⟨q, hq1, hq2⟩ := tail_run g n cw hn1
  obtain ⟨n1, hn1e⟩ : ∃ z, n - 1 = z := ⟨_, rfl⟩
  obtain ⟨c1, hc1e⟩ : ∃ z, cw - 1 = z := ⟨_, rfl⟩
  obtain ⟨wb, hwb⟩ : ∃ z : ByteArray, (⟨w0.toArray⟩ : ByteArray) = z := ⟨_, rfl⟩
  have hc0 : w1.cell? ⟨g, 0, none⟩ = some (.string wb) := by
    have h := hcells 0 (by rw [HLN.out]; omega)
    rw [HLC.out] at h
    rw [← hwb]; exact h
  have HWS := Lib.hid (show WsAt w1 q ws from by
    by_cases h2 : n = 1
    · exact .inl (by rw [HWN.out]; omega)
    · refine .inr ⟨g, 1, hq2 (by omega), fun j hj => ?_⟩
      have h := hcells (1 + j) (by have := HLN.out; have := HWN.out; omega)
      rw [h, HLC.out, Nat.add_comm]; rfl)
  have HQ := Lib.hid (hn1e ▸ hc1e ▸ hq1)
  have HWB := Lib.hid (show wb.data.toList = w0 by rw [← hwb])
  have HC0 := Lib.hid hc0
  have HB1 := Lib.hid (HB.out.trans (hb1.mono HB.out.size))
  have HR1 := Lib.hid ((hb1.block _ (Array.getElem?_eq_some_iff.1 HR.out).1).trans HR.out)
  have HN1 := Lib.hid hn1e
  have hn1l : n1 ≤ 50001 := by omega
  clear hrow hcw hb1 hcells hq1 hq2 hn1e hc1e hwb hc0 KW
  go_wp2_with fail
  go_loopw [5] (fun v wr => ∃ k : Nat, 1 ≤ k ∧ k ≤ 7 ∧ v = .int .i64 k ∧ (o = none ∨ ∀ i, i + 1 < k → (Sc.outT.getD i (0, [], [])).2.1 ≠ w0) ∧ wr.heap[S]? = some (otObj 0 Sc.St.zero (.slice none 0 0)) ∧ Below w.heap.size w wr ∧ Below w1.heap.size w1 wr) (fun i _ => 7 - (intOf i).toNat)
  case atStart => exact ⟨1, by omega, by omega, rfl, .inr (fun i hi => by omega), HR1.out, HB1.out, Below.refl _ _⟩
  case round =>
    obtain ⟨k, hk1, hk2, rfl, hinv, hS2, hbw, hb1w⟩ := hrel
    have HI := Lib.hid hinv
    have HS2 := Lib.hid hS2
    have HBW := Lib.hid hbw
    have HB1W := Lib.hid hb1w
    clear hinv hS2 hbw hb1w
    by_cases hle : k ≤ 6
    · have hI : (k : Int) ≤ 6 := by omega
      obtain ⟨t1, t2, t3⟩ := tab_at (T := Sc.outT) (.inr rfl) hk1 hle
      have KS := rf_OutShape (k : Int) wr
      obtain ⟨f1, f2, f3⟩ := shP_facts (T := Sc.outT) (.inr rfl) (k : Int)
      obtain ⟨nm, hnm⟩ : ∃ z : ByteArray, (⟨(shN Sc.outT (k : Int)).toArray⟩ : ByteArray) = z := ⟨_, rfl⟩
      obtain ⟨ps, hps⟩ : ∃ z : ByteArray, (⟨(shP Sc.outT (k : Int)).toArray⟩ : ByteArray) = z := ⟨_, rfl⟩
      rw [hnm, hps] at KS
      have e1 : nm.data.toList = (Sc.outT.getD (k - 1) (0, [], [])).2.1 := by rw [← hnm, ← t2]
      have e2 : ps.data.toList = (Sc.outT.getD (k - 1) (0, [], [])).2.2 := by rw [← hps, ← t3]
      have s2 : ps.size ≤ 3 := by rw [← hps]; exact f2
      have HPP := Lib.hid (show ∀ q ∈ ps.data.toList, Sc.isP q by rw [← hps]; exact f1)
      have KS := Lib.hid KS
      have HE1 := Lib.hid e1
      have HE2 := Lib.hid e2
      have HT0 := Lib.hid t1
      clear f1 f2 f3 hnm hps e1 e2 t1 t2 t3
      by_cases hq : (Sc.outT.getD (k - 1) (0, [], [])).2.1 = w0
      · have q1 : (nm.toList == wb.toList) = true := by rw [ByteArray.toList_eq, ByteArray.toList_eq, HE1.out, HWB.out, hq]; exact beq_self_eq_true _
        have HO := HT1.out (k - 1) (by omega) hq
        rw [HT0.out, ← HE2.out] at HO
        obtain ⟨rr, hrr⟩ : ∃ z, Sc.reads ps.data.toList ws Sc.St.zero = z := ⟨_, rfl⟩
        rw [hrr] at HO
        have HO := Lib.hid HO
        have HRR := Lib.hid hrr
        clear hq hrr
        go_wp2_with fail
        refine KS.out.mono ?_
        rintro e w2 ⟨rfl, hb2⟩
        have HB2 := Lib.hid (HBW.out.trans (hb2.mono HBW.out.size))
        have HB12 := Lib.hid (HB1W.out.trans (hb2.mono HB1W.out.size))
        have HS3 := Lib.hid ((hb2.block _ (Array.getElem?_eq_some_iff.1 HS2.out).1).trans HS2.out)
        have hc0 := cell_below HB12.out HC0.out
        have KP := rf_parse ps q n1 c1 ws w2 (by rw [HWN.out, HN1.out]) (HWS.out.below HB12.out) HPP.out s2 HWL.out (by omega)
        rw [HRR.out] at KP
        have KP := Lib.hid KP
        have hsl := HQ.out
        clear hb2
        go_wp2_with fail
        refine KP.out.mono ?_
        rintro e w3 ⟨one, rfl, hone, hy, hb3⟩
        have HB3 := Lib.hid (HB2.out.trans (hb3.mono HB2.out.size))
        have HB13 := Lib.hid (HB12.out.trans (hb3.mono HB12.out.size))
        have HS4 := Lib.hid ((hb3.block _ (Array.getElem?_eq_some_iff.1 HS3.out).1).trans HS3.out)
        clear hb3 hc0 hsl KP
        cases rr with
        | none =>
          obtain ⟨y0, rfl⟩ := hone
          clear hy
          unfold oneVal
          obtain ⟨Z, hZ⟩ : ∃ z, w3.heap.size = z := ⟨_, rfl⟩
          obtain ⟨bb, hbb⟩ : ∃ z : ByteArray, (⟨y0.bytes.toArray⟩ : ByteArray) = z := ⟨_, rfl⟩
          rw [hbb]
          obtain ⟨w4, hw4⟩ : ∃ z, w3.alloc (.cells #[.int .u64 (y0.n : Int), .int .u64 (y0.draw : Int), .int .u64 (y0.conn : Int), .int .i64 y0.topic, .string bb] 92) = z := ⟨_, rfl⟩
          have hb4 : Below w3.heap.size w3 w4 := by rw [← hw4]; exact (Below.refl _ _).alloc (Nat.le_refl _) _
          have HB4 := Lib.hid (HB3.out.trans (hb4.mono HB3.out.size))
          have HB14 := Lib.hid (HB13.out.trans (hb4.mono HB13.out.size))
          have HS5 := Lib.hid ((hb4.block _ (Array.getElem?_eq_some_iff.1 HS4.out).1).trans HS4.out)
          have HW4 := Lib.hid hw4
          have HZ := Lib.hid hZ
          clear hb4 hw4 hZ hbb
          go_upto_region 8 with (fail)
          rw [HZ.out, HW4.out]
          go_wp2_with fail
          go_roundw
          case rel => exact ⟨k + 1, by omega, by omega, by go_num, .inl HO.out, HS5.out, HB4.out, HB14.out⟩
          case measure => simp [intOf]; omega
        | some y =>
          have hy1 := hy y rfl
          subst hy1
          clear hy hone
          unfold oneVal
          obtain ⟨Z, hZ⟩ : ∃ z, w3.heap.size = z := ⟨_, rfl⟩
          obtain ⟨bb, hbb⟩ : ∃ z : ByteArray, (⟨y.bytes.toArray⟩ : ByteArray) = z := ⟨_, rfl⟩
          rw [hbb]
          obtain ⟨w4, hw4⟩ : ∃ z, w3.alloc (.cells #[.int .u64 (y.n : Int), .int .u64 (y.draw : Int), .int .u64 (y.conn : Int), .int .i64 y.topic, .string bb] 92) = z := ⟨_, rfl⟩
          have hb4 : Below w3.heap.size w3 w4 := by rw [← hw4]; exact (Below.refl _ _).alloc (Nat.le_refl _) _
          have hZ4 : w4.heap[Z]? = some (.cells #[.int .u64 (y.n : Int), .int .u64 (y.draw : Int), .int .u64 (y.conn : Int), .int .i64 y.topic, .string bb] 92 (0, 0)) := by rw [← hw4, ← hZ]; exact World.alloc_heap_new _ _
          have HB4 := Lib.hid (HB3.out.trans (hb4.mono HB3.out.size))
          have HB14 := Lib.hid (HB13.out.trans (hb4.mono HB13.out.size))
          have HS5 := Lib.hid ((hb4.block _ (Array.getElem?_eq_some_iff.1 HS4.out).1).trans HS4.out)
          have HW4 := Lib.hid hw4
          have HZ := Lib.hid hZ
          have z0 : w4.cell? ⟨Z, 0, none⟩ = some (.int .u64 (y.n : Int)) := by simp [World.cell?, hZ4]
          have z1 : w4.cell? ⟨Z, 1, none⟩ = some (.int .u64 (y.draw : Int)) := by simp [World.cell?, hZ4]
          have z2 : w4.cell? ⟨Z, 2, none⟩ = some (.int .u64 (y.conn : Int)) := by simp [World.cell?, hZ4]
          have z3 : w4.cell? ⟨Z, 3, none⟩ = some (.int .i64 y.topic) := by simp [World.cell?, hZ4]
          have z4 : w4.cell? ⟨Z, 4, none⟩ = some (.string bb) := by simp [World.cell?, hZ4]
          have hbl : bb.data.toList = y.bytes := by rw [← hbb]
          clear hb4 hw4 hZ hZ4 hbb
          obtain ⟨w5, hw5⟩ : ∃ z, Lib.bytesWorld w4 5 bb = z := ⟨_, rfl⟩
          have hb5 : Below w4.heap.size w4 w5 := by rw [← hw5]; exact below_bytesWorld _ _ _ _ (Nat.le_refl _)
          have hcv := Lib.run_convert_string_bytes (P := Tryz.prog) w4 9 24 5 bb Tryz.underlying9 Tryz.underlying24 Tryz.underlying5
          have hge := grownCap_ge w4 bb.size 0 5
          obtain ⟨cp, hcp⟩ : ∃ z, grownCap w4 bb.size 0 5 = z := ⟨_, rfl⟩
          obtain ⟨G, hG⟩ : ∃ z, w4.heap.size = z := ⟨_, rfl⟩
          have HBV := Lib.hid (show BRow w5 (.slice (some ⟨G, 0, none⟩) bb.size cp) y.bytes from by
            rw [← hw5, ← hbl]
            exact ⟨_, cp, rfl, by rw [← hcp]; exact hge, .inr ⟨G, 0, rfl, fun j hj => by rw [Nat.zero_add]; have := Lib.bytesWorld_cell w4 5 bb j hj; rw [hG] at this; exact this⟩⟩)
          have HNV := Lib.hid (show NewV w.heap.size (.slice (some ⟨G, 0, none⟩) bb.size cp) from fun g hg => by
            have h1 : G = g := by simpa [Value.ownBlock] using hg
            have h2 := HB4.out.size
            omega)
          rw [hw5, hcp, hG] at hcv
          have hS6 : w5.heap[S]? = some (otObj 0 Sc.St.zero (.slice none 0 0)) := (hb5.block _ (Array.getElem?_eq_some_iff.1 HS5.out).1).trans HS5.out
          have HB5 := Lib.hid (HB4.out.trans (hb5.mono HB4.out.size))
          have HS6 := Lib.hid hS6
          obtain ⟨s0, s1, s2', s3, sf⟩ := OR.of hS6
          have f0 := sf 0
          have f1 := sf 1
          have f2 := sf 2
          have f3 := sf 3
          skip
          clear hw5 hb5 hge hcp hG hbl hS6 sf
          go_upto_region 8 with (fail)
          rw [HZ.out, HW4.out]
          skip
          go_wp2_with fail
          obtain ⟨X, hX⟩ : ∃ X, stO w5 S (k : Int) y (.slice (some ⟨G, 0, none⟩) bb.size cp) = X := ⟨_, rfl⟩
          have hX6 : X.heap[S]? = some (otObj (k : Int) y (.slice (some ⟨G, 0, none⟩) bb.size cp)) := by rw [← hX]; exact stO_heap HS6.out _ _ _
          have HBX := Lib.hid (show Below w.heap.size w X by rw [← hX]; exact stO_below _ _ _ HB5.out (Nat.le_of_eq HSS.out))
          have HBV2 := Lib.hid (show BRow X (.slice (some ⟨G, 0, none⟩) bb.size cp) y.bytes by rw [← hX]; exact brow_otherO HBV.out HS6.out ⟨_, _, _, rfl⟩ (stO_keep _ _ _ _ _))
          unfold stO at hX
          (try simp only at hX)
          rw [hX]
          obtain ⟨x0, x1, x2, x3, _⟩ := OR.of hX6
          clear hX hX6 s0 s1 s2' s3 f0 f1 f2 f3
          simp [bodyPost, results, Tryz.results20, go_sem, x0, x1, x2, x3]
          rw [HO.out]
          exact ⟨_, ⟨rfl, rfl⟩, HBV2.out, HNV.out, HBX.out⟩
      · have q1 : (nm.toList == wb.toList) = false := by
          rw [beq_eq_false_iff_ne, ByteArray.toList_eq, ByteArray.toList_eq, HE1.out, HWB.out]
          exact hq
        have HI2 := Lib.hid (show o = none ∨ ∀ i, i + 1 < k + 1 → (Sc.outT.getD i (0, [], [])).2.1 ≠ w0 from HI.out.imp id (fun h i hi => by
          by_cases e : i + 1 < k
          · exact h i e
          · obtain rfl : i = k - 1 := by omega
            exact hq))
        clear hq
        go_wp2_with fail
        refine KS.out.mono ?_
        rintro e w2 ⟨rfl, hb2⟩
        have HB2 := Lib.hid (HBW.out.trans (hb2.mono HBW.out.size))
        have HB12 := Lib.hid (HB1W.out.trans (hb2.mono HB1W.out.size))
        have HS3 := Lib.hid ((hb2.block _ (Array.getElem?_eq_some_iff.1 HS2.out).1).trans HS2.out)
        have hc0 := cell_below HB12.out HC0.out
        clear hb2
        go_wp2_with fail
        go_roundw
        case rel => exact ⟨k + 1, by omega, by omega, by go_num, HI2.out, HS3.out, HB2.out, HB12.out⟩
        case measure => simp [intOf]; omega
    · have hI : ¬ (k : Int) ≤ 6 := by omega
      have HO := Lib.hid (show o = none from HI.out.elim id (fun h => HT2.out (fun i hi => h i (by omega))))
      obtain ⟨s0, s1, s2', s3, sf⟩ := OR.of HS2.out
      have f0 := sf 0
      have f1 := sf 1
      have f2 := sf 2
      have f3 := sf 3
      skip
      clear sf
      go_wp2_with fail
      obtain ⟨X, hX⟩ : ∃ X, stO wr S 0 Sc.St.zero (.slice none 0 0) = X := ⟨_, rfl⟩
      have hX6 : X.heap[S]? = some (otObj 0 Sc.St.zero (.slice none 0 0)) := by rw [← hX]; exact stO_heap HS2.out _ _ _
      have HBX := Lib.hid (show Below w.heap.size w X by rw [← hX]; exact stO_below _ _ _ HBW.out (Nat.le_of_eq HSS.out))
      unfold stO Sc.St.zero at hX
      simp only [show ((0 : Nat) : Int) = 0 from rfl] at hX
      rw [hX]
      obtain ⟨x0, x1, x2, x3, _⟩ := OR.of hX6
      unfold Sc.St.zero at x1 x2
      clear hX hX6 s0 s1 s2' s3 f0 f1 f2 f3
      simp [bodyPost, results, Tryz.results20, go_sem, x0, x1, x2, x3]
      rw [HO.out]
      exact ⟨_, ⟨rfl, rfl⟩, BRow.nil _, (fun g hg => by simp [Value.ownBlock] at hg), HBX.out⟩
end Go.Proofs.YtbaakfcbakpmpaaGreatDoor
