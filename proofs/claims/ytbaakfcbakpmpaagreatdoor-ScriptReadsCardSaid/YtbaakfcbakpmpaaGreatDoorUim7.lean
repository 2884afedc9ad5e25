/- Texts of this claim, one behind the other: Ud, Ue, Up, Uf, Ug, Uh, Ui. -/
import Derived.Test.YtbaakfcbakpmpaaGreatDoorUim6
import Derived.Test.YtbaakfcbakpmpaaGreatDoorUim2
import Derived.Test.YtbaakfcbakpmpaaGreatDoorUim3
import Derived.Laws.AppendOwnNone
/- script: the reference's parse. No conditions but those that each law states. Printed by genUd.py. -/
namespace Go.Proofs.YtbaakfcbakpmpaaGreatDoor
set_option linter.unusedVariables false
set_option linter.unusedSimpArgs false
open Go.RowKit Go.Shelf
set_option maxHeartbeats 8000000
set_option maxRecDepth 100000
/-- what words say, as the reference has it -/
def oneVal (y : Sc.St) : Value := .agg #[.int .u64 (y.n : Int), .int .u64 (y.draw : Int), .int .u64 (y.conn : Int), .int .i64 y.topic, .string ⟨y.bytes.toArray⟩]
def oneObj (y : Sc.St) (yb : ByteArray) : Obj := .cells #[.int .u64 (y.n : Int), .int .u64 (y.draw : Int), .int .u64 (y.conn : Int), .int .i64 y.topic, .string yb] 92 (0, 0)
structure OneR (w : World) (R : Nat) (y : Sc.St) (yb : ByteArray) : Prop where
  c0 : w.cell? ⟨R, 0, none⟩ = some (.int .u64 (y.n : Int))
  c1 : w.cell? ⟨R, 1, none⟩ = some (.int .u64 (y.draw : Int))
  c2 : w.cell? ⟨R, 2, none⟩ = some (.int .u64 (y.conn : Int))
  c3 : w.cell? ⟨R, 3, none⟩ = some (.int .i64 y.topic)
  c4 : w.cell? ⟨R, 4, none⟩ = some (.string yb)
  fr : ∀ i, w.frozen? ⟨R, i, none⟩ = false
theorem OneR.of {w : World} {R : Nat} {y : Sc.St} {yb : ByteArray} (h : w.heap[R]? = some (oneObj y yb)) : OneR w R y yb := by
  unfold oneObj at h
  refine ⟨?_, ?_, ?_, ?_, ?_, fun i => frozen_of_row _ _ _ _ _ h⟩ <;> simp [World.cell?, h]
theorem one_end {w W W' : World} {A : Nat} {z y : Sc.St} {zb yb : ByteArray} (hr : W.heap[A]? = some (oneObj z zb)) (hb : Below w.heap.size w W) (hA : w.heap.size ≤ A)
    (hW : ((((W.setCell ⟨A, 0, none⟩ (.int .u64 (y.n : Int))).setCell ⟨A, 1, none⟩ (.int .u64 (y.draw : Int))).setCell ⟨A, 2, none⟩ (.int .u64 (y.conn : Int))).setCell ⟨A, 3, none⟩ (.int .i64 y.topic)).setCell ⟨A, 4, none⟩ (.string yb) = W') : OneR W' A y yb ∧ Below w.heap.size w W' := by
  unfold oneObj at hr
  have h1 := heap_setCell_same W A 0 _ _ (.int .u64 (y.n : Int)) hr
  have h2 := heap_setCell_same _ A 1 _ _ (.int .u64 (y.draw : Int)) h1
  have h3 := heap_setCell_same _ A 2 _ _ (.int .u64 (y.conn : Int)) h2
  have h4 := heap_setCell_same _ A 3 _ _ (.int .i64 y.topic) h3
  have h5 := heap_setCell_same _ A 4 _ _ (.string yb) h4
  rw [hW] at h5
  refine ⟨OneR.of (by rw [h5]; unfold oneObj; simp), ?_⟩
  rw [← hW]
  exact ((((hb.setCell (p := ⟨A, 0, none⟩) hA _).setCell (p := ⟨A, 1, none⟩) hA _).setCell (p := ⟨A, 2, none⟩) hA _).setCell (p := ⟨A, 3, none⟩) hA _).setCell (p := ⟨A, 4, none⟩) hA _
/-- words that lie so -/
def WsAt (w : World) (p : Option Addr) (ws : List (List UInt8)) : Prop := ws.length = 0 ∨ ∃ g o, p = some ⟨g, o, none⟩ ∧ ∀ j, j < ws.length → w.cell? ⟨g, o + j, none⟩ = some (tx (ws.getD j []))
theorem WsAt.below {w w' : World} {p : Option Addr} {ws : List (List UInt8)} (h : WsAt w p ws) (hb : Below w.heap.size w w') : WsAt w' p ws := h.imp id (fun ⟨g, o, h1, h2⟩ => ⟨g, o, h1, fun j hj => cell_below hb (h2 j hj)⟩)
def rpY (g : Nat) (o j m c : Nat) (bb eb tb sb : ByteArray) : Nat → World → Value → Prop
  | 0, _, v => v = .int .i64 0
  | 1, _, v => v = .bool false
  | 2, _, v => v = .bool false
  | 3, _, v => v = .string bb
  | 4, _, v => v = .string eb
  | 5, _, v => v = .slice (some ⟨g, o, none⟩) m c
  | 6, _, v => v = .int .i64 (j : Int)
  | 7, _, v => v = .pointer (some ⟨g, o + j, none⟩)
  | 8, _, v => v = .string tb
  | 9, _, v => v = .string sb
  | 10, _, v => v = .bool (!(eb.toList == sb.toList))
  | 11, _, v => v = .bool (!(eb.toList == sb.toList))
  | _, _, _ => False
def rpN  : Nat → World → Value → Prop
  | 0, _, v => v = .int .i64 210
  | 1, _, v => v = .bool true
  | 2, _, v => v = .bool true
  | 3, _, v => v = undef
  | 4, _, v => v = undef
  | 5, _, v => v = undef
  | 6, _, v => v = undef
  | 7, _, v => v = undef
  | 8, _, v => v = undef
  | 9, _, v => v = undef
  | 10, _, v => v = undef
  | 11, _, v => v = .bool true
  | _, _, _ => False
theorem rf_parse (ps : ByteArray) (p : Option Addr) (n c : Nat) (ws : List (List UInt8)) (w : World) (hn : ws.length = n) (hw : WsAt w p ws) (hps : ∀ q ∈ ps.data.toList, Sc.isP q) (hpl : ps.size ≤ 3) (hws : ∀ t ∈ ws, t.length ≤ 50000) (hnl : n ≤ 60000) :
    Calls Tryz.prog 50 #[.string ps, .slice p n c] w fun e w' => ∃ one, e = .returned (.tuple #[one, .bool (Sc.reads ps.data.toList ws Sc.St.zero).isSome]) ∧ (∃ y, one = oneVal y) ∧ (∀ y, Sc.reads ps.data.toList ws Sc.St.zero = some y → one = oneVal y) ∧ Below w.heap.size w w' := by
  obtain ⟨A, hA⟩ : ∃ z, w.heap.size = z := ⟨_, rfl⟩
  obtain ⟨W, hW⟩ : ∃ z, (w.alloc (.cells #[.int .u64 0, .int .u64 0, .int .u64 0, .int .i64 0, .string ⟨#[]⟩] 92)).alloc (.cells #[.int .u64 0, .int .u64 0, .int .u64 0, .int .i64 0, .string ⟨#[]⟩] 92) = z := ⟨_, rfl⟩
  have hb : Below w.heap.size w W := by rw [← hW]; exact ((Below.refl _ _).alloc (Nat.le_refl _) _).alloc (by simp) _
  have hr0 : W.heap[A]? = some (oneObj Sc.St.zero ⟨#[]⟩) := by rw [← hW, Below.heap_alloc _ _ _ (by simp [hA]), ← hA]; exact World.alloc_heap_new _ _
  have hr1 : W.heap[A + 1]? = some (oneObj Sc.St.zero ⟨#[]⟩) := by
    rw [← hW]
    have h := World.alloc_heap_new (w.alloc (.cells #[.int .u64 0, .int .u64 0, .int .u64 0, .int .i64 0, .string ⟨#[]⟩] 92)) (.cells #[.int .u64 0, .int .u64 0, .int .u64 0, .int .i64 0, .string ⟨#[]⟩] 92)
    have h2 : w.heap.size + 1 = A + 1 := by rw [hA]
    rw [World.size_alloc, h2] at h
    exact h
  obtain ⟨L, hL⟩ : ∃ z, ps.data.toList = z := ⟨_, rfl⟩
  obtain ⟨r, hrr⟩ : ∃ z, Sc.reads L ws Sc.St.zero = z := ⟨_, rfl⟩
  rw [hL, hrr]
  have HL := Lib.hid hL
  have HRR := Lib.hid hrr
  have HB := Lib.hid hb
  have HAA := Lib.hid hA
  have HW := Lib.hid hW
  have HN := Lib.hid hn
  have HWS0 := Lib.hid hw
  have HPS := Lib.hid hps
  have HWL := Lib.hid hws
  have HR0 := Lib.hid hr0
  have HR1 := Lib.hid hr1
  clear hA hW hb hr0 hr1 hL hrr hn hw hps hws
  go_enter Tryz.func50, Tryz.ntmps50
  go_upto_region 2 with (fail)
  rw [HAA.out, HW.out]
  obtain ⟨m, hm⟩ : ∃ z, ps.size = z := ⟨_, rfl⟩
  have HLM := Lib.hid (show L.length = m by rw [← HL.out, ← hm]; simp)
  have HMM := Lib.hid hm
  by_cases hlen : n = m
  · obtain rfl : m = n := hlen.symm
    have q0 : ((m : Int) != (m : Int)) = false := by simp
    go_wp2_with fail
    go_loopw [7] (fun i wr => ∃ (j : Nat) (y : Sc.St) (yb : ByteArray), j ≤ m ∧ i = .int .i64 j ∧ Sc.reads L ws Sc.St.zero = Sc.reads (L.drop j) (ws.drop j) y ∧ yb.data.toList = y.bytes ∧ wr.heap[A + 1]? = some (oneObj y yb) ∧ wr.heap[A]? = some (oneObj Sc.St.zero ⟨#[]⟩) ∧ Below w.heap.size w wr) (fun i _ => m - (intOf i).toNat)
    case atStart => exact ⟨0, Sc.St.zero, ⟨#[]⟩, Nat.zero_le _, rfl, rfl, rfl, HR1.out, HR0.out, HB.out⟩
    case round =>
      obtain ⟨j, y, yb, hj, rfl, hrd, hyb, hr1, hr0, hbw⟩ := hrel
      have HRD := Lib.hid hrd
      have HYB := Lib.hid hyb
      have HA1 := Lib.hid hr1
      have HA0 := Lib.hid hr0
      have HBW := Lib.hid hbw
      obtain ⟨c0, c1, c2, c3, c4, frC⟩ := OneR.of hr1
      have g0 := frC 0
      have g1 := frC 1
      have g2 := frC 2
      have g3 := frC 3
      have g4 := frC 4
      clear hrd hyb hr1 hr0 hbw frC
      by_cases hlt : j < m
      · have hI : (j : Int) < (m : Int) := by omega
        have hjL : j < L.length := by rw [HLM.out]; exact hlt
        have hjw : j < ws.length := by rw [HN.out]; exact hlt
        have hixx : ∀ c : UInt8, L[j] = c → ∀ W, (Instr.index 9 (.string ps) (.int .i64 (j : Int))).run Tryz.prog W = .ok (.int .u8 (c.toNat : Int)) W := fun c hc W => by
          have hjs : j < ps.size := by rw [HMM.out]; exact hlt
          have h1 := dec_index_at0 ps W j hjs
          have h2 : ps[j]'hjs = c := by
            have h3 : ps.data.toList[j]? = some c := by rw [HL.out, List.getElem?_eq_getElem hjL, hc]
            rw [Array.getElem?_toList] at h3
            obtain ⟨h4, h5⟩ := Array.getElem?_eq_some_iff.1 h3
            exact h5
          rw [h2] at h1
          exact h1
        obtain ⟨g, o, rfl, hc⟩ : ∃ g o, p = some ⟨g, o, none⟩ ∧ ∀ j, j < ws.length → w.cell? ⟨g, o + j, none⟩ = some (tx (ws.getD j [])) := by
          rcases HWS0.out with h | h
          · omega
          · exact h
        obtain ⟨t, ht⟩ : ∃ z, ws.getD j [] = z := ⟨_, rfl⟩
        have hct := cell_below HBW.out (hc j hjw)
        rw [ht] at hct
        unfold tx at hct
        have HTL := Lib.hid (show t.length ≤ 50000 from HWL.out t (by rw [← ht, List.getD_eq_getElem?_getD, List.getElem?_eq_getElem hjw]; exact List.getElem_mem hjw))
        have HST := Lib.hid (show r = (Sc.read1 L[j] t y).bind (Sc.reads (L.drop (j + 1)) (ws.drop (j + 1))) by
          rw [← HRR.out, HRD.out, List.drop_eq_getElem_cons hjL, List.drop_eq_getElem_cons hjw, ← ht, List.getD_eq_getElem?_getD, List.getElem?_eq_getElem hjw]
          rfl)
        obtain ⟨tb, htb⟩ : ∃ z : ByteArray, (⟨t.toArray⟩ : ByteArray) = z := ⟨_, rfl⟩
        rw [htb] at hct
        have htd : tb.data.toList = t := by rw [← htb]
        have HTD := Lib.hid htd
        have htz : tb.size ≤ 50000 := by
          have h := HTL.out
          have h2 : tb.data.toList.length = tb.size := by simp
          rw [htd] at h2
          omega
        have hgo : (o : Int) + (j : Int) = ((o + j : Nat) : Int) := by omega
        have HC := Lib.hid hc
        clear hc ht htb htd
        rcases HPS.out L[j] (by rw [HL.out]; exact List.getElem_mem hjL) with hp | hp | hp | hp | hp
        · have hix := hixx 78 hp
          have KP := Lib.hid (ref_parse tb wr (by omega))
          have hst := HST.out
          rw [hp] at hst
          obtain ⟨pe, hpe⟩ : ∃ z, Dp.parE t = z := ⟨_, rfl⟩
          obtain ⟨pn, hpn⟩ : ∃ z, Dp.parN t = z := ⟨_, rfl⟩
          rw [HTD.out, hpe, hpn] at KP
          clear hixx hp
          by_cases hp0 : pe = 0
          · subst hp0
            obtain ⟨_, pb1, pb2⟩ := Dp.digs_par hpe
            rw [hpn] at pb1 pb2
            obtain ⟨pm, rfl⟩ : ∃ q : Nat, pn = (q : Int) := ⟨pn.toNat, by omega⟩
            have HR2 := Lib.hid (show Sc.reads L ws Sc.St.zero = Sc.reads (L.drop (j + 1)) (ws.drop (j + 1)) { y with n := pm } by
              rw [HRR.out, hst, show Sc.read1 78 t y = some { y with n := pm } by unfold Sc.read1; rw [if_neg (by decide), hpe, if_pos rfl, if_neg (by decide), if_pos rfl, hpn]; rfl]
              rfl)
            have HRW := Lib.hid (show (wr.setCell ⟨A + 1, 0, none⟩ (.int .u64 (pm : Int))).heap[A + 1]? = some (oneObj { y with n := pm } yb) by
              have h := HA1.out
              unfold oneObj at h ⊢
              rw [heap_setCell_same wr (A + 1) 0 _ _ _ h]; simp)
            have HRA := Lib.hid (show (wr.setCell ⟨A + 1, 0, none⟩ (.int .u64 (pm : Int))).heap[A]? = some (oneObj Sc.St.zero ⟨#[]⟩) from (Below.heap_setCell _ _ _ _ (by show A ≠ A + 1; omega)).trans HA0.out)
            have HRB := Lib.hid (show Below w.heap.size w (wr.setCell ⟨A + 1, 0, none⟩ (.int .u64 (pm : Int))) from HBW.out.setCell (p := ⟨A + 1, 0, none⟩) (by rw [HAA.out]; show A ≤ A + 1; omega) _)
            clear hst hpe hpn
            go_wp2_with fail
            refine KP.out.mono ?_
            rintro e w2 ⟨rfl, rfl⟩
            go_wp2_with fail
            go_roundw
            case rel => exact ⟨j + 1, { y with n := pm }, yb, hlt, by go_num, HR2.out, HYB.out, HRW.out, HRA.out, HRB.out⟩
            case measure => simp [intOf]; omega
          · have q1 : (pe != 0) = true := by rw [bne_iff_ne]; exact hp0
            have HNO := Lib.hid (show r = none by rw [hst]; unfold Sc.read1; rw [if_neg (by decide), hpe, if_neg hp0]; rfl)
            clear hst hpe hpn hp0
            obtain ⟨d0, d1, d2, d3, d4, fr⟩ := OneR.of HA0.out
            have f0 := fr 0
            have f1 := fr 1
            have f2 := fr 2
            have f3 := fr 3
            have f4 := fr 4
            clear fr
            go_wp2_with fail
            refine KP.out.mono ?_
            rintro e w2 ⟨rfl, rfl⟩
            go_wp2_with fail
            obtain ⟨W9, h9⟩ : ∃ z, ((((wr.setCell ⟨A, 0, none⟩ (.int .u64 (y.n : Int))).setCell ⟨A, 1, none⟩ (.int .u64 (y.draw : Int))).setCell ⟨A, 2, none⟩ (.int .u64 (y.conn : Int))).setCell ⟨A, 3, none⟩ (.int .i64 y.topic)).setCell ⟨A, 4, none⟩ (.string yb) = z := ⟨_, rfl⟩
            rw [h9]
            obtain ⟨⟨x0, x1, x2, x3, x4, _⟩, hb9⟩ := one_end HA0.out HBW.out (Nat.le_of_eq HAA.out) h9
            have HB9 := Lib.hid hb9
            clear h9 hb9 c0 c1 c2 c3 c4 d0 d1 d2 d3 d4 f0 f1 f2 f3 f4
            simp [bodyPost, results, Tryz.results50, go_sem, x0, x1, x2, x3, x4]
            rw [HNO.out]
            exact ⟨_, ⟨rfl, rfl⟩, ⟨y, by unfold oneVal; rw [← HYB.out, ba_eta]⟩, fun y h => (by cases h), HB9.out⟩
        · have hix := hixx 68 hp
          have KP := Lib.hid (ref_parse tb wr (by omega))
          have hst := HST.out
          rw [hp] at hst
          obtain ⟨pe, hpe⟩ : ∃ z, Dp.parE t = z := ⟨_, rfl⟩
          obtain ⟨pn, hpn⟩ : ∃ z, Dp.parN t = z := ⟨_, rfl⟩
          rw [HTD.out, hpe, hpn] at KP
          clear hixx hp
          by_cases hp0 : pe = 0
          · subst hp0
            obtain ⟨_, pb1, pb2⟩ := Dp.digs_par hpe
            rw [hpn] at pb1 pb2
            obtain ⟨pm, rfl⟩ : ∃ q : Nat, pn = (q : Int) := ⟨pn.toNat, by omega⟩
            have HR2 := Lib.hid (show Sc.reads L ws Sc.St.zero = Sc.reads (L.drop (j + 1)) (ws.drop (j + 1)) { y with draw := pm } by
              rw [HRR.out, hst, show Sc.read1 68 t y = some { y with draw := pm } by unfold Sc.read1; rw [if_neg (by decide), hpe, if_pos rfl, if_neg (by decide), if_neg (by decide), if_pos rfl, hpn]; rfl]
              rfl)
            have HRW := Lib.hid (show (wr.setCell ⟨A + 1, 1, none⟩ (.int .u64 (pm : Int))).heap[A + 1]? = some (oneObj { y with draw := pm } yb) by
              have h := HA1.out
              unfold oneObj at h ⊢
              rw [heap_setCell_same wr (A + 1) 1 _ _ _ h]; simp)
            have HRA := Lib.hid (show (wr.setCell ⟨A + 1, 1, none⟩ (.int .u64 (pm : Int))).heap[A]? = some (oneObj Sc.St.zero ⟨#[]⟩) from (Below.heap_setCell _ _ _ _ (by show A ≠ A + 1; omega)).trans HA0.out)
            have HRB := Lib.hid (show Below w.heap.size w (wr.setCell ⟨A + 1, 1, none⟩ (.int .u64 (pm : Int))) from HBW.out.setCell (p := ⟨A + 1, 1, none⟩) (by rw [HAA.out]; show A ≤ A + 1; omega) _)
            clear hst hpe hpn
            go_wp2_with fail
            refine KP.out.mono ?_
            rintro e w2 ⟨rfl, rfl⟩
            go_wp2_with fail
            go_roundw
            case rel => exact ⟨j + 1, { y with draw := pm }, yb, hlt, by go_num, HR2.out, HYB.out, HRW.out, HRA.out, HRB.out⟩
            case measure => simp [intOf]; omega
          · have q1 : (pe != 0) = true := by rw [bne_iff_ne]; exact hp0
            have HNO := Lib.hid (show r = none by rw [hst]; unfold Sc.read1; rw [if_neg (by decide), hpe, if_neg hp0]; rfl)
            clear hst hpe hpn hp0
            obtain ⟨d0, d1, d2, d3, d4, fr⟩ := OneR.of HA0.out
            have f0 := fr 0
            have f1 := fr 1
            have f2 := fr 2
            have f3 := fr 3
            have f4 := fr 4
            clear fr
            go_wp2_with fail
            refine KP.out.mono ?_
            rintro e w2 ⟨rfl, rfl⟩
            go_wp2_with fail
            obtain ⟨W9, h9⟩ : ∃ z, ((((wr.setCell ⟨A, 0, none⟩ (.int .u64 (y.n : Int))).setCell ⟨A, 1, none⟩ (.int .u64 (y.draw : Int))).setCell ⟨A, 2, none⟩ (.int .u64 (y.conn : Int))).setCell ⟨A, 3, none⟩ (.int .i64 y.topic)).setCell ⟨A, 4, none⟩ (.string yb) = z := ⟨_, rfl⟩
            rw [h9]
            obtain ⟨⟨x0, x1, x2, x3, x4, _⟩, hb9⟩ := one_end HA0.out HBW.out (Nat.le_of_eq HAA.out) h9
            have HB9 := Lib.hid hb9
            clear h9 hb9 c0 c1 c2 c3 c4 d0 d1 d2 d3 d4 f0 f1 f2 f3 f4
            simp [bodyPost, results, Tryz.results50, go_sem, x0, x1, x2, x3, x4]
            rw [HNO.out]
            exact ⟨_, ⟨rfl, rfl⟩, ⟨y, by unfold oneVal; rw [← HYB.out, ba_eta]⟩, fun y h => (by cases h), HB9.out⟩
        · have hix := hixx 67 hp
          have KP := Lib.hid (ref_parse tb wr (by omega))
          have hst := HST.out
          rw [hp] at hst
          obtain ⟨pe, hpe⟩ : ∃ z, Dp.parE t = z := ⟨_, rfl⟩
          obtain ⟨pn, hpn⟩ : ∃ z, Dp.parN t = z := ⟨_, rfl⟩
          rw [HTD.out, hpe, hpn] at KP
          clear hixx hp
          by_cases hp0 : pe = 0
          · subst hp0
            obtain ⟨_, pb1, pb2⟩ := Dp.digs_par hpe
            rw [hpn] at pb1 pb2
            obtain ⟨pm, rfl⟩ : ∃ q : Nat, pn = (q : Int) := ⟨pn.toNat, by omega⟩
            have HR2 := Lib.hid (show Sc.reads L ws Sc.St.zero = Sc.reads (L.drop (j + 1)) (ws.drop (j + 1)) { y with conn := pm } by
              rw [HRR.out, hst, show Sc.read1 67 t y = some { y with conn := pm } by unfold Sc.read1; rw [if_neg (by decide), hpe, if_pos rfl, if_neg (by decide), if_neg (by decide), if_neg (by decide), hpn]; rfl]
              rfl)
            have HRW := Lib.hid (show (wr.setCell ⟨A + 1, 2, none⟩ (.int .u64 (pm : Int))).heap[A + 1]? = some (oneObj { y with conn := pm } yb) by
              have h := HA1.out
              unfold oneObj at h ⊢
              rw [heap_setCell_same wr (A + 1) 2 _ _ _ h]; simp)
            have HRA := Lib.hid (show (wr.setCell ⟨A + 1, 2, none⟩ (.int .u64 (pm : Int))).heap[A]? = some (oneObj Sc.St.zero ⟨#[]⟩) from (Below.heap_setCell _ _ _ _ (by show A ≠ A + 1; omega)).trans HA0.out)
            have HRB := Lib.hid (show Below w.heap.size w (wr.setCell ⟨A + 1, 2, none⟩ (.int .u64 (pm : Int))) from HBW.out.setCell (p := ⟨A + 1, 2, none⟩) (by rw [HAA.out]; show A ≤ A + 1; omega) _)
            clear hst hpe hpn
            go_wp2_with fail
            refine KP.out.mono ?_
            rintro e w2 ⟨rfl, rfl⟩
            go_wp2_with fail
            go_roundw
            case rel => exact ⟨j + 1, { y with conn := pm }, yb, hlt, by go_num, HR2.out, HYB.out, HRW.out, HRA.out, HRB.out⟩
            case measure => simp [intOf]; omega
          · have q1 : (pe != 0) = true := by rw [bne_iff_ne]; exact hp0
            have HNO := Lib.hid (show r = none by rw [hst]; unfold Sc.read1; rw [if_neg (by decide), hpe, if_neg hp0]; rfl)
            clear hst hpe hpn hp0
            obtain ⟨d0, d1, d2, d3, d4, fr⟩ := OneR.of HA0.out
            have f0 := fr 0
            have f1 := fr 1
            have f2 := fr 2
            have f3 := fr 3
            have f4 := fr 4
            clear fr
            go_wp2_with fail
            refine KP.out.mono ?_
            rintro e w2 ⟨rfl, rfl⟩
            go_wp2_with fail
            obtain ⟨W9, h9⟩ : ∃ z, ((((wr.setCell ⟨A, 0, none⟩ (.int .u64 (y.n : Int))).setCell ⟨A, 1, none⟩ (.int .u64 (y.draw : Int))).setCell ⟨A, 2, none⟩ (.int .u64 (y.conn : Int))).setCell ⟨A, 3, none⟩ (.int .i64 y.topic)).setCell ⟨A, 4, none⟩ (.string yb) = z := ⟨_, rfl⟩
            rw [h9]
            obtain ⟨⟨x0, x1, x2, x3, x4, _⟩, hb9⟩ := one_end HA0.out HBW.out (Nat.le_of_eq HAA.out) h9
            have HB9 := Lib.hid hb9
            clear h9 hb9 c0 c1 c2 c3 c4 d0 d1 d2 d3 d4 f0 f1 f2 f3 f4
            simp [bodyPost, results, Tryz.results50, go_sem, x0, x1, x2, x3, x4]
            rw [HNO.out]
            exact ⟨_, ⟨rfl, rfl⟩, ⟨y, by unfold oneVal; rw [← HYB.out, ba_eta]⟩, fun y h => (by cases h), HB9.out⟩
        · have hix := hixx 84 hp
          have KP := Lib.hid (ref_parse tb wr (by omega))
          have hst := HST.out
          rw [hp] at hst
          obtain ⟨pe, hpe⟩ : ∃ z, Dp.parE t = z := ⟨_, rfl⟩
          obtain ⟨pn, hpn⟩ : ∃ z, Dp.parN t = z := ⟨_, rfl⟩
          rw [HTD.out, hpe, hpn] at KP
          clear hixx hp
          by_cases hp0 : pe = 0
          · subst hp0
            obtain ⟨_, pb1, pb2⟩ := Dp.digs_par hpe
            rw [hpn] at pb1 pb2
            obtain ⟨pm, rfl⟩ : ∃ q : Nat, pn = (q : Int) := ⟨pn.toNat, by omega⟩
            by_cases hpm : (pm : Int) ≤ 2147483647
            · have hm1 : ¬ (2147483647 : Int) < (pm : Int) := by omega
              have hcv : ∀ W, (convert 23 3 (.int .u64 (pm : Int))).run Tryz.prog W = .ok (.int .i64 (pm : Int)) W := fun W => by
                simp [go_sem, convert, Tryz.underlying3, Tryz.underlying23, IntKind.wrap, IntKind.bits, IntKind.signed]
                omega
              have HR2 := Lib.hid (show Sc.reads L ws Sc.St.zero = Sc.reads (L.drop (j + 1)) (ws.drop (j + 1)) { y with topic := (pm : Int) } by
                rw [HRR.out, hst, show Sc.read1 84 t y = some { y with topic := (pm : Int) } by unfold Sc.read1; rw [if_neg (by decide), hpe, if_pos rfl, if_pos rfl, hpn, if_pos hpm]]
                rfl)
              have HRW := Lib.hid (show (wr.setCell ⟨A + 1, 3, none⟩ (.int .i64 (pm : Int))).heap[A + 1]? = some (oneObj { y with topic := (pm : Int) } yb) by
                have h := HA1.out
                unfold oneObj at h ⊢
                rw [heap_setCell_same wr (A + 1) 3 _ _ _ h]; simp)
              have HRA := Lib.hid (show (wr.setCell ⟨A + 1, 3, none⟩ (.int .i64 (pm : Int))).heap[A]? = some (oneObj Sc.St.zero ⟨#[]⟩) from (Below.heap_setCell _ _ _ _ (by show A ≠ A + 1; omega)).trans HA0.out)
              have HRB := Lib.hid (show Below w.heap.size w (wr.setCell ⟨A + 1, 3, none⟩ (.int .i64 (pm : Int))) from HBW.out.setCell (p := ⟨A + 1, 3, none⟩) (by rw [HAA.out]; show A ≤ A + 1; omega) _)
              clear hst hpe hpn pb1 pb2
              go_wp2_with fail
              refine KP.out.mono ?_
              rintro e w2 ⟨rfl, rfl⟩
              go_wp2_with fail
              go_roundw
              case rel => exact ⟨j + 1, { y with topic := (pm : Int) }, yb, hlt, by go_num, HR2.out, HYB.out, HRW.out, HRA.out, HRB.out⟩
              case measure => simp [intOf]; omega
            · have hm1 : (2147483647 : Int) < (pm : Int) := by omega
              have HNO := Lib.hid (show r = none by rw [hst]; unfold Sc.read1; rw [if_neg (by decide), hpe, if_pos rfl, if_pos rfl, hpn, if_neg hpm]; rfl)
              clear hst hpe hpn hpm
              obtain ⟨d0, d1, d2, d3, d4, fr⟩ := OneR.of HA0.out
              have f0 := fr 0
              have f1 := fr 1
              have f2 := fr 2
              have f3 := fr 3
              have f4 := fr 4
              clear fr
              go_wp2_with fail
              refine KP.out.mono ?_
              rintro e w2 ⟨rfl, rfl⟩
              go_wp2_with fail
              obtain ⟨W9, h9⟩ : ∃ z, ((((wr.setCell ⟨A, 0, none⟩ (.int .u64 (y.n : Int))).setCell ⟨A, 1, none⟩ (.int .u64 (y.draw : Int))).setCell ⟨A, 2, none⟩ (.int .u64 (y.conn : Int))).setCell ⟨A, 3, none⟩ (.int .i64 y.topic)).setCell ⟨A, 4, none⟩ (.string yb) = z := ⟨_, rfl⟩
              rw [h9]
              obtain ⟨⟨x0, x1, x2, x3, x4, _⟩, hb9⟩ := one_end HA0.out HBW.out (Nat.le_of_eq HAA.out) h9
              have HB9 := Lib.hid hb9
              clear h9 hb9 c0 c1 c2 c3 c4 d0 d1 d2 d3 d4 f0 f1 f2 f3 f4
              simp [bodyPost, results, Tryz.results50, go_sem, x0, x1, x2, x3, x4]
              rw [HNO.out]
              exact ⟨_, ⟨rfl, rfl⟩, ⟨y, by unfold oneVal; rw [← HYB.out, ba_eta]⟩, fun y h => (by cases h), HB9.out⟩
          · have q1 : (pe != 0) = true := by rw [bne_iff_ne]; exact hp0
            have HNO := Lib.hid (show r = none by rw [hst]; unfold Sc.read1; rw [if_neg (by decide), hpe, if_neg hp0]; rfl)
            clear hst hpe hpn hp0
            obtain ⟨d0, d1, d2, d3, d4, fr⟩ := OneR.of HA0.out
            have f0 := fr 0
            have f1 := fr 1
            have f2 := fr 2
            have f3 := fr 3
            have f4 := fr 4
            clear fr
            go_wp2_with fail
            refine KP.out.mono ?_
            rintro e w2 ⟨rfl, rfl⟩
            go_wp2_with fail
            obtain ⟨W9, h9⟩ : ∃ z, ((((wr.setCell ⟨A, 0, none⟩ (.int .u64 (y.n : Int))).setCell ⟨A, 1, none⟩ (.int .u64 (y.draw : Int))).setCell ⟨A, 2, none⟩ (.int .u64 (y.conn : Int))).setCell ⟨A, 3, none⟩ (.int .i64 y.topic)).setCell ⟨A, 4, none⟩ (.string yb) = z := ⟨_, rfl⟩
            rw [h9]
            obtain ⟨⟨x0, x1, x2, x3, x4, _⟩, hb9⟩ := one_end HA0.out HBW.out (Nat.le_of_eq HAA.out) h9
            have HB9 := Lib.hid hb9
            clear h9 hb9 c0 c1 c2 c3 c4 d0 d1 d2 d3 d4 f0 f1 f2 f3 f4
            simp [bodyPost, results, Tryz.results50, go_sem, x0, x1, x2, x3, x4]
            rw [HNO.out]
            exact ⟨_, ⟨rfl, rfl⟩, ⟨y, by unfold oneVal; rw [← HYB.out, ba_eta]⟩, fun y h => (by cases h), HB9.out⟩
        · have hst := HST.out
          rw [hp] at hst
          have hix := hixx 66 hp
          clear hixx hp
          cases t with
          | nil =>
            have q1 : ((tb.size : Int) == 0) = true := by
              have h := HTD.out
              have h2 : tb.data.toList.length = tb.size := by simp
              rw [h] at h2
              rw [beq_iff_eq, ← h2]; rfl
            have HNO := Lib.hid (show r = none by rw [hst]; rfl)
            clear hst
            obtain ⟨d0, d1, d2, d3, d4, fr⟩ := OneR.of HA0.out
            have f0 := fr 0
            have f1 := fr 1
            have f2 := fr 2
            have f3 := fr 3
            have f4 := fr 4
            clear fr
            go_wp2_with fail
            obtain ⟨W9, h9⟩ : ∃ z, ((((wr.setCell ⟨A, 0, none⟩ (.int .u64 (y.n : Int))).setCell ⟨A, 1, none⟩ (.int .u64 (y.draw : Int))).setCell ⟨A, 2, none⟩ (.int .u64 (y.conn : Int))).setCell ⟨A, 3, none⟩ (.int .i64 y.topic)).setCell ⟨A, 4, none⟩ (.string yb) = z := ⟨_, rfl⟩
            rw [h9]
            obtain ⟨⟨x0, x1, x2, x3, x4, _⟩, hb9⟩ := one_end HA0.out HBW.out (Nat.le_of_eq HAA.out) h9
            have HB9 := Lib.hid hb9
            clear h9 hb9 c0 c1 c2 c3 c4 d0 d1 d2 d3 d4 f0 f1 f2 f3 f4
            simp [bodyPost, results, Tryz.results50, go_sem, x0, x1, x2, x3, x4]
            rw [HNO.out]
            exact ⟨_, ⟨rfl, rfl⟩, ⟨y, by unfold oneVal; rw [← HYB.out, ba_eta]⟩, fun y h => (by cases h), HB9.out⟩
          | cons b0 t2 =>
            have htz1 : 0 < tb.size := by
              have h := HTD.out
              have h2 : tb.data.toList.length = tb.size := by simp
              rw [h] at h2
              simp at h2
              omega
            have q1 : ((tb.size : Int) == 0) = false := by rw [beq_eq_false_iff_ne]; omega
            have hi0 : ∀ W, (Instr.index 9 (.string tb) (.int .i64 0)).run Tryz.prog W = .ok (.int .u8 (b0.toNat : Int)) W := fun W => by
              have h1 := dec_index_at0 tb W 0 htz1
              have h2 : tb[0]'htz1 = b0 := by
                have h3 : tb.data.toList[0]? = some b0 := by rw [HTD.out]; rfl
                rw [Array.getElem?_toList] at h3
                obtain ⟨h4, h5⟩ := Array.getElem?_eq_some_iff.1 h3
                exact h5
              rw [h2] at h1
              exact h1
            by_cases hb0 : b0 = 61
            · subst hb0
              have q2 : (((61 : UInt8).toNat : Int) != 61) = false := by decide
              obtain ⟨sb, hsb⟩ : ∃ z, tb.extract 1 tb.size = z := ⟨_, rfl⟩
              have hsd : sb.data.toList = t2 := by
                have h2 : (61 :: t2 : List UInt8).length = tb.size := by rw [← HTD.out]; simp
                rw [← hsb, Lib.extract_data, HTD.out, ← h2]
                simp
              have HSL := Lib.hid (show ∀ W, (Instr.slice 9 (.string tb) (some (.int .i64 1)) none none).run Tryz.prog W = .ok (.string sb) W from fun W => by
                have h2 : (1 : Int) ≤ tb.size := by omega
                rw [← hsb]
                simp [go_sem, Tryz.underlying9, h2])
              have hsz : sb.size ≤ 50000 := by
                have h2 : sb.data.toList.length = sb.size := by simp
                have h3 := HTL.out
                rw [hsd] at h2
                simp only [List.length_cons] at h3
                omega
              have HSD := Lib.hid hsd
              have KD := ref_Decode sb false wr (by omega)
              rw [hsd] at KD
              clear hsd hsb
              have hsl := HSL.out
              cases hdd : Gt.dec false t2 with
              | none =>
                rw [hdd] at KD
                unfold decOut at KD
                have KD := Lib.hid KD
                have HNO := Lib.hid (show r = none by rw [hst]; simp [Sc.read1, hdd])
                clear hst hdd
                go_wp2_with fail
                refine KD.out.mono ?_
                rintro e w2 ⟨rfl, hb2⟩
                have HB2 := Lib.hid (HBW.out.trans (hb2.mono HBW.out.size))
                have HA02 := Lib.hid ((hb2.block _ (Array.getElem?_eq_some_iff.1 HA0.out).1).trans HA0.out)
                have HA12 := Lib.hid ((hb2.block _ (Array.getElem?_eq_some_iff.1 HA1.out).1).trans HA1.out)
                clear hb2 c0 c1 c2 c3 c4 g0 g1 g2 g3 g4 hct hsl hi0
                go_wp2_with fail
                refine region_slotsG (fun i => 52 + min i 11) (rpN ) (fun i => ([true, true, true, false, false, false, false, false, false, false, false, true] : List Bool).getD i true) (by kernel_rfl) (by kernel_rfl) (fun i => by show 52 + min i 11 < _; simp; omega) (fun i j hi hj h => by have hi : i < 12 := hi; have hj : j < 12 := hj; omega) ?mono ?dst ?gu ?ng ?skip ?step ?done
                case mono =>
                  intro i W W' v h hbw
                  match i, h with
                  | 0, h | 1, h | 2, h | 3, h | 4, h | 5, h | 6, h | 7, h | 8, h | 9, h | 10, h | 11, h => exact h
                  | n + 12, h => exact h.elim
                case dst =>
                  intro i o ho
                  match i, ho with
                  | 0, ho | 1, ho | 2, ho | 3, ho | 4, ho | 5, ho | 6, ho | 7, ho | 8, ho | 9, ho | 10, ho | 11, ho => cases ho; rfl
                  | n + 12, ho => exact absurd ho (by simp)
                case gu =>
                  intro i o g b ho hgd W v hv
                  match i, ho with
                  | 0, ho => cases ho; cases hgd
                  | 1, ho => cases ho; cases hgd
                  | 2, ho => cases ho; cases hgd
                  | 3, ho => cases ho; cases hgd; exact hv
                  | 4, ho => cases ho; cases hgd; exact hv
                  | 5, ho => cases ho; cases hgd; exact hv
                  | 6, ho => cases ho; cases hgd; exact hv
                  | 7, ho => cases ho; cases hgd; exact hv
                  | 8, ho => cases ho; cases hgd; exact hv
                  | 9, ho => cases ho; cases hgd; exact hv
                  | 10, ho => cases ho; cases hgd; exact hv
                  | 11, ho => cases ho; cases hgd
                  | n + 12, ho => exact absurd ho (by simp)
                case ng =>
                  intro i o ho hgd
                  match i, ho with
                  | 0, ho => cases ho; first | rfl | cases hgd
                  | 1, ho => cases ho; first | rfl | cases hgd
                  | 2, ho => cases ho; first | rfl | cases hgd
                  | 3, ho => cases ho; first | rfl | cases hgd
                  | 4, ho => cases ho; first | rfl | cases hgd
                  | 5, ho => cases ho; first | rfl | cases hgd
                  | 6, ho => cases ho; first | rfl | cases hgd
                  | 7, ho => cases ho; first | rfl | cases hgd
                  | 8, ho => cases ho; first | rfl | cases hgd
                  | 9, ho => cases ho; first | rfl | cases hgd
                  | 10, ho => cases ho; first | rfl | cases hgd
                  | 11, ho => cases ho; first | rfl | cases hgd
                  | n + 12, ho => exact absurd ho (by simp)
                case skip =>
                  intro i W hi hsel
                  match i, hi, hsel with
                  | 0, _, hsel => first | exact absurd hsel (by decide) | rfl
                  | 1, _, hsel => first | exact absurd hsel (by decide) | rfl
                  | 2, _, hsel => first | exact absurd hsel (by decide) | rfl
                  | 3, _, hsel => first | exact absurd hsel (by decide) | rfl
                  | 4, _, hsel => first | exact absurd hsel (by decide) | rfl
                  | 5, _, hsel => first | exact absurd hsel (by decide) | rfl
                  | 6, _, hsel => first | exact absurd hsel (by decide) | rfl
                  | 7, _, hsel => first | exact absurd hsel (by decide) | rfl
                  | 8, _, hsel => first | exact absurd hsel (by decide) | rfl
                  | 9, _, hsel => first | exact absurd hsel (by decide) | rfl
                  | 10, _, hsel => first | exact absurd hsel (by decide) | rfl
                  | 11, _, hsel => first | exact absurd hsel (by decide) | rfl
                  | n + 12, hi, _ => exact absurd hi (by simp)
                case step =>
                  intro f a' W i o ho hsel hpre hbel hrest
                  match i, ho, hsel with
                  | 0, ho, _ =>
                    cases ho
                    have q9 : a'.tmps.getD 9 undef = .int .i64 210 := (hrest 9 (by intro i hi; have hi : i < 12 := hi; show 52 + min i 11 ≠ _; omega))
                    have e9 := rg_ev q9
                    exact rg_same (.int .i64 210) (by unfold Oper.wp execOp; go_simp; all_goals ((try simp only [e9]); (try go_simp); (try rw [if_pos (by omega)]); (try rw [if_neg (by omega)]); first | done | rfl | exact ⟨rfl, rfl⟩ | trivial)) rfl
                  | 1, ho, _ =>
                    cases ho
                    have q52 : a'.tmps.getD 52 undef = .int .i64 210 := (hpre { on := 0, ground := .data } (by simp) rfl)
                    have e52 := rg_ev q52
                    exact rg_same (.bool true) (by unfold Oper.wp execOp; go_simp; all_goals ((try simp only [e52]); (try go_simp); (try rw [if_pos (by omega)]); (try rw [if_neg (by omega)]); first | done | rfl | exact ⟨rfl, rfl⟩ | trivial)) rfl
                  | 2, ho, _ =>
                    cases ho
                    have q53 : a'.tmps.getD 53 undef = .bool true := (hpre { on := 1, ground := .data } (by simp) rfl)
                    have e53 := rg_ev q53
                    exact rg_same (.bool true) (by unfold Oper.wp execOp; go_simp; all_goals ((try simp only [e53]); (try go_simp); (try rw [if_pos (by omega)]); (try rw [if_neg (by omega)]); first | done | rfl | exact ⟨rfl, rfl⟩ | trivial)) rfl
                  | 3, ho, hsel => exact absurd hsel (by decide)
                  | 4, ho, hsel => exact absurd hsel (by decide)
                  | 5, ho, hsel => exact absurd hsel (by decide)
                  | 6, ho, hsel => exact absurd hsel (by decide)
                  | 7, ho, hsel => exact absurd hsel (by decide)
                  | 8, ho, hsel => exact absurd hsel (by decide)
                  | 9, ho, hsel => exact absurd hsel (by decide)
                  | 10, ho, hsel => exact absurd hsel (by decide)
                  | 11, ho, _ =>
                    cases ho
                    have q54 : a'.tmps.getD 54 undef = .bool true := (hpre { on := 2, ground := .data } (by simp) rfl)
                    have q62 : a'.tmps.getD 62 undef = undef := (hpre { on := 10, ground := .data } (by simp) rfl)
                    have e54 := rg_ev q54
                    have e62 := rg_ev q62
                    exact rg_same (.bool true) (by unfold Oper.wp execOp; go_simp; all_goals ((try simp only [e54, e62]); (try go_simp); (try rw [if_pos (by omega)]); (try rw [if_neg (by omega)]); first | done | rfl | exact ⟨rfl, rfl⟩ | trivial)) rfl
                  | n + 12, ho, _ => exact absurd ho (by simp)
                case done =>
                  intro vs W hbel hvs
                  have v0 : vs 0 = .int .i64 210 := hvs 0 (by decide)
                  have v1 : vs 1 = .bool true := hvs 1 (by decide)
                  have v2 : vs 2 = .bool true := hvs 2 (by decide)
                  have v3 : vs 3 = undef := hvs 3 (by decide)
                  have v4 : vs 4 = undef := hvs 4 (by decide)
                  have v5 : vs 5 = undef := hvs 5 (by decide)
                  have v6 : vs 6 = undef := hvs 6 (by decide)
                  have v7 : vs 7 = undef := hvs 7 (by decide)
                  have v8 : vs 8 = undef := hvs 8 (by decide)
                  have v9 : vs 9 = undef := hvs 9 (by decide)
                  have v10 : vs 10 = undef := hvs 10 (by decide)
                  have v11 : vs 11 = .bool true := hvs 11 (by decide)
                  have HBR := Lib.hid hbel
                  simp only [fillN, List.size_toArray, List.length_cons, List.length_nil, Nat.reduceAdd, show List.range 12 = [0, 1, 2, 3, 4, 5, 6, 7, 8, 9, 10, 11] from rfl, List.foldl_cons, List.foldl_nil, show 52 + min 0 11 = 52 from rfl, show 52 + min 1 11 = 53 from rfl, show 52 + min 2 11 = 54 from rfl, show 52 + min 3 11 = 55 from rfl, show 52 + min 4 11 = 56 from rfl, show 52 + min 5 11 = 57 from rfl, show 52 + min 6 11 = 58 from rfl, show 52 + min 7 11 = 59 from rfl, show 52 + min 8 11 = 60 from rfl, show 52 + min 9 11 = 61 from rfl, show 52 + min 10 11 = 62 from rfl, show 52 + min 11 11 = 63 from rfl, v0, v1, v2, v3, v4, v5, v6, v7, v8, v9, v10, v11]
                  clear v0 v1 v2 v3 v4 v5 v6 v7 v8 v9 v10 v11 hvs hbel
                  go_simp
                  have HB3 := Lib.hid (HB2.out.trans (HBR.out.mono HB2.out.size))
                  have HA03 := Lib.hid ((HBR.out.block _ (Array.getElem?_eq_some_iff.1 HA02.out).1).trans HA02.out)
                  have HA13 := Lib.hid ((HBR.out.block _ (Array.getElem?_eq_some_iff.1 HA12.out).1).trans HA12.out)
                  clear HBR
                  obtain ⟨c0, c1, c2, c3, c4, _⟩ := OneR.of HA13.out
                  obtain ⟨d0, d1, d2, d3, d4, fr⟩ := OneR.of HA03.out
                  have f0 := fr 0
                  have f1 := fr 1
                  have f2 := fr 2
                  have f3 := fr 3
                  have f4 := fr 4
                  clear fr
                  go_wp2_with fail
                  obtain ⟨W9, h9⟩ : ∃ z, ((((W.setCell ⟨A, 0, none⟩ (.int .u64 (y.n : Int))).setCell ⟨A, 1, none⟩ (.int .u64 (y.draw : Int))).setCell ⟨A, 2, none⟩ (.int .u64 (y.conn : Int))).setCell ⟨A, 3, none⟩ (.int .i64 y.topic)).setCell ⟨A, 4, none⟩ (.string yb) = z := ⟨_, rfl⟩
                  rw [h9]
                  obtain ⟨⟨x0, x1, x2, x3, x4, _⟩, hb9⟩ := one_end HA03.out HB3.out (Nat.le_of_eq HAA.out) h9
                  have HB9 := Lib.hid hb9
                  clear h9 hb9 c0 c1 c2 c3 c4 d0 d1 d2 d3 d4 f0 f1 f2 f3 f4
                  simp [bodyPost, results, Tryz.results50, go_sem, x0, x1, x2, x3, x4]
                  rw [HNO.out]
                  exact ⟨_, ⟨rfl, rfl⟩, ⟨y, by unfold oneVal; rw [← HYB.out, ba_eta]⟩, fun y h => (by cases h), HB9.out⟩
              | some bl =>
                rw [hdd] at KD
                obtain ⟨bb, hbb⟩ : ∃ z : ByteArray, (⟨bl.toArray⟩ : ByteArray) = z := ⟨_, rfl⟩
                unfold decOut at KD
                simp only [hbb] at KD
                have hbd : bb.data.toList = bl := by rw [← hbb]
                have HBD := Lib.hid hbd
                have KD := Lib.hid KD
                have hbz : bb.size ≤ 50000 := by
                  have h2 : bb.data.toList.length = bb.size := by simp
                  have h3 := Gt.dec_length false t2.length t2 bl (Nat.le_refl _) hdd
                  have h4 := HTL.out
                  rw [hbd] at h2
                  simp only [List.length_cons] at h4
                  omega
                have KE := Lib.hid (fun W => ref_Encode bb W (by omega))
                obtain ⟨eb, heb⟩ : ∃ z : ByteArray, (⟨(Gt.enc bb.data.toList).toArray⟩ : ByteArray) = z := ⟨_, rfl⟩
                rw [heb] at KE
                have HEB := Lib.hid (show eb.data.toList = Gt.enc bl by rw [← heb, hbd])
                clear heb hbb hbd
                go_wp2_with fail
                refine KD.out.mono ?_
                rintro e w2 ⟨rfl, hb2⟩
                have HB2 := Lib.hid (HBW.out.trans (hb2.mono HBW.out.size))
                have HA02 := Lib.hid ((hb2.block _ (Array.getElem?_eq_some_iff.1 HA0.out).1).trans HA0.out)
                have HA12 := Lib.hid ((hb2.block _ (Array.getElem?_eq_some_iff.1 HA1.out).1).trans HA1.out)
                have HCT := Lib.hid (cell_below hb2 hct)
                clear hb2 c0 c1 c2 c3 c4 g0 g1 g2 g3 g4 hct hsl hi0
                have HDD := Lib.hid hdd
                have HST2 := Lib.hid hst
                clear hdd hst
                go_wp2_with fail
                refine region_slotsG (fun i => 52 + min i 11) (rpY g o j m c bb eb tb sb) (fun _ => true) (by kernel_rfl) (by kernel_rfl) (fun i => by show 52 + min i 11 < _; simp; omega) (fun i j hi hj h => by have hi : i < 12 := hi; have hj : j < 12 := hj; omega) ?mono ?dst ?gu ?ng ?skip ?step ?done
                case mono =>
                  intro i W W' v h hbw
                  match i, h with
                  | 0, h | 1, h | 2, h | 3, h | 4, h | 5, h | 6, h | 7, h | 8, h | 9, h | 10, h | 11, h => exact h
                  | n + 12, h => exact h.elim
                case dst =>
                  intro i o ho
                  match i, ho with
                  | 0, ho | 1, ho | 2, ho | 3, ho | 4, ho | 5, ho | 6, ho | 7, ho | 8, ho | 9, ho | 10, ho | 11, ho => cases ho; rfl
                  | n + 12, ho => exact absurd ho (by simp)
                case gu =>
                  intro i o g b ho hgd W v hv
                  match i, ho with
                  | 0, ho => cases ho; cases hgd
                  | 1, ho => cases ho; cases hgd
                  | 2, ho => cases ho; cases hgd
                  | 3, ho => cases ho; cases hgd; exact hv
                  | 4, ho => cases ho; cases hgd; exact hv
                  | 5, ho => cases ho; cases hgd; exact hv
                  | 6, ho => cases ho; cases hgd; exact hv
                  | 7, ho => cases ho; cases hgd; exact hv
                  | 8, ho => cases ho; cases hgd; exact hv
                  | 9, ho => cases ho; cases hgd; exact hv
                  | 10, ho => cases ho; cases hgd; exact hv
                  | 11, ho => cases ho; cases hgd
                  | n + 12, ho => exact absurd ho (by simp)
                case ng =>
                  intro i o ho hgd
                  match i, ho with
                  | 0, ho => cases ho; first | rfl | cases hgd
                  | 1, ho => cases ho; first | rfl | cases hgd
                  | 2, ho => cases ho; first | rfl | cases hgd
                  | 3, ho => cases ho; first | rfl | cases hgd
                  | 4, ho => cases ho; first | rfl | cases hgd
                  | 5, ho => cases ho; first | rfl | cases hgd
                  | 6, ho => cases ho; first | rfl | cases hgd
                  | 7, ho => cases ho; first | rfl | cases hgd
                  | 8, ho => cases ho; first | rfl | cases hgd
                  | 9, ho => cases ho; first | rfl | cases hgd
                  | 10, ho => cases ho; first | rfl | cases hgd
                  | 11, ho => cases ho; first | rfl | cases hgd
                  | n + 12, ho => exact absurd ho (by simp)
                case skip =>
                  intro i W hi hsel
                  match i, hi, hsel with
                  | 0, _, hsel => first | exact absurd hsel (by decide) | rfl
                  | 1, _, hsel => first | exact absurd hsel (by decide) | rfl
                  | 2, _, hsel => first | exact absurd hsel (by decide) | rfl
                  | 3, _, hsel => first | exact absurd hsel (by decide) | rfl
                  | 4, _, hsel => first | exact absurd hsel (by decide) | rfl
                  | 5, _, hsel => first | exact absurd hsel (by decide) | rfl
                  | 6, _, hsel => first | exact absurd hsel (by decide) | rfl
                  | 7, _, hsel => first | exact absurd hsel (by decide) | rfl
                  | 8, _, hsel => first | exact absurd hsel (by decide) | rfl
                  | 9, _, hsel => first | exact absurd hsel (by decide) | rfl
                  | 10, _, hsel => first | exact absurd hsel (by decide) | rfl
                  | 11, _, hsel => first | exact absurd hsel (by decide) | rfl
                  | n + 12, hi, _ => exact absurd hi (by simp)
                case step =>
                  intro f a' W i o ho hsel hpre hbel hrest
                  match i, ho, hsel with
                  | 0, ho, _ =>
                    cases ho
                    have q9 : a'.tmps.getD 9 undef = .int .i64 0 := (hrest 9 (by intro i hi; have hi : i < 12 := hi; show 52 + min i 11 ≠ _; omega))
                    have e9 := rg_ev q9
                    exact rg_same (.int .i64 0) (by unfold Oper.wp execOp; go_simp; all_goals ((try simp only [e9]); (try go_simp); (try rw [if_pos (by omega)]); (try rw [if_neg (by omega)]); first | done | rfl | exact ⟨rfl, rfl⟩ | trivial)) rfl
                  | 1, ho, _ =>
                    cases ho
                    have q52 : a'.tmps.getD 52 undef = .int .i64 0 := (hpre { on := 0, ground := .data } (by simp) rfl)
                    have e52 := rg_ev q52
                    exact rg_same (.bool false) (by unfold Oper.wp execOp; go_simp; all_goals ((try simp only [e52]); (try go_simp); (try rw [if_pos (by omega)]); (try rw [if_neg (by omega)]); first | done | rfl | exact ⟨rfl, rfl⟩ | trivial)) rfl
                  | 2, ho, _ =>
                    cases ho
                    have q53 : a'.tmps.getD 53 undef = .bool false := (hpre { on := 1, ground := .data } (by simp) rfl)
                    have e53 := rg_ev q53
                    exact rg_same (.bool false) (by unfold Oper.wp execOp; go_simp; all_goals ((try simp only [e53]); (try go_simp); (try rw [if_pos (by omega)]); (try rw [if_neg (by omega)]); first | done | rfl | exact ⟨rfl, rfl⟩ | trivial)) rfl
                  | 3, ho, _ =>
                    cases ho
                    have q8 : a'.tmps.getD 8 undef = .string bb := (hrest 8 (by intro i hi; have hi : i < 12 := hi; show 52 + min i 11 ≠ _; omega))
                    have e8 := rg_ev q8
                    exact rg_same (.string bb) (by unfold Oper.wp execOp; go_simp; all_goals ((try simp only [e8]); (try go_simp); (try rw [if_pos (by omega)]); (try rw [if_neg (by omega)]); first | done | rfl | exact ⟨rfl, rfl⟩ | trivial)) rfl
                  | 4, ho, _ =>
                    cases ho
                    have q55 : a'.tmps.getD 55 undef = .string bb := (hpre { on := 3, ground := .data } (by simp) rfl)
                    exact rg_call 55 71 _ _ _ rfl q55 (enters_of Tryz.func71 (by kernel_rfl) rfl) (KE.out W) (fun e w' h => ⟨_, h.1, _, rfl, rfl, h.2⟩)
                  | 5, ho, _ =>
                    cases ho
                    have q1 : a'.tmps.getD 1 undef = .slice (some ⟨g, o, none⟩) m c := (hrest 1 (by intro i hi; have hi : i < 12 := hi; show 52 + min i 11 ≠ _; omega))
                    have e1 := rg_ev q1
                    exact rg_same (.slice (some ⟨g, o, none⟩) m c) (by unfold Oper.wp execOp; go_simp; all_goals ((try simp only [e1]); (try go_simp); (try rw [if_pos (by omega)]); (try rw [if_neg (by omega)]); first | done | rfl | exact ⟨rfl, rfl⟩ | trivial)) rfl
                  | 6, ho, _ =>
                    cases ho
                    have q7 : a'.tmps.getD 7 undef = .int .i64 (j : Int) := (hrest 7 (by intro i hi; have hi : i < 12 := hi; show 52 + min i 11 ≠ _; omega))
                    have e7 := rg_ev q7
                    exact rg_same (.int .i64 (j : Int)) (by unfold Oper.wp execOp; go_simp; all_goals ((try simp only [e7]); (try go_simp); (try rw [if_pos (by omega)]); (try rw [if_neg (by omega)]); first | done | rfl | exact ⟨rfl, rfl⟩ | trivial)) rfl
                  | 7, ho, _ =>
                    cases ho
                    have q57 : a'.tmps.getD 57 undef = .slice (some ⟨g, o, none⟩) m c := (hpre { on := 5, ground := .data } (by simp) rfl)
                    have q58 : a'.tmps.getD 58 undef = .int .i64 (j : Int) := (hpre { on := 6, ground := .data } (by simp) rfl)
                    have e57 := rg_ev q57
                    have e58 := rg_ev q58
                    exact rg_same (.pointer (some ⟨g, o + j, none⟩)) (by unfold Oper.wp execOp; go_simp; all_goals ((try simp only [e57, e58]); (try go_simp); (try rw [if_pos (by omega)]); (try rw [if_neg (by omega)]); first | done | rfl | exact ⟨rfl, rfl⟩ | trivial)) rfl
                  | 8, ho, _ =>
                    cases ho
                    have q59 : a'.tmps.getD 59 undef = .pointer (some ⟨g, o + j, none⟩) := (hpre { on := 7, ground := .data } (by simp) rfl)
                    have ce := cell_below hbel HCT.out
                    have e59 := rg_ev q59
                    exact rg_same (.string tb) (by unfold Oper.wp execOp; go_simp; all_goals ((try simp only [e59]); (try go_simp); (try rw [if_pos (by omega)]); (try rw [if_neg (by omega)]); first | done | rfl | exact ⟨rfl, rfl⟩ | trivial)) rfl
                  | 9, ho, _ =>
                    cases ho
                    have q60 : a'.tmps.getD 60 undef = .string tb := (hpre { on := 8, ground := .data } (by simp) rfl)
                    have hs1 := HSL.out W
                    have e60 := rg_ev q60
                    exact rg_same (.string sb) (by unfold Oper.wp execOp; go_simp; all_goals ((try simp only [e60]); (try go_simp); (try rw [if_pos (by omega)]); (try rw [if_neg (by omega)]); first | done | rfl | exact ⟨rfl, rfl⟩ | trivial)) rfl
                  | 10, ho, _ =>
                    cases ho
                    have q56 : a'.tmps.getD 56 undef = .string eb := (hpre { on := 4, ground := .data } (by simp) rfl)
                    have q61 : a'.tmps.getD 61 undef = .string sb := (hpre { on := 9, ground := .data } (by simp) rfl)
                    have e56 := rg_ev q56
                    have e61 := rg_ev q61
                    exact rg_same (.bool (!(eb.toList == sb.toList))) (by unfold Oper.wp execOp; go_simp; all_goals ((try simp only [e56, e61]); (try go_simp); (try rw [if_pos (by omega)]); (try rw [if_neg (by omega)]); first | done | rfl | exact ⟨rfl, rfl⟩ | trivial)) rfl
                  | 11, ho, _ =>
                    cases ho
                    have q54 : a'.tmps.getD 54 undef = .bool false := (hpre { on := 2, ground := .data } (by simp) rfl)
                    have q62 : a'.tmps.getD 62 undef = .bool (!(eb.toList == sb.toList)) := (hpre { on := 10, ground := .data } (by simp) rfl)
                    have e54 := rg_ev q54
                    have e62 := rg_ev q62
                    exact rg_same (.bool (!(eb.toList == sb.toList))) (by unfold Oper.wp execOp; go_simp; all_goals ((try simp only [e54, e62]); (try go_simp); (try rw [if_pos (by omega)]); (try rw [if_neg (by omega)]); first | done | rfl | exact ⟨rfl, rfl⟩ | trivial)) rfl
                  | n + 12, ho, _ => exact absurd ho (by simp)
                case done =>
                  intro vs W hbel hvs
                  have v0 : vs 0 = .int .i64 0 := hvs 0 (by decide)
                  have v1 : vs 1 = .bool false := hvs 1 (by decide)
                  have v2 : vs 2 = .bool false := hvs 2 (by decide)
                  have v3 : vs 3 = .string bb := hvs 3 (by decide)
                  have v4 : vs 4 = .string eb := hvs 4 (by decide)
                  have v5 : vs 5 = .slice (some ⟨g, o, none⟩) m c := hvs 5 (by decide)
                  have v6 : vs 6 = .int .i64 (j : Int) := hvs 6 (by decide)
                  have v7 : vs 7 = .pointer (some ⟨g, o + j, none⟩) := hvs 7 (by decide)
                  have v8 : vs 8 = .string tb := hvs 8 (by decide)
                  have v9 : vs 9 = .string sb := hvs 9 (by decide)
                  have v10 : vs 10 = .bool (!(eb.toList == sb.toList)) := hvs 10 (by decide)
                  have v11 : vs 11 = .bool (!(eb.toList == sb.toList)) := hvs 11 (by decide)
                  have HBR := Lib.hid hbel
                  simp only [fillN, List.size_toArray, List.length_cons, List.length_nil, Nat.reduceAdd, show List.range 12 = [0, 1, 2, 3, 4, 5, 6, 7, 8, 9, 10, 11] from rfl, List.foldl_cons, List.foldl_nil, show 52 + min 0 11 = 52 from rfl, show 52 + min 1 11 = 53 from rfl, show 52 + min 2 11 = 54 from rfl, show 52 + min 3 11 = 55 from rfl, show 52 + min 4 11 = 56 from rfl, show 52 + min 5 11 = 57 from rfl, show 52 + min 6 11 = 58 from rfl, show 52 + min 7 11 = 59 from rfl, show 52 + min 8 11 = 60 from rfl, show 52 + min 9 11 = 61 from rfl, show 52 + min 10 11 = 62 from rfl, show 52 + min 11 11 = 63 from rfl, v0, v1, v2, v3, v4, v5, v6, v7, v8, v9, v10, v11]
                  clear v0 v1 v2 v3 v4 v5 v6 v7 v8 v9 v10 v11 hvs hbel
                  go_simp
                  have HB3 := Lib.hid (HB2.out.trans (HBR.out.mono HB2.out.size))
                  have HA03 := Lib.hid ((HBR.out.block _ (Array.getElem?_eq_some_iff.1 HA02.out).1).trans HA02.out)
                  have HA13 := Lib.hid ((HBR.out.block _ (Array.getElem?_eq_some_iff.1 HA12.out).1).trans HA12.out)
                  clear HBR
                  obtain ⟨c0, c1, c2, c3, c4, _⟩ := OneR.of HA13.out
                  by_cases heq : Gt.enc bl = t2
                  · have q3 : (eb.toList == sb.toList) = true := by rw [ByteArray.toList_eq, ByteArray.toList_eq, HEB.out, HSD.out, heq]; exact beq_self_eq_true _
                    have HR2 := Lib.hid (show Sc.reads L ws Sc.St.zero = Sc.reads (L.drop (j + 1)) (ws.drop (j + 1)) { y with bytes := bl } by
                      rw [HRR.out, HST2.out, show Sc.read1 66 (61 :: t2) y = some { y with bytes := bl } by simp [Sc.read1, HDD.out, heq]]
                      rfl)
                    have HRW := Lib.hid (show (W.setCell ⟨A + 1, 4, none⟩ (.string bb)).heap[A + 1]? = some (oneObj { y with bytes := bl } bb) by
                      have h := HA13.out
                      unfold oneObj at h ⊢
                      rw [heap_setCell_same W (A + 1) 4 _ _ _ h]; simp)
                    have HRA := Lib.hid (show (W.setCell ⟨A + 1, 4, none⟩ (.string bb)).heap[A]? = some (oneObj Sc.St.zero ⟨#[]⟩) from (Below.heap_setCell _ _ _ _ (by show A ≠ A + 1; omega)).trans HA03.out)
                    have HRB := Lib.hid (show Below w.heap.size w (W.setCell ⟨A + 1, 4, none⟩ (.string bb)) from HB3.out.setCell (p := ⟨A + 1, 4, none⟩) (by rw [HAA.out]; show A ≤ A + 1; omega) _)
                    have g4 := (OneR.of HA13.out).fr 4
                    clear heq
                    simp only [q3, Bool.not_true]
                    go_wp2_with fail
                    go_roundw
                    case rel => exact ⟨j + 1, { y with bytes := bl }, bb, hlt, by go_num, HR2.out, HBD.out, HRW.out, HRA.out, HRB.out⟩
                    case measure => simp [intOf]; omega
                  · have q3 : (eb.toList == sb.toList) = false := by
                      rw [beq_eq_false_iff_ne, ByteArray.toList_eq, ByteArray.toList_eq, HEB.out, HSD.out]
                      exact heq
                    have HNO := Lib.hid (show r = none by rw [HST2.out]; simp [Sc.read1, HDD.out, heq])
                    clear heq
                    simp only [q3, Bool.not_false]
                    obtain ⟨d0, d1, d2, d3, d4, fr⟩ := OneR.of HA03.out
                    have f0 := fr 0
                    have f1 := fr 1
                    have f2 := fr 2
                    have f3 := fr 3
                    have f4 := fr 4
                    clear fr
                    go_wp2_with fail
                    obtain ⟨W9, h9⟩ : ∃ z, ((((W.setCell ⟨A, 0, none⟩ (.int .u64 (y.n : Int))).setCell ⟨A, 1, none⟩ (.int .u64 (y.draw : Int))).setCell ⟨A, 2, none⟩ (.int .u64 (y.conn : Int))).setCell ⟨A, 3, none⟩ (.int .i64 y.topic)).setCell ⟨A, 4, none⟩ (.string yb) = z := ⟨_, rfl⟩
                    rw [h9]
                    obtain ⟨⟨x0, x1, x2, x3, x4, _⟩, hb9⟩ := one_end HA03.out HB3.out (Nat.le_of_eq HAA.out) h9
                    have HB9 := Lib.hid hb9
                    clear h9 hb9 c0 c1 c2 c3 c4 d0 d1 d2 d3 d4 f0 f1 f2 f3 f4
                    simp [bodyPost, results, Tryz.results50, go_sem, x0, x1, x2, x3, x4]
                    rw [HNO.out]
                    exact ⟨_, ⟨rfl, rfl⟩, ⟨y, by unfold oneVal; rw [← HYB.out, ba_eta]⟩, fun y h => (by cases h), HB9.out⟩
            · have q2 : ((b0.toNat : Int) != 61) = true := by
                rw [bne_iff_ne]
                intro e
                exact hb0 (UInt8.toNat_inj.1 (by show b0.toNat = 61; omega))
              have HNO := Lib.hid (show r = none by rw [hst]; simp [Sc.read1, hb0])
              clear hst hb0
              obtain ⟨d0, d1, d2, d3, d4, fr⟩ := OneR.of HA0.out
              have f0 := fr 0
              have f1 := fr 1
              have f2 := fr 2
              have f3 := fr 3
              have f4 := fr 4
              clear fr
              go_wp2_with fail
              obtain ⟨W9, h9⟩ : ∃ z, ((((wr.setCell ⟨A, 0, none⟩ (.int .u64 (y.n : Int))).setCell ⟨A, 1, none⟩ (.int .u64 (y.draw : Int))).setCell ⟨A, 2, none⟩ (.int .u64 (y.conn : Int))).setCell ⟨A, 3, none⟩ (.int .i64 y.topic)).setCell ⟨A, 4, none⟩ (.string yb) = z := ⟨_, rfl⟩
              rw [h9]
              obtain ⟨⟨x0, x1, x2, x3, x4, _⟩, hb9⟩ := one_end HA0.out HBW.out (Nat.le_of_eq HAA.out) h9
              have HB9 := Lib.hid hb9
              clear h9 hb9 c0 c1 c2 c3 c4 d0 d1 d2 d3 d4 f0 f1 f2 f3 f4
              simp [bodyPost, results, Tryz.results50, go_sem, x0, x1, x2, x3, x4]
              rw [HNO.out]
              exact ⟨_, ⟨rfl, rfl⟩, ⟨y, by unfold oneVal; rw [← HYB.out, ba_eta]⟩, fun y h => (by cases h), HB9.out⟩
      · have hI : ¬ (j : Int) < (m : Int) := by omega
        have HRE := Lib.hid (show r = some y by
          rw [← HRR.out, HRD.out, List.drop_of_length_le (by rw [HLM.out]; omega), List.drop_of_length_le (by rw [HN.out]; omega)]
          rfl)
        obtain ⟨d0, d1, d2, d3, d4, fr⟩ := OneR.of HA0.out
        have f0 := fr 0
        have f1 := fr 1
        have f2 := fr 2
        have f3 := fr 3
        have f4 := fr 4
        clear fr
        go_wp2_with fail
        obtain ⟨W9, h9⟩ : ∃ z, ((((wr.setCell ⟨A, 0, none⟩ (.int .u64 (y.n : Int))).setCell ⟨A, 1, none⟩ (.int .u64 (y.draw : Int))).setCell ⟨A, 2, none⟩ (.int .u64 (y.conn : Int))).setCell ⟨A, 3, none⟩ (.int .i64 y.topic)).setCell ⟨A, 4, none⟩ (.string yb) = z := ⟨_, rfl⟩
        rw [h9]
        obtain ⟨⟨x0, x1, x2, x3, x4, _⟩, hb9⟩ := one_end HA0.out HBW.out (Nat.le_of_eq HAA.out) h9
        have HB9 := Lib.hid hb9
        clear h9 hb9 c0 c1 c2 c3 c4 d0 d1 d2 d3 d4 f0 f1 f2 f3 f4
        simp [bodyPost, results, Tryz.results50, go_sem, x0, x1, x2, x3, x4]
        rw [HRE.out]
        refine ⟨_, ⟨rfl, rfl⟩, ⟨y, by unfold oneVal; rw [← HYB.out, ba_eta]⟩, fun z h => ?_, HB9.out⟩
        cases h
        unfold oneVal
        rw [← HYB.out, ba_eta]
  · have q0 : ((n : Int) != (m : Int)) = true := by rw [bne_iff_ne]; omega
    have HNO := Lib.hid (show r = none by rw [← HRR.out]; exact reads_len L ws _ (by rw [HLM.out, HN.out]; omega))
    obtain ⟨c0, c1, c2, c3, c4, _⟩ := OneR.of HR1.out
    obtain ⟨d0, d1, d2, d3, d4, fr⟩ := OneR.of HR0.out
    have f0 := fr 0
    have f1 := fr 1
    have f2 := fr 2
    have f3 := fr 3
    have f4 := fr 4
    clear fr hlen
    go_wp2_with fail
    obtain ⟨W9, h9⟩ : ∃ z, ((((W.setCell ⟨A, 0, none⟩ (.int .u64 (Sc.St.zero.n : Int))).setCell ⟨A, 1, none⟩ (.int .u64 (Sc.St.zero.draw : Int))).setCell ⟨A, 2, none⟩ (.int .u64 (Sc.St.zero.conn : Int))).setCell ⟨A, 3, none⟩ (.int .i64 Sc.St.zero.topic)).setCell ⟨A, 4, none⟩ (.string ⟨#[]⟩) = z := ⟨_, rfl⟩
    rw [h9]
    obtain ⟨⟨x0, x1, x2, x3, x4, _⟩, hb9⟩ := one_end HR0.out HB.out (Nat.le_of_eq HAA.out) h9
    have HB9 := Lib.hid hb9
    clear h9 hb9 c0 c1 c2 c3 c4 d0 d1 d2 d3 d4 f0 f1 f2 f3 f4
    simp [bodyPost, results, Tryz.results50, go_sem, x0, x1, x2, x3, x4]
    rw [HNO.out]
    exact ⟨_, ⟨rfl, rfl⟩, ⟨Sc.St.zero, rfl⟩, fun y h => (by cases h), HB9.out⟩
end Go.Proofs.YtbaakfcbakpmpaaGreatDoor

/- script: the reference's Parse and OutParse. No conditions but those that each law states. Printed by genUe.py. -/
namespace Go.Proofs.YtbaakfcbakpmpaaGreatDoor
set_option linter.unusedVariables false
set_option linter.unusedSimpArgs false
open Go.RowKit Go.Shelf
set_option maxHeartbeats 8000000
set_option maxRecDepth 100000
theorem parse_cons {T : Sc.Shapes} {l w0 : List UInt8} {ws : List (List UInt8)} (h : Gs.parts 32 [] l = w0 :: ws) : Sc.parse T l = (match T.find? fun e => e.2.1 == w0 with
    | none => none
    | some (k, _, ps) => (Sc.reads ps ws Sc.St.zero).map fun x => (k, x)) := by
  unfold Sc.parse Sc.words; rw [h]; rfl
theorem parse_hit {T : Sc.Shapes} (hT : T = Sc.stepT ∨ T = Sc.outT) {l w0 : List UInt8} {ws : List (List UInt8)} (h : Gs.parts 32 [] l = w0 :: ws) {i : Nat} (hi : i < T.length) (hn : (T.getD i (0, [], [])).2.1 = w0) :
    Sc.parse T l = (Sc.reads (T.getD i (0, [], [])).2.2 ws Sc.St.zero).map fun x => ((T.getD i (0, [], [])).1, x) := by
  rw [parse_cons h, ← hn, (find_name hT hi).1]
theorem parse_miss {T : Sc.Shapes} {l w0 : List UInt8} {ws : List (List UInt8)} (h : Gs.parts 32 [] l = w0 :: ws) (hn : ∀ i, i < T.length → (T.getD i (0, [], [])).2.1 ≠ w0) : Sc.parse T l = none := by
  rw [parse_cons h, find_none hn]
theorem tab_st : ∀ i : Fin 9, (Sc.stepT.getD i.val (0, [], [])).1 = (i.val : Int) + 1 ∧ shN Sc.stepT ((i.val : Int) + 1) = (Sc.stepT.getD i.val (0, [], [])).2.1 ∧ shP Sc.stepT ((i.val : Int) + 1) = (Sc.stepT.getD i.val (0, [], [])).2.2 := by decide +kernel
theorem tab_ot : ∀ i : Fin 6, (Sc.outT.getD i.val (0, [], [])).1 = (i.val : Int) + 1 ∧ shN Sc.outT ((i.val : Int) + 1) = (Sc.outT.getD i.val (0, [], [])).2.1 ∧ shP Sc.outT ((i.val : Int) + 1) = (Sc.outT.getD i.val (0, [], [])).2.2 := by decide +kernel
theorem tab_at {T : Sc.Shapes} (hT : T = Sc.stepT ∨ T = Sc.outT) {k : Nat} (h1 : 1 ≤ k) (h2 : k ≤ T.length) : (T.getD (k - 1) (0, [], [])).1 = (k : Int) ∧ shN T (k : Int) = (T.getD (k - 1) (0, [], [])).2.1 ∧ shP T (k : Int) = (T.getD (k - 1) (0, [], [])).2.2 := by
  obtain ⟨i, rfl⟩ : ∃ i, k = i + 1 := ⟨k - 1, by omega⟩
  rw [Nat.add_sub_cancel, show ((i + 1 : Nat) : Int) = (i : Int) + 1 by omega]
  rcases hT with rfl | rfl
  · exact tab_st ⟨i, by have h2 : i + 1 ≤ 9 := h2; omega⟩
  · exact tab_ot ⟨i, by have h2 : i + 1 ≤ 6 := h2; omega⟩
theorem tail_run (g n c : Nat) (h1 : 1 ≤ n) : ∃ q, (∀ W, (Instr.slice 94 (.slice (some ⟨g, 0, none⟩) n c) (some (.int .i64 1)) none none).run Tryz.prog W = .ok (.slice q (n - 1) (c - 1)) W) ∧ (1 < c → q = some ⟨g, 1, none⟩) := by
  refine ⟨if c = 1 then some ⟨g, 0, none⟩ else some ⟨g, 1, none⟩, fun W => ?_, fun h => by rw [if_neg (by omega)]⟩
  have h2 : (1 : Int) ≤ (n : Int) := by omega
  have hs : (sizeOf 9).run Tryz.prog W = .ok 1 W := by kernel_rfl
  simp [go_sem, Tryz.underlying94, h2, hs, sliced, Addr.add]
  try (split <;> rfl)
theorem rf_Parse (s : ByteArray) (w : World) (hs : s.size ≤ 50000) :
    Calls Tryz.prog 19 #[.string s] w fun e w' => ∃ u, e = .returned (.tuple #[stVal (stp (Sc.parse Sc.stepT s.data.toList)) u, .int .i64 (erS (Sc.parse Sc.stepT s.data.toList))]) ∧ BRow w' u (stp (Sc.parse Sc.stepT s.data.toList)).bytes ∧ NewV w.heap.size u ∧ Below w.heap.size w w' := by
  obtain ⟨o, ho⟩ : ∃ z, Sc.parse Sc.stepT s.data.toList = z := ⟨_, rfl⟩
  rw [ho]
  obtain ⟨S, hS⟩ : ∃ z, w.heap.size = z := ⟨_, rfl⟩
  obtain ⟨W, hW⟩ : ∃ z, w.alloc (.cells #[.int .i64 0, .int .u64 0, .int .i64 0, .int .u64 0, .int .u64 0, .slice none 0 0] 26) = z := ⟨_, rfl⟩
  have hb : Below w.heap.size w W := by rw [← hW]; exact (Below.refl _ _).alloc (Nat.le_refl _) _
  have hr : W.heap[S]? = some (stObj Sc.St.zero (.slice none 0 0)) := by rw [← hW, ← hS]; exact World.alloc_heap_new _ _
  have KW := rf_words s 32 W (by omega)
  obtain ⟨L, hL⟩ : ∃ z, Gs.parts 32 [] s.data.toList = z := ⟨_, rfl⟩
  obtain ⟨n, hn⟩ : ∃ z, L.length = z := ⟨_, rfl⟩
  rw [hL, hn, show ((32 : UInt8).toNat : Int) = 32 from rfl] at KW
  have hn1 : 1 ≤ n := by rw [← hn, ← hL]; exact List.length_pos_iff.2 (Gs.parts_ne _ _ _)
  have hnl : n ≤ 50001 := by
    have h1 := Gs.parts_many 32 s.data.toList []
    have h2 : s.data.toList.length = s.size := rfl
    rw [hL, hn] at h1
    omega
  have hwl : ∀ t ∈ L, t.length ≤ 50000 := fun t ht => by
    rw [← hL] at ht
    have h1 := Gs.parts_len 32 _ _ t ht
    have h2 : s.data.toList.length = s.size := rfl
    rw [h2] at h1
    simp only [List.length_nil] at h1
    omega
  obtain ⟨w0, ws, hLc⟩ : ∃ a b, L = a :: b := by
    cases L with
    | nil => rw [List.length_nil] at hn; omega
    | cons a b => exact ⟨a, b, rfl⟩
  have hwn : ws.length = n - 1 := by rw [← hn, hLc]; rfl
  have HT1 := Lib.hid (show ∀ i, i < 9 → (Sc.stepT.getD i (0, [], [])).2.1 = w0 → o = (Sc.reads (Sc.stepT.getD i (0, [], [])).2.2 ws Sc.St.zero).map fun x => ((Sc.stepT.getD i (0, [], [])).1, x) from fun i hi he => ho.symm.trans (parse_hit (.inl rfl) (hL.trans hLc) hi he))
  have HT2 := Lib.hid (show (∀ i, i < 9 → (Sc.stepT.getD i (0, [], [])).2.1 ≠ w0) → o = none from fun h => ho.symm.trans (parse_miss (hL.trans hLc) h))
  have HWL := Lib.hid (show ∀ t ∈ ws, t.length ≤ 50000 from fun t ht => hwl t (by rw [hLc]; exact List.mem_cons_of_mem _ ht))
  have HLC := Lib.hid hLc
  have HLN := Lib.hid hn
  have HWN := Lib.hid hwn
  have KW := Lib.hid KW
  have HB := Lib.hid hb
  have HR := Lib.hid hr
  have HSS := Lib.hid hS
  have HWW := Lib.hid hW
  clear hb hr hS hW hL hn hwl hLc hwn ho
  go_enter Tryz.func19, Tryz.ntmps19
  go_upto_region 1 with (fail)
  rw [HSS.out, HWW.out]
  go_wp2_with fail
  refine KW.out.mono ?_
  rintro e w1 ⟨r, rfl, hrow, ⟨pw, cw, rfl, hcw⟩, hb1⟩
  obtain ⟨g, hpg, hcells⟩ : ∃ g, pw = some ⟨g, 0, none⟩ ∧ ∀ j, j < L.length → w1.cell? ⟨g, j, none⟩ = some (tx (L.getD j [])) := by
    obtain ⟨p', c', h1, h2⟩ := hrow
    cases h1
    rcases h2 with h2 | ⟨g, h3, h4⟩
    · rw [HLN.out] at h2; omega
    · exact ⟨g, h3, h4⟩
  subst hpg
  obtain ⟨q, hq1, hq2⟩ := tail_run g n cw hn1
  obtain ⟨n1, hn1e⟩ : ∃ z, n - 1 = z := ⟨_, rfl⟩
  obtain ⟨c1, hc1e⟩ : ∃ z, cw - 1 = z := ⟨_, rfl⟩
  obtain ⟨wb, hwb⟩ : ∃ z : ByteArray, (⟨w0.toArray⟩ : ByteArray) = z := ⟨_, rfl⟩
  have hc0 : w1.cell? ⟨g, 0, none⟩ = some (.string wb) := by
    have h := hcells 0 (by rw [HLN.out]; omega)
    rw [HLC.out] at h
    rw [← hwb]; exact h
  have HWS := Lib.hid (show WsAt w1 q ws from by
    by_cases h2 : n = 1
    · exact .inl (by rw [HWN.out]; omega)
    · refine .inr ⟨g, 1, hq2 (by omega), fun j hj => ?_⟩
      have h := hcells (1 + j) (by have := HLN.out; have := HWN.out; omega)
      rw [h, HLC.out, Nat.add_comm]; rfl)
  have HQ := Lib.hid (hn1e ▸ hc1e ▸ hq1)
  have HWB := Lib.hid (show wb.data.toList = w0 by rw [← hwb])
  have HC0 := Lib.hid hc0
  have HB1 := Lib.hid (HB.out.trans (hb1.mono HB.out.size))
  have HR1 := Lib.hid ((hb1.block _ (Array.getElem?_eq_some_iff.1 HR.out).1).trans HR.out)
  have HN1 := Lib.hid hn1e
  have hn1l : n1 ≤ 50001 := by omega
  clear hrow hcw hb1 hcells hq1 hq2 hn1e hc1e hwb hc0 KW
  go_wp2_with fail
  go_loopw [5] (fun v wr => ∃ k : Nat, 1 ≤ k ∧ k ≤ 10 ∧ v = .int .i64 k ∧ (o = none ∨ ∀ i, i + 1 < k → (Sc.stepT.getD i (0, [], [])).2.1 ≠ w0) ∧ wr.heap[S]? = some (stObj Sc.St.zero (.slice none 0 0)) ∧ Below w.heap.size w wr ∧ Below w1.heap.size w1 wr) (fun i _ => 10 - (intOf i).toNat)
  case atStart => exact ⟨1, by omega, by omega, rfl, .inr (fun i hi => by omega), HR1.out, HB1.out, Below.refl _ _⟩
  case round =>
    obtain ⟨k, hk1, hk2, rfl, hinv, hS2, hbw, hb1w⟩ := hrel
    have HI := Lib.hid hinv
    have HS2 := Lib.hid hS2
    have HBW := Lib.hid hbw
    have HB1W := Lib.hid hb1w
    clear hinv hS2 hbw hb1w
    by_cases hle : k ≤ 9
    · have hI : (k : Int) ≤ 9 := by omega
      obtain ⟨t1, t2, t3⟩ := tab_at (T := Sc.stepT) (.inl rfl) hk1 hle
      have KS := rf_Shape (k : Int) wr
      obtain ⟨f1, f2, f3⟩ := shP_facts (T := Sc.stepT) (.inl rfl) (k : Int)
      obtain ⟨nm, hnm⟩ : ∃ z : ByteArray, (⟨(shN Sc.stepT (k : Int)).toArray⟩ : ByteArray) = z := ⟨_, rfl⟩
      obtain ⟨ps, hps⟩ : ∃ z : ByteArray, (⟨(shP Sc.stepT (k : Int)).toArray⟩ : ByteArray) = z := ⟨_, rfl⟩
      rw [hnm, hps] at KS
      have e1 : nm.data.toList = (Sc.stepT.getD (k - 1) (0, [], [])).2.1 := by rw [← hnm, ← t2]
      have e2 : ps.data.toList = (Sc.stepT.getD (k - 1) (0, [], [])).2.2 := by rw [← hps, ← t3]
      have s2 : ps.size ≤ 3 := by rw [← hps]; exact f2
      have HPP := Lib.hid (show ∀ q ∈ ps.data.toList, Sc.isP q by rw [← hps]; exact f1)
      have KS := Lib.hid KS
      have HE1 := Lib.hid e1
      have HE2 := Lib.hid e2
      have HT0 := Lib.hid t1
      clear f1 f2 f3 hnm hps e1 e2 t1 t2 t3
      by_cases hq : (Sc.stepT.getD (k - 1) (0, [], [])).2.1 = w0
      · have q1 : (nm.toList == wb.toList) = true := by rw [ByteArray.toList_eq, ByteArray.toList_eq, HE1.out, HWB.out, hq]; exact beq_self_eq_true _
        have HO := HT1.out (k - 1) (by omega) hq
        rw [HT0.out, ← HE2.out] at HO
        obtain ⟨rr, hrr⟩ : ∃ z, Sc.reads ps.data.toList ws Sc.St.zero = z := ⟨_, rfl⟩
        rw [hrr] at HO
        have HO := Lib.hid HO
        have HRR := Lib.hid hrr
        clear hq hrr
        go_wp2_with fail
        refine KS.out.mono ?_
        rintro e w2 ⟨rfl, hb2⟩
        have HB2 := Lib.hid (HBW.out.trans (hb2.mono HBW.out.size))
        have HB12 := Lib.hid (HB1W.out.trans (hb2.mono HB1W.out.size))
        have HS3 := Lib.hid ((hb2.block _ (Array.getElem?_eq_some_iff.1 HS2.out).1).trans HS2.out)
        have hc0 := cell_below HB12.out HC0.out
        have KP := rf_parse ps q n1 c1 ws w2 (by rw [HWN.out, HN1.out]) (HWS.out.below HB12.out) HPP.out s2 HWL.out (by omega)
        rw [HRR.out] at KP
        have KP := Lib.hid KP
        have hsl := HQ.out
        clear hb2
        go_wp2_with fail
        refine KP.out.mono ?_
        rintro e w3 ⟨one, rfl, hone, hy, hb3⟩
        have HB3 := Lib.hid (HB2.out.trans (hb3.mono HB2.out.size))
        have HB13 := Lib.hid (HB12.out.trans (hb3.mono HB12.out.size))
        have HS4 := Lib.hid ((hb3.block _ (Array.getElem?_eq_some_iff.1 HS3.out).1).trans HS3.out)
        clear hb3 hc0 hsl KP
        cases rr with
        | none =>
          obtain ⟨y0, rfl⟩ := hone
          clear hy
          unfold oneVal
          obtain ⟨Z, hZ⟩ : ∃ z, w3.heap.size = z := ⟨_, rfl⟩
          obtain ⟨bb, hbb⟩ : ∃ z : ByteArray, (⟨y0.bytes.toArray⟩ : ByteArray) = z := ⟨_, rfl⟩
          rw [hbb]
          obtain ⟨w4, hw4⟩ : ∃ z, w3.alloc (.cells #[.int .u64 (y0.n : Int), .int .u64 (y0.draw : Int), .int .u64 (y0.conn : Int), .int .i64 y0.topic, .string bb] 92) = z := ⟨_, rfl⟩
          have hb4 : Below w3.heap.size w3 w4 := by rw [← hw4]; exact (Below.refl _ _).alloc (Nat.le_refl _) _
          have HB4 := Lib.hid (HB3.out.trans (hb4.mono HB3.out.size))
          have HB14 := Lib.hid (HB13.out.trans (hb4.mono HB13.out.size))
          have HS5 := Lib.hid ((hb4.block _ (Array.getElem?_eq_some_iff.1 HS4.out).1).trans HS4.out)
          have HW4 := Lib.hid hw4
          have HZ := Lib.hid hZ
          clear hb4 hw4 hZ hbb
          go_upto_region 8 with (fail)
          rw [HZ.out, HW4.out]
          go_wp2_with fail
          go_roundw
          case rel => exact ⟨k + 1, by omega, by omega, by go_num, .inl HO.out, HS5.out, HB4.out, HB14.out⟩
          case measure => simp [intOf]; omega
        | some y =>
          have hy1 := hy y rfl
          subst hy1
          clear hy hone
          unfold oneVal
          obtain ⟨Z, hZ⟩ : ∃ z, w3.heap.size = z := ⟨_, rfl⟩
          obtain ⟨bb, hbb⟩ : ∃ z : ByteArray, (⟨y.bytes.toArray⟩ : ByteArray) = z := ⟨_, rfl⟩
          rw [hbb]
          obtain ⟨w4, hw4⟩ : ∃ z, w3.alloc (.cells #[.int .u64 (y.n : Int), .int .u64 (y.draw : Int), .int .u64 (y.conn : Int), .int .i64 y.topic, .string bb] 92) = z := ⟨_, rfl⟩
          have hb4 : Below w3.heap.size w3 w4 := by rw [← hw4]; exact (Below.refl _ _).alloc (Nat.le_refl _) _
          have hZ4 : w4.heap[Z]? = some (.cells #[.int .u64 (y.n : Int), .int .u64 (y.draw : Int), .int .u64 (y.conn : Int), .int .i64 y.topic, .string bb] 92 (0, 0)) := by rw [← hw4, ← hZ]; exact World.alloc_heap_new _ _
          have HB4 := Lib.hid (HB3.out.trans (hb4.mono HB3.out.size))
          have HB14 := Lib.hid (HB13.out.trans (hb4.mono HB13.out.size))
          have HS5 := Lib.hid ((hb4.block _ (Array.getElem?_eq_some_iff.1 HS4.out).1).trans HS4.out)
          have HW4 := Lib.hid hw4
          have HZ := Lib.hid hZ
          have z0 : w4.cell? ⟨Z, 0, none⟩ = some (.int .u64 (y.n : Int)) := by simp [World.cell?, hZ4]
          have z1 : w4.cell? ⟨Z, 1, none⟩ = some (.int .u64 (y.draw : Int)) := by simp [World.cell?, hZ4]
          have z2 : w4.cell? ⟨Z, 2, none⟩ = some (.int .u64 (y.conn : Int)) := by simp [World.cell?, hZ4]
          have z3 : w4.cell? ⟨Z, 3, none⟩ = some (.int .i64 y.topic) := by simp [World.cell?, hZ4]
          have z4 : w4.cell? ⟨Z, 4, none⟩ = some (.string bb) := by simp [World.cell?, hZ4]
          have hbl : bb.data.toList = y.bytes := by rw [← hbb]
          clear hb4 hw4 hZ hZ4 hbb
          obtain ⟨w5, hw5⟩ : ∃ z, Lib.bytesWorld w4 5 bb = z := ⟨_, rfl⟩
          have hb5 : Below w4.heap.size w4 w5 := by rw [← hw5]; exact below_bytesWorld _ _ _ _ (Nat.le_refl _)
          have hcv := Lib.run_convert_string_bytes (P := Tryz.prog) w4 9 24 5 bb Tryz.underlying9 Tryz.underlying24 Tryz.underlying5
          have hge := grownCap_ge w4 bb.size 0 5
          obtain ⟨cp, hcp⟩ : ∃ z, grownCap w4 bb.size 0 5 = z := ⟨_, rfl⟩
          obtain ⟨G, hG⟩ : ∃ z, w4.heap.size = z := ⟨_, rfl⟩
          have HBV := Lib.hid (show BRow w5 (.slice (some ⟨G, 0, none⟩) bb.size cp) y.bytes from by
            rw [← hw5, ← hbl]
            exact ⟨_, cp, rfl, by rw [← hcp]; exact hge, .inr ⟨G, 0, rfl, fun j hj => by rw [Nat.zero_add]; have := Lib.bytesWorld_cell w4 5 bb j hj; rw [hG] at this; exact this⟩⟩)
          have HNV := Lib.hid (show NewV w.heap.size (.slice (some ⟨G, 0, none⟩) bb.size cp) from fun g hg => by
            have h1 : G = g := by simpa [Value.ownBlock] using hg
            have h2 := HB4.out.size
            omega)
          rw [hw5, hcp, hG] at hcv
          have hS6 : w5.heap[S]? = some (stObj Sc.St.zero (.slice none 0 0)) := (hb5.block _ (Array.getElem?_eq_some_iff.1 HS5.out).1).trans HS5.out
          have HB5 := Lib.hid (HB4.out.trans (hb5.mono HB4.out.size))
          have HS6 := Lib.hid hS6
          obtain ⟨s0, s1, s2', s3, s4, s5, sf⟩ := SR.of hS6
          have f0 := sf 0
          have f1 := sf 1
          have f2 := sf 2
          have f3 := sf 3
          have f4 := sf 4
          have f5 := sf 5
          clear hw5 hb5 hge hcp hG hbl hS6 sf
          go_upto_region 8 with (fail)
          rw [HZ.out, HW4.out]
          skip
          go_wp2_with fail
          obtain ⟨X, hX⟩ : ∃ X, stS w5 S { y with kind := (k : Int) } (.slice (some ⟨G, 0, none⟩) bb.size cp) = X := ⟨_, rfl⟩
          have hX6 : X.heap[S]? = some (stObj { y with kind := (k : Int) } (.slice (some ⟨G, 0, none⟩) bb.size cp)) := by rw [← hX]; exact stS_heap HS6.out _ _
          have HBX := Lib.hid (show Below w.heap.size w X by rw [← hX]; exact stS_below _ _ HB5.out (Nat.le_of_eq HSS.out))
          have HBV2 := Lib.hid (show BRow X (.slice (some ⟨G, 0, none⟩) bb.size cp) y.bytes by rw [← hX]; exact brow_other HBV.out HS6.out ⟨_, _, _, rfl⟩ (stS_keep _ _ _ _))
          unfold stS at hX
          (try simp only at hX)
          rw [hX]
          obtain ⟨x0, x1, x2, x3, x4, x5, _⟩ := SR.of hX6
          clear hX hX6 s0 s1 s2' s3 s4 s5 f0 f1 f2 f3 f4 f5
          simp [bodyPost, results, Tryz.results19, go_sem, x0, x1, x2, x3, x4, x5]
          rw [HO.out]
          exact ⟨_, ⟨rfl, rfl⟩, HBV2.out, HNV.out, HBX.out⟩
      · have q1 : (nm.toList == wb.toList) = false := by
          rw [beq_eq_false_iff_ne, ByteArray.toList_eq, ByteArray.toList_eq, HE1.out, HWB.out]
          exact hq
        have HI2 := Lib.hid (show o = none ∨ ∀ i, i + 1 < k + 1 → (Sc.stepT.getD i (0, [], [])).2.1 ≠ w0 from HI.out.imp id (fun h i hi => by
          by_cases e : i + 1 < k
          · exact h i e
          · obtain rfl : i = k - 1 := by omega
            exact hq))
        clear hq
        go_wp2_with fail
        refine KS.out.mono ?_
        rintro e w2 ⟨rfl, hb2⟩
        have HB2 := Lib.hid (HBW.out.trans (hb2.mono HBW.out.size))
        have HB12 := Lib.hid (HB1W.out.trans (hb2.mono HB1W.out.size))
        have HS3 := Lib.hid ((hb2.block _ (Array.getElem?_eq_some_iff.1 HS2.out).1).trans HS2.out)
        have hc0 := cell_below HB12.out HC0.out
        clear hb2
        go_wp2_with fail
        go_roundw
        case rel => exact ⟨k + 1, by omega, by omega, by go_num, HI2.out, HS3.out, HB2.out, HB12.out⟩
        case measure => simp [intOf]; omega
    · have hI : ¬ (k : Int) ≤ 9 := by omega
      have HO := Lib.hid (show o = none from HI.out.elim id (fun h => HT2.out (fun i hi => h i (by omega))))
      obtain ⟨s0, s1, s2', s3, s4, s5, sf⟩ := SR.of HS2.out
      have f0 := sf 0
      have f1 := sf 1
      have f2 := sf 2
      have f3 := sf 3
      have f4 := sf 4
      have f5 := sf 5
      clear sf
      go_wp2_with fail
      obtain ⟨X, hX⟩ : ∃ X, stS wr S Sc.St.zero (.slice none 0 0) = X := ⟨_, rfl⟩
      have hX6 : X.heap[S]? = some (stObj Sc.St.zero (.slice none 0 0)) := by rw [← hX]; exact stS_heap HS2.out _ _
      have HBX := Lib.hid (show Below w.heap.size w X by rw [← hX]; exact stS_below _ _ HBW.out (Nat.le_of_eq HSS.out))
      unfold stS Sc.St.zero at hX
      simp only [show ((0 : Nat) : Int) = 0 from rfl] at hX
      rw [hX]
      obtain ⟨x0, x1, x2, x3, x4, x5, _⟩ := SR.of hX6
      unfold Sc.St.zero at x0 x1 x2 x3 x4
      clear hX hX6 s0 s1 s2' s3 s4 s5 f0 f1 f2 f3 f4 f5
      simp [bodyPost, results, Tryz.results19, go_sem, x0, x1, x2, x3, x4, x5]
      rw [HO.out]
      exact ⟨_, ⟨rfl, rfl⟩, BRow.nil _, (fun g hg => by simp [Value.ownBlock] at hg), HBX.out⟩
theorem rf_OutParse (s : ByteArray) (w : World) (hs : s.size ≤ 50000) :
    Calls Tryz.prog 20 #[.string s] w fun e w' => ∃ u, e = .returned (.tuple #[otVal (otk (Sc.parse Sc.outT s.data.toList)) (ots (Sc.parse Sc.outT s.data.toList)) u, .int .i64 (erS (Sc.parse Sc.outT s.data.toList))]) ∧ BRow w' u (ots (Sc.parse Sc.outT s.data.toList)).bytes ∧ NewV w.heap.size u ∧ Below w.heap.size w w' := by
  obtain ⟨o, ho⟩ : ∃ z, Sc.parse Sc.outT s.data.toList = z := ⟨_, rfl⟩
  rw [ho]
  obtain ⟨S, hS⟩ : ∃ z, w.heap.size = z := ⟨_, rfl⟩
  obtain ⟨W, hW⟩ : ∃ z, w.alloc (.cells #[.int .i64 0, .int .u64 0, .int .i64 0, .slice none 0 0] 29) = z := ⟨_, rfl⟩
  have hb : Below w.heap.size w W := by rw [← hW]; exact (Below.refl _ _).alloc (Nat.le_refl _) _
  have hr : W.heap[S]? = some (otObj 0 Sc.St.zero (.slice none 0 0)) := by rw [← hW, ← hS]; exact World.alloc_heap_new _ _
  have KW := rf_words s 32 W (by omega)
  obtain ⟨L, hL⟩ : ∃ z, Gs.parts 32 [] s.data.toList = z := ⟨_, rfl⟩
  obtain ⟨n, hn⟩ : ∃ z, L.length = z := ⟨_, rfl⟩
  rw [hL, hn, show ((32 : UInt8).toNat : Int) = 32 from rfl] at KW
  have hn1 : 1 ≤ n := by rw [← hn, ← hL]; exact List.length_pos_iff.2 (Gs.parts_ne _ _ _)
  have hnl : n ≤ 50001 := by
    have h1 := Gs.parts_many 32 s.data.toList []
    have h2 : s.data.toList.length = s.size := rfl
    rw [hL, hn] at h1
    omega
  have hwl : ∀ t ∈ L, t.length ≤ 50000 := fun t ht => by
    rw [← hL] at ht
    have h1 := Gs.parts_len 32 _ _ t ht
    have h2 : s.data.toList.length = s.size := rfl
    rw [h2] at h1
    simp only [List.length_nil] at h1
    omega
  obtain ⟨w0, ws, hLc⟩ : ∃ a b, L = a :: b := by
    cases L with
    | nil => rw [List.length_nil] at hn; omega
    | cons a b => exact ⟨a, b, rfl⟩
  have hwn : ws.length = n - 1 := by rw [← hn, hLc]; rfl
  have HT1 := Lib.hid (show ∀ i, i < 6 → (Sc.outT.getD i (0, [], [])).2.1 = w0 → o = (Sc.reads (Sc.outT.getD i (0, [], [])).2.2 ws Sc.St.zero).map fun x => ((Sc.outT.getD i (0, [], [])).1, x) from fun i hi he => ho.symm.trans (parse_hit (.inr rfl) (hL.trans hLc) hi he))
  have HT2 := Lib.hid (show (∀ i, i < 6 → (Sc.outT.getD i (0, [], [])).2.1 ≠ w0) → o = none from fun h => ho.symm.trans (parse_miss (hL.trans hLc) h))
  have HWL := Lib.hid (show ∀ t ∈ ws, t.length ≤ 50000 from fun t ht => hwl t (by rw [hLc]; exact List.mem_cons_of_mem _ ht))
  have HLC := Lib.hid hLc
  have HLN := Lib.hid hn
  have HWN := Lib.hid hwn
  have KW := Lib.hid KW
  have HB := Lib.hid hb
  have HR := Lib.hid hr
  have HSS := Lib.hid hS
  have HWW := Lib.hid hW
  clear hb hr hS hW hL hn hwl hLc hwn ho
  go_enter Tryz.func20, Tryz.ntmps20
  go_upto_region 1 with (fail)
  rw [HSS.out, HWW.out]
  go_wp2_with fail
  refine KW.out.mono ?_
  rintro e w1 ⟨r, rfl, hrow, ⟨pw, cw, rfl, hcw⟩, hb1⟩
  obtain ⟨g, hpg, hcells⟩ : ∃ g, pw = some ⟨g, 0, none⟩ ∧ ∀ j, j < L.length → w1.cell? ⟨g, j, none⟩ = some (tx (L.getD j [])) := by
    obtain ⟨p', c', h1, h2⟩ := hrow
    cases h1
    rcases h2 with h2 | ⟨g, h3, h4⟩
    · rw [HLN.out] at h2; omega
    · exact ⟨g, h3, h4⟩
  subst hpg
  obtain ⟨q, hq1, hq2⟩ := tail_run g n cw hn1
  obtain ⟨n1, hn1e⟩ : ∃ z, n - 1 = z := ⟨_, rfl⟩
  obtain ⟨c1, hc1e⟩ : ∃ z, cw - 1 = z := ⟨_, rfl⟩
  obtain ⟨wb, hwb⟩ : ∃ z : ByteArray, (⟨w0.toArray⟩ : ByteArray) = z := ⟨_, rfl⟩
  have hc0 : w1.cell? ⟨g, 0, none⟩ = some (.string wb) := by
    have h := hcells 0 (by rw [HLN.out]; omega)
    rw [HLC.out] at h
    rw [← hwb]; exact h
  have HWS := Lib.hid (show WsAt w1 q ws from by
    by_cases h2 : n = 1
    · exact .inl (by rw [HWN.out]; omega)
    · refine .inr ⟨g, 1, hq2 (by omega), fun j hj => ?_⟩
      have h := hcells (1 + j) (by have := HLN.out; have := HWN.out; omega)
      rw [h, HLC.out, Nat.add_comm]; rfl)
  have HQ := Lib.hid (hn1e ▸ hc1e ▸ hq1)
  have HWB := Lib.hid (show wb.data.toList = w0 by rw [← hwb])
  have HC0 := Lib.hid hc0
  have HB1 := Lib.hid (HB.out.trans (hb1.mono HB.out.size))
  have HR1 := Lib.hid ((hb1.block _ (Array.getElem?_eq_some_iff.1 HR.out).1).trans HR.out)
  have HN1 := Lib.hid hn1e
  have hn1l : n1 ≤ 50001 := by omega
  clear hrow hcw hb1 hcells hq1 hq2 hn1e hc1e hwb hc0 KW
  go_wp2_with fail
  go_loopw [5] (fun v wr => ∃ k : Nat, 1 ≤ k ∧ k ≤ 7 ∧ v = .int .i64 k ∧ (o = none ∨ ∀ i, i + 1 < k → (Sc.outT.getD i (0, [], [])).2.1 ≠ w0) ∧ wr.heap[S]? = some (otObj 0 Sc.St.zero (.slice none 0 0)) ∧ Below w.heap.size w wr ∧ Below w1.heap.size w1 wr) (fun i _ => 7 - (intOf i).toNat)
  case atStart => exact ⟨1, by omega, by omega, rfl, .inr (fun i hi => by omega), HR1.out, HB1.out, Below.refl _ _⟩
  case round =>
    obtain ⟨k, hk1, hk2, rfl, hinv, hS2, hbw, hb1w⟩ := hrel
    have HI := Lib.hid hinv
    have HS2 := Lib.hid hS2
    have HBW := Lib.hid hbw
    have HB1W := Lib.hid hb1w
    clear hinv hS2 hbw hb1w
    by_cases hle : k ≤ 6
    · have hI : (k : Int) ≤ 6 := by omega
      obtain ⟨t1, t2, t3⟩ := tab_at (T := Sc.outT) (.inr rfl) hk1 hle
      have KS := rf_OutShape (k : Int) wr
      obtain ⟨f1, f2, f3⟩ := shP_facts (T := Sc.outT) (.inr rfl) (k : Int)
      obtain ⟨nm, hnm⟩ : ∃ z : ByteArray, (⟨(shN Sc.outT (k : Int)).toArray⟩ : ByteArray) = z := ⟨_, rfl⟩
      obtain ⟨ps, hps⟩ : ∃ z : ByteArray, (⟨(shP Sc.outT (k : Int)).toArray⟩ : ByteArray) = z := ⟨_, rfl⟩
      rw [hnm, hps] at KS
      have e1 : nm.data.toList = (Sc.outT.getD (k - 1) (0, [], [])).2.1 := by rw [← hnm, ← t2]
      have e2 : ps.data.toList = (Sc.outT.getD (k - 1) (0, [], [])).2.2 := by rw [← hps, ← t3]
      have s2 : ps.size ≤ 3 := by rw [← hps]; exact f2
      have HPP := Lib.hid (show ∀ q ∈ ps.data.toList, Sc.isP q by rw [← hps]; exact f1)
      have KS := Lib.hid KS
      have HE1 := Lib.hid e1
      have HE2 := Lib.hid e2
      have HT0 := Lib.hid t1
      clear f1 f2 f3 hnm hps e1 e2 t1 t2 t3
      by_cases hq : (Sc.outT.getD (k - 1) (0, [], [])).2.1 = w0
      · have q1 : (nm.toList == wb.toList) = true := by rw [ByteArray.toList_eq, ByteArray.toList_eq, HE1.out, HWB.out, hq]; exact beq_self_eq_true _
        have HO := HT1.out (k - 1) (by omega) hq
        rw [HT0.out, ← HE2.out] at HO
        obtain ⟨rr, hrr⟩ : ∃ z, Sc.reads ps.data.toList ws Sc.St.zero = z := ⟨_, rfl⟩
        rw [hrr] at HO
        have HO := Lib.hid HO
        have HRR := Lib.hid hrr
        clear hq hrr
        go_wp2_with fail
        refine KS.out.mono ?_
        rintro e w2 ⟨rfl, hb2⟩
        have HB2 := Lib.hid (HBW.out.trans (hb2.mono HBW.out.size))
        have HB12 := Lib.hid (HB1W.out.trans (hb2.mono HB1W.out.size))
        have HS3 := Lib.hid ((hb2.block _ (Array.getElem?_eq_some_iff.1 HS2.out).1).trans HS2.out)
        have hc0 := cell_below HB12.out HC0.out
        have KP := rf_parse ps q n1 c1 ws w2 (by rw [HWN.out, HN1.out]) (HWS.out.below HB12.out) HPP.out s2 HWL.out (by omega)
        rw [HRR.out] at KP
        have KP := Lib.hid KP
        have hsl := HQ.out
        clear hb2
        go_wp2_with fail
        refine KP.out.mono ?_
        rintro e w3 ⟨one, rfl, hone, hy, hb3⟩
        have HB3 := Lib.hid (HB2.out.trans (hb3.mono HB2.out.size))
        have HB13 := Lib.hid (HB12.out.trans (hb3.mono HB12.out.size))
        have HS4 := Lib.hid ((hb3.block _ (Array.getElem?_eq_some_iff.1 HS3.out).1).trans HS3.out)
        clear hb3 hc0 hsl KP
        cases rr with
        | none =>
          obtain ⟨y0, rfl⟩ := hone
          clear hy
          unfold oneVal
          obtain ⟨Z, hZ⟩ : ∃ z, w3.heap.size = z := ⟨_, rfl⟩
          obtain ⟨bb, hbb⟩ : ∃ z : ByteArray, (⟨y0.bytes.toArray⟩ : ByteArray) = z := ⟨_, rfl⟩
          rw [hbb]
          obtain ⟨w4, hw4⟩ : ∃ z, w3.alloc (.cells #[.int .u64 (y0.n : Int), .int .u64 (y0.draw : Int), .int .u64 (y0.conn : Int), .int .i64 y0.topic, .string bb] 92) = z := ⟨_, rfl⟩
          have hb4 : Below w3.heap.size w3 w4 := by rw [← hw4]; exact (Below.refl _ _).alloc (Nat.le_refl _) _
          have HB4 := Lib.hid (HB3.out.trans (hb4.mono HB3.out.size))
          have HB14 := Lib.hid (HB13.out.trans (hb4.mono HB13.out.size))
          have HS5 := Lib.hid ((hb4.block _ (Array.getElem?_eq_some_iff.1 HS4.out).1).trans HS4.out)
          have HW4 := Lib.hid hw4
          have HZ := Lib.hid hZ
          clear hb4 hw4 hZ hbb
          go_upto_region 8 with (fail)
          rw [HZ.out, HW4.out]
          go_wp2_with fail
          go_roundw
          case rel => exact ⟨k + 1, by omega, by omega, by go_num, .inl HO.out, HS5.out, HB4.out, HB14.out⟩
          case measure => simp [intOf]; omega
        | some y =>
          have hy1 := hy y rfl
          subst hy1
          clear hy hone
          unfold oneVal
          obtain ⟨Z, hZ⟩ : ∃ z, w3.heap.size = z := ⟨_, rfl⟩
          obtain ⟨bb, hbb⟩ : ∃ z : ByteArray, (⟨y.bytes.toArray⟩ : ByteArray) = z := ⟨_, rfl⟩
          rw [hbb]
          obtain ⟨w4, hw4⟩ : ∃ z, w3.alloc (.cells #[.int .u64 (y.n : Int), .int .u64 (y.draw : Int), .int .u64 (y.conn : Int), .int .i64 y.topic, .string bb] 92) = z := ⟨_, rfl⟩
          have hb4 : Below w3.heap.size w3 w4 := by rw [← hw4]; exact (Below.refl _ _).alloc (Nat.le_refl _) _
          have hZ4 : w4.heap[Z]? = some (.cells #[.int .u64 (y.n : Int), .int .u64 (y.draw : Int), .int .u64 (y.conn : Int), .int .i64 y.topic, .string bb] 92 (0, 0)) := by rw [← hw4, ← hZ]; exact World.alloc_heap_new _ _
          have HB4 := Lib.hid (HB3.out.trans (hb4.mono HB3.out.size))
          have HB14 := Lib.hid (HB13.out.trans (hb4.mono HB13.out.size))
          have HS5 := Lib.hid ((hb4.block _ (Array.getElem?_eq_some_iff.1 HS4.out).1).trans HS4.out)
          have HW4 := Lib.hid hw4
          have HZ := Lib.hid hZ
          have z0 : w4.cell? ⟨Z, 0, none⟩ = some (.int .u64 (y.n : Int)) := by simp [World.cell?, hZ4]
          have z1 : w4.cell? ⟨Z, 1, none⟩ = some (.int .u64 (y.draw : Int)) := by simp [World.cell?, hZ4]
          have z2 : w4.cell? ⟨Z, 2, none⟩ = some (.int .u64 (y.conn : Int)) := by simp [World.cell?, hZ4]
          have z3 : w4.cell? ⟨Z, 3, none⟩ = some (.int .i64 y.topic) := by simp [World.cell?, hZ4]
          have z4 : w4.cell? ⟨Z, 4, none⟩ = some (.string bb) := by simp [World.cell?, hZ4]
          have hbl : bb.data.toList = y.bytes := by rw [← hbb]
          clear hb4 hw4 hZ hZ4 hbb
          obtain ⟨w5, hw5⟩ : ∃ z, Lib.bytesWorld w4 5 bb = z := ⟨_, rfl⟩
          have hb5 : Below w4.heap.size w4 w5 := by rw [← hw5]; exact below_bytesWorld _ _ _ _ (Nat.le_refl _)
          have hcv := Lib.run_convert_string_bytes (P := Tryz.prog) w4 9 24 5 bb Tryz.underlying9 Tryz.underlying24 Tryz.underlying5
          have hge := grownCap_ge w4 bb.size 0 5
          obtain ⟨cp, hcp⟩ : ∃ z, grownCap w4 bb.size 0 5 = z := ⟨_, rfl⟩
          obtain ⟨G, hG⟩ : ∃ z, w4.heap.size = z := ⟨_, rfl⟩
          have HBV := Lib.hid (show BRow w5 (.slice (some ⟨G, 0, none⟩) bb.size cp) y.bytes from by
            rw [← hw5, ← hbl]
            exact ⟨_, cp, rfl, by rw [← hcp]; exact hge, .inr ⟨G, 0, rfl, fun j hj => by rw [Nat.zero_add]; have := Lib.bytesWorld_cell w4 5 bb j hj; rw [hG] at this; exact this⟩⟩)
          have HNV := Lib.hid (show NewV w.heap.size (.slice (some ⟨G, 0, none⟩) bb.size cp) from fun g hg => by
            have h1 : G = g := by simpa [Value.ownBlock] using hg
            have h2 := HB4.out.size
            omega)
          rw [hw5, hcp, hG] at hcv
          have hS6 : w5.heap[S]? = some (otObj 0 Sc.St.zero (.slice none 0 0)) := (hb5.block _ (Array.getElem?_eq_some_iff.1 HS5.out).1).trans HS5.out
          have HB5 := Lib.hid (HB4.out.trans (hb5.mono HB4.out.size))
          have HS6 := Lib.hid hS6
          obtain ⟨s0, s1, s2', s3, sf⟩ := OR.of hS6
          have f0 := sf 0
          have f1 := sf 1
          have f2 := sf 2
          have f3 := sf 3
          skip
          clear hw5 hb5 hge hcp hG hbl hS6 sf
          go_upto_region 8 with (fail)
          rw [HZ.out, HW4.out]
          skip
          go_wp2_with fail
          obtain ⟨X, hX⟩ : ∃ X, stO w5 S (k : Int) y (.slice (some ⟨G, 0, none⟩) bb.size cp) = X := ⟨_, rfl⟩
          have hX6 : X.heap[S]? = some (otObj (k : Int) y (.slice (some ⟨G, 0, none⟩) bb.size cp)) := by rw [← hX]; exact stO_heap HS6.out _ _ _
          have HBX := Lib.hid (show Below w.heap.size w X by rw [← hX]; exact stO_below _ _ _ HB5.out (Nat.le_of_eq HSS.out))
          have HBV2 := Lib.hid (show BRow X (.slice (some ⟨G, 0, none⟩) bb.size cp) y.bytes by rw [← hX]; exact brow_otherO HBV.out HS6.out ⟨_, _, _, rfl⟩ (stO_keep _ _ _ _ _))
          unfold stO at hX
          (try simp only at hX)
          rw [hX]
          obtain ⟨x0, x1, x2, x3, _⟩ := OR.of hX6
          clear hX hX6 s0 s1 s2' s3 f0 f1 f2 f3
          simp [bodyPost, results, Tryz.results20, go_sem, x0, x1, x2, x3]
          rw [HO.out]
          exact ⟨_, ⟨rfl, rfl⟩, HBV2.out, HNV.out, HBX.out⟩
      · have q1 : (nm.toList == wb.toList) = false := by
          rw [beq_eq_false_iff_ne, ByteArray.toList_eq, ByteArray.toList_eq, HE1.out, HWB.out]
          exact hq
        have HI2 := Lib.hid (show o = none ∨ ∀ i, i + 1 < k + 1 → (Sc.outT.getD i (0, [], [])).2.1 ≠ w0 from HI.out.imp id (fun h i hi => by
          by_cases e : i + 1 < k
          · exact h i e
          · obtain rfl : i = k - 1 := by omega
            exact hq))
        clear hq
        go_wp2_with fail
        refine KS.out.mono ?_
        rintro e w2 ⟨rfl, hb2⟩
        have HB2 := Lib.hid (HBW.out.trans (hb2.mono HBW.out.size))
        have HB12 := Lib.hid (HB1W.out.trans (hb2.mono HB1W.out.size))
        have HS3 := Lib.hid ((hb2.block _ (Array.getElem?_eq_some_iff.1 HS2.out).1).trans HS2.out)
        have hc0 := cell_below HB12.out HC0.out
        clear hb2
        go_wp2_with fail
        go_roundw
        case rel => exact ⟨k + 1, by omega, by omega, by go_num, HI2.out, HS3.out, HB2.out, HB12.out⟩
        case measure => simp [intOf]; omega
    · have hI : ¬ (k : Int) ≤ 6 := by omega
      have HO := Lib.hid (show o = none from HI.out.elim id (fun h => HT2.out (fun i hi => h i (by omega))))
      obtain ⟨s0, s1, s2', s3, sf⟩ := OR.of HS2.out
      have f0 := sf 0
      have f1 := sf 1
      have f2 := sf 2
      have f3 := sf 3
      skip
      clear sf
      go_wp2_with fail
      obtain ⟨X, hX⟩ : ∃ X, stO wr S 0 Sc.St.zero (.slice none 0 0) = X := ⟨_, rfl⟩
      have hX6 : X.heap[S]? = some (otObj 0 Sc.St.zero (.slice none 0 0)) := by rw [← hX]; exact stO_heap HS2.out _ _ _
      have HBX := Lib.hid (show Below w.heap.size w X by rw [← hX]; exact stO_below _ _ _ HBW.out (Nat.le_of_eq HSS.out))
      unfold stO Sc.St.zero at hX
      simp only [show ((0 : Nat) : Int) = 0 from rfl] at hX
      rw [hX]
      obtain ⟨x0, x1, x2, x3, _⟩ := OR.of hX6
      unfold Sc.St.zero at x1 x2
      clear hX hX6 s0 s1 s2' s3 f0 f1 f2 f3
      simp [bodyPost, results, Tryz.results20, go_sem, x0, x1, x2, x3]
      rw [HO.out]
      exact ⟨_, ⟨rfl, rfl⟩, BRow.nil _, (fun g hg => by simp [Value.ownBlock] at hg), HBX.out⟩
end Go.Proofs.YtbaakfcbakpmpaaGreatDoor

/- script: what is written is read back. No program in sight. No conditions but those that each law states. -/
namespace Go.Proofs.YtbaakfcbakpmpaaGreatDoor
set_option linter.unusedVariables false
set_option linter.unusedSimpArgs false
open Go.RowKit Go.Shelf
set_option maxHeartbeats 8000000
set_option maxRecDepth 100000
namespace Dp
theorem dg_no10 : ∀ i : Fin 10, dg i.val ≠ 10 := by decide +kernel
theorem digs_no10 (n : Nat) : ∀ c ∈ digs 10 n, c ≠ 10 := by
  induction n using Nat.strongRecOn with
  | ind n ih =>
    intro c hc
    by_cases h : n < 10
    · rw [digs_lt h, List.mem_singleton] at hc
      subst hc
      exact dg_no10 ⟨n, h⟩
    · rw [digs_ge (by omega) h, List.mem_append] at hc
      rcases hc with hc | hc
      · exact ih (n / 10) (by omega) c hc
      · rw [List.mem_singleton] at hc
        subst hc
        exact dg_no10 ⟨n % 10, by omega⟩
end Dp
namespace Gt
theorem enc1_no10 : ∀ c : Fin 256, (enc1 (UInt8.ofNat c.val)).all (fun d => d != 10) = true := by decide +kernel
theorem enc_no10 : ∀ (l : List UInt8), ∀ c ∈ enc l, c ≠ 10
  | [], c, h => by cases h
  | d :: l, c, h => by
    rw [enc_cons, List.mem_append] at h
    rcases h with h | h
    · have h1 := enc1_no10 ⟨d.toNat, d.toNat_lt⟩
      simp only [UInt8.ofNat_toNat] at h1
      have := List.all_eq_true.1 h1 c h
      simpa using this
    · exact enc_no10 l c h
end Gt
namespace Sc
theorem tell_no10 (x : St) (p : UInt8) : ∀ c ∈ tell x p, c ≠ 10 := by
  intro c hc
  unfold tell at hc
  split at hc
  · exact Dp.digs_no10 _ c hc
  · split at hc
    · exact Dp.digs_no10 _ c hc
    · split at hc
      · exact Dp.digs_no10 _ c hc
      · split at hc
        · exact Dp.digs_no10 _ c hc
        · rcases List.mem_cons.1 hc with rfl | hc
          · decide
          · exact Gt.enc_no10 _ c hc
theorem told_no10 (x : St) : ∀ (ps : List UInt8), ∀ c ∈ told ps x, c ≠ 10
  | [], c, h => by cases h
  | p :: ps, c, h => by
    unfold told at h
    rw [List.flatMap_cons, List.mem_append] at h
    rcases h with h | h
    · rcases List.mem_cons.1 h with rfl | h
      · decide
      · exact tell_no10 x p c h
    · exact told_no10 x ps c h
theorem line_no10 {T : Shapes} (hT : T = stepT ∨ T = outT) {k : Int} {x : St} {l : List UInt8} (h : line T k x = some l) : (∀ c ∈ l, c ≠ 10) ∧ says l = true := by
  unfold line at h
  cases hs : shape T k with
  | none => rw [hs] at h; cases h
  | some e =>
    obtain ⟨nm, ps⟩ := e
    rw [hs] at h
    simp only at h
    by_cases hf : fit ps x = true
    · rw [if_pos hf] at h
      cases h
      have hm := shape_mem hs
      have hall : (T.all fun e => e.2.1.all (fun c => c != 10) && says e.2.1) = true := by rcases hT with rfl | rfl <;> decide
      have h1 := List.all_eq_true.1 hall _ hm
      simp only [Bool.and_eq_true] at h1
      refine ⟨fun c hc => ?_, ?_⟩
      · rcases List.mem_append.1 hc with hc | hc
        · have := List.all_eq_true.1 h1.1 c hc
          simpa using this
        · exact told_no10 x ps c hc
      · match nm, h1.2 with
        | c :: nm, h2 => exact h2
    · rw [if_neg hf] at h; cases h
/-- the text of steps -/
def wr : List St → Option (List UInt8)
  | [] => some []
  | x :: xs => match line stepT x.kind x with
    | none => none
    | some l => (wr xs).map fun r => l ++ 10 :: r
theorem wr_none {x : St} {xs : List St} (h : line stepT x.kind x = none) : wr (x :: xs) = none := by unfold wr; rw [h]
theorem wr_some {x : St} {xs : List St} {l : List UInt8} (h : line stepT x.kind x = some l) : wr (x :: xs) = (wr xs).map fun r => l ++ 10 :: r := by conv => lhs; unfold wr; rw [h]
/-- of k steps the text is made: what is left adds to it -/
theorem wr_at {xs : List St} {k : Nat} {acc : List UInt8} {l : List UInt8} (h : wr xs = (wr (xs.drop k)).map (acc ++ ·)) (hk : k < xs.length) (hl : line stepT (xs.getD k St.zero).kind (xs.getD k St.zero) = some l) :
    wr xs = (wr (xs.drop (k + 1))).map ((acc ++ (l ++ [10])) ++ ·) := by
  have hd : xs.drop k = xs.getD k St.zero :: xs.drop (k + 1) := by
    rw [List.drop_eq_getElem_cons hk, List.getD_eq_getElem?_getD, List.getElem?_eq_getElem hk]; rfl
  rw [h, hd, wr_some hl]
  cases wr (xs.drop (k + 1)) <;> simp
theorem wr_no {xs : List St} {k : Nat} {acc : List UInt8} (h : wr xs = (wr (xs.drop k)).map (acc ++ ·)) (hk : k < xs.length) (hl : line stepT (xs.getD k St.zero).kind (xs.getD k St.zero) = none) : wr xs = none := by
  have hd : xs.drop k = xs.getD k St.zero :: xs.drop (k + 1) := by
    rw [List.drop_eq_getElem_cons hk, List.getD_eq_getElem?_getD, List.getElem?_eq_getElem hk]; rfl
  rw [h, hd, wr_none hl]; rfl
theorem wr_end {xs : List St} {k : Nat} {acc : List UInt8} (h : wr xs = (wr (xs.drop k)).map (acc ++ ·)) (hk : xs.length ≤ k) : wr xs = some acc := by
  rw [h, List.drop_eq_nil_of_le hk]
  show some (acc ++ []) = _
  rw [List.append_nil]
/-- what is written is read back, whatever stands behind it -/
theorem rd_wr : ∀ (xs : List St) (s : List UInt8) (k : Nat) (acc : List St) (tail : List UInt8), wr xs = some s → (∀ x ∈ xs, x.ok) → acc.length + xs.length ≤ 4096 →
    rd k (Gs.parts 10 [] (s ++ tail)) acc = rd (k + xs.length) (Gs.parts 10 [] tail) (acc ++ xs)
  | [], s, k, acc, tail, h, _, _ => by cases h; simp
  | x :: xs, s, k, acc, tail, h, hx, hn => by
    cases hl : line stepT x.kind x with
    | none => rw [wr_none hl] at h; cases h
    | some l =>
      rw [wr_some hl] at h
      cases hr : wr xs with
      | none => rw [hr] at h; cases h
      | some r =>
        rw [hr] at h
        cases h
        obtain ⟨h10, hsay⟩ := line_no10 (.inl rfl) hl
        obtain ⟨hst, her⟩ := step_back (hx x List.mem_cons_self) hl
        have hn2 : acc.length ≠ 4096 := by rw [List.length_cons] at hn; omega
        have ih := rd_wr xs r (k + 1) (acc ++ [x]) tail hr (fun y hy => hx y (List.mem_cons_of_mem _ hy)) (by rw [List.length_append, List.length_singleton]; rw [List.length_cons] at hn; omega)
        rw [List.append_assoc, List.cons_append, Gs.parts_mid [] _ h10, List.nil_append, rd_take hsay (by rw [her]; unfold rdE; rw [if_pos rfl, if_neg hn2]), hst, ih, List.append_assoc, List.length_cons]
        rw [show k + 1 + xs.length = k + (xs.length + 1) by omega]
        rfl
theorem read_wr {xs : List St} {s : List UInt8} (h : wr xs = some s) (hx : ∀ x ∈ xs, x.ok) (hn : xs.length ≤ 4096) : read s = (xs, 0, 0) := by
  have := rd_wr xs s 0 [] [] h hx (by simpa using hn)
  unfold read
  rw [List.append_nil, List.nil_append] at this
  rw [this, Gs.parts_nil, rd_skip rfl]
  rfl
theorem wr_short : ∀ (xs : List St) (s : List UInt8) (m : Nat), wr xs = some s → (∀ x ∈ xs, x.ok ∧ x.bytes.length ≤ m) → m ≤ 10000 → s.length ≤ xs.length * (11 + 3 * (3 * m + 101))
  | [], s, m, h, _, _ => by cases h; simp
  | x :: xs, s, m, h, hx, hm => by
    cases hl : line stepT x.kind x with
    | none => rw [wr_none hl] at h; cases h
    | some l =>
      rw [wr_some hl] at h
      cases hr : wr xs with
      | none => rw [hr] at h; cases h
      | some r =>
        rw [hr] at h
        cases h
        have hx0 := hx x List.mem_cons_self
        have h1 := line_short (.inl rfl) hx0.1 (by omega) hl
        have h2 := wr_short xs r m hr (fun y hy => hx y (List.mem_cons_of_mem _ hy)) hm
        rw [List.length_append, List.length_cons, List.length_cons, Nat.add_mul]
        omega
/-- lines that say nothing ahead -/
theorem rd_ahead : ∀ (a k : Nat) (r : List UInt8) (acc : List St), rd k (Gs.parts 10 [] (List.replicate a 10 ++ r)) acc = rd (k + a) (Gs.parts 10 [] r) acc
  | 0, k, r, acc => rfl
  | a + 1, k, r, acc => by
    rw [List.replicate_succ, List.cons_append, Gs.parts_here, rd_skip rfl, rd_ahead a (k + 1) r acc, show k + 1 + a = k + (a + 1) by omega]
def opn : St := ⟨2, 0, 0, 0, 0, []⟩
theorem opn_line : line stepT opn.kind opn = some [111, 112, 101, 110] := by decide +kernel
theorem opn_ok : opn.ok := ⟨by decide, by decide, by decide⟩
theorem wr_opn : ∀ n : Nat, wr (List.replicate n opn) = some ((List.replicate n ([111, 112, 101, 110, 10] : List UInt8)).flatten)
  | 0 => rfl
  | n + 1 => by
    rw [List.replicate_succ, wr_some opn_line, wr_opn n, List.replicate_succ, List.flatten_cons]; rfl
theorem opn_len (n : Nat) : ((List.replicate n ([111, 112, 101, 110, 10] : List UInt8)).flatten).length = n * 5 := by
  induction n with
  | zero => rfl
  | succ n ih => rw [List.replicate_succ, List.flatten_cons, List.length_append, ih]; simp; omega
theorem read_opn (a : Nat) (tail : List UInt8) : read (List.replicate a 10 ++ ((List.replicate 4096 ([111, 112, 101, 110, 10] : List UInt8)).flatten ++ tail)) = rd (a + 4096) (Gs.parts 10 [] tail) (List.replicate 4096 opn) := by
  unfold read
  rw [rd_ahead, rd_wr _ _ _ _ tail (wr_opn 4096) (fun x hx => by rw [List.eq_of_mem_replicate hx]; exact opn_ok) (by rw [List.length_replicate]; decide), List.length_replicate, List.nil_append, Nat.zero_add]
theorem read_opn0 (a : Nat) : read (List.replicate a 10 ++ (List.replicate 4096 ([111, 112, 101, 110, 10] : List UInt8)).flatten) = (List.replicate 4096 opn, 0, 0) := by
  have h := read_opn a []
  rw [List.append_nil] at h
  rw [h, Gs.parts_nil, rd_skip rfl]; rfl
theorem read_opn1 (a : Nat) : read (List.replicate a 10 ++ ((List.replicate 4096 ([111, 112, 101, 110, 10] : List UInt8)).flatten ++ [111, 112, 101, 110])) = ([], a + 4096, 3) := by
  rw [read_opn, show Gs.parts 10 [] [111, 112, 101, 110] = [[111, 112, 101, 110]] by decide +kernel]
  have he : rdE (erS (parse stepT [111, 112, 101, 110])) (List.replicate 4096 opn).length = 3 := by
    rw [List.length_replicate, (step_back opn_ok opn_line).2]; rfl
  rw [rd_no rfl (by rw [he]; decide), he]
theorem read_opn2 (a : Nat) : read (List.replicate a 10 ++ ((List.replicate 4096 ([111, 112, 101, 110, 10] : List UInt8)).flatten ++ [120, 10, 111, 112, 101, 110])) = ([], a + 4096, 390) := by
  rw [read_opn, show Gs.parts 10 [] [120, 10, 111, 112, 101, 110] = [[120], [111, 112, 101, 110]] by decide +kernel]
  have he : rdE (erS (parse stepT [120])) (List.replicate 4096 opn).length = 390 := by
    rw [show parse stepT [120] = none by decide +kernel]; rfl
  rw [rd_no rfl (by rw [he]; decide), he]
end Sc
end Go.Proofs.YtbaakfcbakpmpaaGreatDoor

/- script: slices of steps; what Write tells, plainly. No conditions but those that each law states. -/
namespace Go.Proofs.YtbaakfcbakpmpaaGreatDoor
set_option linter.unusedVariables false
set_option linter.unusedSimpArgs false
open Go.RowKit Go.Shelf
set_option maxHeartbeats 8000000
set_option maxRecDepth 100000
namespace Sc
theorem wr_append : ∀ (a b : List St) (s : List UInt8), wr a = some s → wr (a ++ b) = (wr b).map (s ++ ·)
  | [], b, s, h => by
    cases h
    cases hb : wr b <;> simp [hb]
  | x :: a, b, s, h => by
    cases hl : line stepT x.kind x with
    | none => rw [wr_none hl] at h; cases h
    | some l =>
      rw [wr_some hl] at h
      cases hr : wr a with
      | none => rw [hr] at h; cases h
      | some r =>
        rw [hr] at h
        cases h
        rw [List.cons_append, wr_some hl, wr_append a b r hr]
        cases wr b <;> simp
theorem drop_getD {xs : List St} {k : Nat} (hk : k < xs.length) : xs.drop k = xs.getD k St.zero :: xs.drop (k + 1) := by
  rw [List.drop_eq_getElem_cons hk, List.getD_eq_getElem?_getD, List.getElem?_eq_getElem hk]; rfl
theorem take_getD {xs : List St} {k : Nat} (hk : k < xs.length) : xs.take (k + 1) = xs.take k ++ [xs.getD k St.zero] := by
  rw [List.take_succ_eq_append_getElem hk, List.getD_eq_getElem?_getD, List.getElem?_eq_getElem hk]; rfl
theorem wr_next {xs : List St} {k : Nat} {acc l : List UInt8} (h : wr (xs.take k) = some acc) (hk : k < xs.length) (hl : line stepT (xs.getD k St.zero).kind (xs.getD k St.zero) = some l) : wr (xs.take (k + 1)) = some (acc ++ (l ++ [10])) := by
  rw [take_getD hk, wr_append _ _ _ h, wr_some hl]; rfl
theorem wr_stop {xs : List St} {k : Nat} {acc : List UInt8} (h : wr (xs.take k) = some acc) (hk : k < xs.length) (hl : line stepT (xs.getD k St.zero).kind (xs.getD k St.zero) = none) : wr xs = none := by
  rw [← List.take_append_drop k xs, wr_append _ _ _ h, drop_getD hk, wr_none hl]; rfl
/-- a text that is made of all is made of the first ones -/
theorem wr_take {xs : List St} (m : Nat) (hx : ∀ x ∈ xs, x.ok ∧ x.bytes.length ≤ m) (hm : m ≤ 10000) (k : Nat) (s : List UInt8) (h : wr (xs.take k) = some s) : s.length ≤ xs.length * (11 + 3 * (3 * m + 101)) := by
  have h1 := wr_short _ _ m h (fun x hx2 => hx x (List.mem_of_mem_take hx2)) hm
  have h2 : (xs.take k).length ≤ xs.length := by rw [List.length_take]; omega
  exact Nat.le_trans h1 (Nat.mul_le_mul_right _ h2)
end Sc
/-- what Write tells -/
def wrOut (xs : List Sc.St) : Value := if 4096 < xs.length then .tuple #[.string ⟨#[]⟩, .int .i64 3] else match Sc.wr xs with
  | some s => .tuple #[.string ⟨s.toArray⟩, .int .i64 0]
  | none => .tuple #[.string ⟨#[]⟩, .int .i64 2]
/-- a slice of steps, wherever it lies -/
def StsIn (w : World) (v : Value) (qs : List (Sc.St × Value)) : Prop := ∃ p c, v = .slice p qs.length c ∧ (qs.length = 0 ∨ ∃ g o, p = some ⟨g, o, none⟩ ∧ ∀ j, j < qs.length → ∀ i x, (stC (qs.getD j (Sc.St.zero, undef)))[i]? = some x → w.cell? ⟨g, o + j * 6 + i, none⟩ = some x) ∧ ∀ q ∈ qs, BR w q.2 q.1.bytes
theorem StsIn.below {w w' : World} {v : Value} {qs : List (Sc.St × Value)} (h : StsIn w v qs) (hb : Below w.heap.size w w') : StsIn w' v qs := by
  obtain ⟨p, c, h1, h2, h3⟩ := h
  exact ⟨p, c, h1, h2.imp id (fun ⟨g, o, a1, a2⟩ => ⟨g, o, a1, fun j hj i x hx => cell_below hb (a2 j hj i x hx)⟩), fun q hq => (h3 q hq).below hb⟩
/-- a step's cells within a slice -/
structure StC (w : World) (g o : Nat) (x : Sc.St) (u : Value) : Prop where
  c0 : w.cell? ⟨g, o, none⟩ = some (.int .i64 x.kind)
  c1 : w.cell? ⟨g, o + 1, none⟩ = some (.int .u64 (x.conn : Int))
  c2 : w.cell? ⟨g, o + 2, none⟩ = some (.int .i64 x.topic)
  c3 : w.cell? ⟨g, o + 3, none⟩ = some (.int .u64 (x.n : Int))
  c4 : w.cell? ⟨g, o + 4, none⟩ = some (.int .u64 (x.draw : Int))
  c5 : w.cell? ⟨g, o + 5, none⟩ = some u
theorem StC.below {w w' : World} {g o : Nat} {x : Sc.St} {u : Value} (h : StC w g o x u) (hb : Below w.heap.size w w') : StC w' g o x u :=
  ⟨cell_below hb h.c0, cell_below hb h.c1, cell_below hb h.c2, cell_below hb h.c3, cell_below hb h.c4, cell_below hb h.c5⟩
theorem stC_of {w : World} {g o : Nat} {q : Sc.St × Value} (h : ∀ i x, (stC q)[i]? = some x → w.cell? ⟨g, o + i, none⟩ = some x) : StC w g o q.1 q.2 :=
  ⟨h 0 _ rfl, h 1 _ rfl, h 2 _ rfl, h 3 _ rfl, h 4 _ rfl, h 5 _ rfl⟩
/-- the j-th step of a slice -/
theorem StsIn.at {w : World} {v : Value} {qs : List (Sc.St × Value)} (h : StsIn w v qs) {j : Nat} (hj : j < qs.length) :
    ∃ g o c, v = .slice (some ⟨g, o, none⟩) qs.length c ∧ StC w g (o + j * 6) (qs.getD j (Sc.St.zero, undef)).1 (qs.getD j (Sc.St.zero, undef)).2 ∧ BR w (qs.getD j (Sc.St.zero, undef)).2 (qs.getD j (Sc.St.zero, undef)).1.bytes := by
  obtain ⟨p, c, rfl, h2, h3⟩ := h
  rcases h2 with h2 | ⟨g, o, rfl, h2⟩
  · omega
  · refine ⟨g, o, c, rfl, stC_of (h2 j hj), h3 _ ?_⟩
    rw [List.getD_eq_getElem?_getD, List.getElem?_eq_getElem hj]
    exact List.getElem_mem hj
theorem getD_fst (qs : List (Sc.St × Value)) (j : Nat) : (qs.map (·.1)).getD j Sc.St.zero = (qs.getD j (Sc.St.zero, undef)).1 := by
  rw [List.getD_eq_getElem?_getD, List.getD_eq_getElem?_getD, List.getElem?_map]
  cases qs[j]? <;> rfl
theorem stCs_get : ∀ (ps : List (Sc.St × Value)) (j i : Nat) (x : Value), j < ps.length → i < 6 → (stC (ps.getD j (Sc.St.zero, undef)))[i]? = some x → (stCs ps)[j * 6 + i]? = some x
  | [], j, i, x, hj, _, _ => by simp at hj
  | q :: ps, 0, i, x, hj, hi, hx => by
    show (stC q ++ stCs ps)[0 * 6 + i]? = _
    rw [List.getElem?_append_left (by show 0 * 6 + i < 6; omega), Nat.zero_mul, Nat.zero_add]
    exact hx
  | q :: ps, j + 1, i, x, hj, hi, hx => by
    show (stC q ++ stCs ps)[(j + 1) * 6 + i]? = _
    rw [List.getElem?_append_right (by show 6 ≤ (j + 1) * 6 + i; omega)]
    have h6 : (stC q).length = 6 := rfl
    rw [h6, show (j + 1) * 6 + i - 6 = j * 6 + i by omega]
    exact stCs_get ps j i x (by simpa using hj) hi hx
/-- what a call's own row of steps holds -/
theorem StsRow.stsIn {w : World} {v : Value} {xs : List Sc.St} (h : StsRow w v xs) : ∃ qs, qs.map (·.1) = xs ∧ StsIn w v qs ∧ ∀ x ∈ xs, x.fine := by
  obtain ⟨C, ps, h1, h2, h3⟩ := h
  refine ⟨ps, h1, ?_, fun x hx => ?_⟩
  · have hl : ps.length = xs.length := by rw [← h1, List.length_map]
    rcases h2.2 with ⟨rfl, h0⟩ | ⟨g, cap, cur, rfl, _, hg, hc, _⟩
    · exact ⟨none, 0, by rw [hl, h0], .inl (by rw [hl, h0]), fun q hq => (h3 q hq).1.br⟩
    · refine ⟨some ⟨g, 0, none⟩, cap, by rw [hl], .inr ⟨g, 0, rfl, fun j hj i x hx => ?_⟩, fun q hq => (h3 q hq).1.br⟩
      have hi : i < 6 := by
        rcases Nat.lt_or_ge i 6 with h | h
        · exact h
        · rw [List.getElem?_eq_none (by show 6 ≤ i; exact h)] at hx; cases hx
      have hx2 := stCs_get ps j i x hj hi hx
      have h4 := h2.cells (g := g) rfl (j * 6 + i) x hx2
      have hadd : (⟨g, 0, none⟩ : Addr).add (j * 6 + i) = ⟨g, 0 + j * 6 + i, none⟩ := by unfold Addr.add; split <;> simp_all
      rw [hadd] at h4
      exact h4
  · rw [← h1] at hx
    obtain ⟨q, hq, rfl⟩ := List.mem_map.1 hx
    exact (h3 q hq).2
end Go.Proofs.YtbaakfcbakpmpaaGreatDoor

/- script: Write. No conditions but those that each law states. Printed by genUg.py. -/
namespace Go.Proofs.YtbaakfcbakpmpaaGreatDoor
set_option linter.unusedVariables false
set_option linter.unusedSimpArgs false
open Go.RowKit Go.Shelf
set_option maxHeartbeats 8000000
set_option maxRecDepth 100000
theorem sc_clearwr (a : Addr) (w : World) (old : Value) (hc : w.cell? a = some old) (hz : w.frozen? a = false) :
    Calls Tryz.prog 51 #[.pointer (some a)] w fun e w' => e = .returned (.tuple #[]) ∧ w' = w.setCell a (.string ⟨#[]⟩) := by
  go_enter Tryz.func51, Tryz.ntmps51
  go_wp2
  simp [bodyPost, results, Tryz.results51, go_sem]
/-- how Write gives up -/
theorem wr_door (n : Int) (a : Act) (S : Nat) (W : World) (Q : Ending → World → Prop) (hd : a.defers = [{ target := Target.fn (Fn.func 37) #[], args := #[.pointer (some ⟨S + 1, 0, none⟩), .func (.func 51) #[] #[.pointer (some ⟨S, 0, none⟩)]] }]) (h2 : a.tmps.getD 2 undef = .pointer (some ⟨S, 0, none⟩)) (h3 : a.tmps.getD 3 undef = .pointer (some ⟨S + 1, 0, none⟩))
    (hT : W.heap[S]? = some (.cells #[.string ⟨#[]⟩] 9 (0, 0))) (hE : W.heap[S + 1]? = some (.cells #[.int .i64 0] 31 (0, 0))) (hQ : Q (.returned (.tuple #[.string ⟨#[]⟩, .int .i64 n])) ((W.setCell ⟨S, 0, none⟩ (.string ⟨#[]⟩)).setCell ⟨S + 1, 0, none⟩ (.int .i64 n))) :
    bodyPostD Tryz.prog Tryz.f26 Q (.panic [{ v := errno n, recovered := false }]) a W := by
  obtain ⟨tm, df⟩ := a
  simp only at hd h2 h3
  subst hd
  have e2 := rg_ev (a := ⟨tm, []⟩) h2
  have e3 := rg_ev (a := ⟨tm, []⟩) h3
  simp only at e2 e3
  have c0 : W.cell? ⟨S, 0, none⟩ = some (.string ⟨#[]⟩) := by simp [World.cell?, hT]
  have z0 : W.frozen? ⟨S, 0, none⟩ = false := frozen_of_row _ _ _ _ _ hT
  have hE2 : (W.setCell ⟨S, 0, none⟩ (.string ⟨#[]⟩)).heap[S + 1]? = some (.cells #[.int .i64 0] 31 (0, 0)) := (Below.heap_setCell _ _ _ _ (by show S + 1 ≠ S; omega)).trans hE
  have c2 : (W.setCell ⟨S, 0, none⟩ (.string ⟨#[]⟩)).cell? ⟨S + 1, 0, none⟩ = some (.int .i64 0) := by simp [World.cell?, hE2]
  have z2 : (W.setCell ⟨S, 0, none⟩ (.string ⟨#[]⟩)).frozen? ⟨S + 1, 0, none⟩ = false := frozen_of_row _ _ _ _ _ hE2
  refine leaves_cons (f := 37) (args := #[.pointer (some ⟨S + 1, 0, none⟩), .func (.func 51) #[] #[.pointer (some ⟨S, 0, none⟩)]]) (by simp) (by simp [go_sem]) ?_
  refine (sc_caught ⟨S + 1, 0, none⟩ 51 #[.pointer (some ⟨S, 0, none⟩)] n [] W (W.setCell ⟨S, 0, none⟩ (.string ⟨#[]⟩)) (fun W => enters_of Tryz.func51 (by kernel_rfl) rfl _ W) (sc_clearwr _ _ _ c0 z0) (.int .i64 0) c2 z2).mono ?_
  rintro e u' w'' ⟨rfl, rfl, rfl⟩
  have hT1 : ((W.setCell ⟨S, 0, none⟩ (.string ⟨#[]⟩)).setCell ⟨S + 1, 0, none⟩ (.int .i64 n)).heap[S]? = some (.cells #[.string ⟨#[]⟩] 9 (0, 0)) := (Below.heap_setCell _ _ _ _ (by show S ≠ S + 1; omega)).trans (heap_setCell_same _ _ 0 _ _ _ hT)
  have hE3 : ((W.setCell ⟨S, 0, none⟩ (.string ⟨#[]⟩)).setCell ⟨S + 1, 0, none⟩ (.int .i64 n)).heap[S + 1]? = some (.cells #[.int .i64 n] 31 (0, 0)) := heap_setCell_same _ _ 0 _ _ _ hE2
  obtain ⟨X, hX⟩ : ∃ X, (W.setCell ⟨S, 0, none⟩ (.string ⟨#[]⟩)).setCell ⟨S + 1, 0, none⟩ (.int .i64 n) = X := ⟨_, rfl⟩
  rw [hX] at hT1 hE3 hQ ⊢
  have x0 : X.cell? ⟨S, 0, none⟩ = some (.string ⟨#[]⟩) := by simp [World.cell?, hT1]
  have x1 : X.cell? ⟨S + 1, 0, none⟩ = some (.int .i64 n) := by simp [World.cell?, hE3]
  clear hX hT1 hE3 hE2 c0 z0 c2 z2 hT hE
  simp [Leaves, settle, results, Tryz.results26, go_sem, e2, e3, x0, x1]
  exact hQ
def wuF (R : Nat) (x : Sc.St) (u : Value) (lb : ByteArray) : Nat → World → Value → Prop
  | 0, w, v => ∃ b, v = .map (some b) ∧ ShAt w b Sc.stepT
  | 1, _, v => v = .pointer (some ⟨R, 0, none⟩)
  | 2, _, v => v = .int .i64 x.kind
  | 3, _, v => v = .agg #[.int .i64 x.kind, .int .u64 (x.conn : Int), .int .i64 x.topic, .int .u64 (x.n : Int), .int .u64 (x.draw : Int), u]
  | 4, _, v => v = .string lb
  | 5, _, v => v = .string (lb ++ (⟨#[10]⟩ : ByteArray))
  | _, _, _ => False
def wuN (R : Nat) (x : Sc.St) (u : Value) : Nat → World → Value → Prop
  | 0, w, v => ∃ b, v = .map (some b) ∧ ShAt w b Sc.stepT
  | 1, _, v => v = .pointer (some ⟨R, 0, none⟩)
  | 2, _, v => v = .int .i64 x.kind
  | 3, _, v => v = .agg #[.int .i64 x.kind, .int .u64 (x.conn : Int), .int .i64 x.topic, .int .u64 (x.n : Int), .int .u64 (x.draw : Int), u]
  | 4, _, _ => False
  | 5, _, _ => False
  | 6, _, _ => False
  | _, _, _ => False
def wuT (W0 : World) (_ : Nat → Bool) (w : World) : Prop := Below W0.heap.size W0 w
theorem wuF_mono {R : Nat} {x : Sc.St} {u : Value} {lb : ByteArray} {w w' : World} (hb : Below w.heap.size w w') : ∀ (j : Nat) (v : Value), wuF R x u lb j w v → wuF R x u lb j w' v
  | 0, _, ⟨b, h1, h2⟩ => ⟨b, h1, h2.below hb⟩
  | 1, _, h => h
  | 2, _, h => h
  | 3, _, h => h
  | 4, _, h => h
  | 5, _, h => h
  | n + 6, _, h => h.elim
theorem sc_Write (v : Value) (qs : List (Sc.St × Value)) (w : World) (hv : StsIn w v qs) (hx : ∀ q ∈ qs, q.1.ok ∧ q.1.bytes.length ≤ 10000) (hn : qs.length ≤ 60000) (hsz : ∀ k s, k ≤ 4096 → Sc.wr ((qs.map (·.1)).take k) = some s → s.length ≤ 900000) (ht : Tabs w) :
    Calls Tryz.prog 26 #[v] w fun e w' => e = .returned (wrOut (qs.map (·.1))) ∧ Below w.heap.size w w' := by
  have hmf : ∀ (fn : Fn) (first cap : Array Value) (w : World), (Instr.makeFunc fn first cap).run Tryz.prog w = .ok (.func fn first cap) w := fun _ _ _ _ => rfl
  obtain ⟨vp, vc, rfl⟩ : ∃ p c, v = .slice p qs.length c := by obtain ⟨p, c, h, _⟩ := hv; exact ⟨p, c, h⟩
  obtain ⟨n, hnn⟩ : ∃ z, qs.length = z := ⟨_, rfl⟩
  rw [hnn] at hv hn ⊢
  obtain ⟨xs, hxs⟩ : ∃ z, qs.map (·.1) = z := ⟨_, rfl⟩
  have hxl : xs.length = n := by rw [← hxs, List.length_map, hnn]
  have hgd : ∀ j, xs.getD j Sc.St.zero = (qs.getD j (Sc.St.zero, undef)).1 := fun j => by rw [← hxs]; exact getD_fst qs j
  have hqx : ∀ j, j < n → (qs.getD j (Sc.St.zero, undef)).1.ok ∧ (qs.getD j (Sc.St.zero, undef)).1.bytes.length ≤ 10000 := fun j hj => by
    refine hx _ ?_
    rw [List.getD_eq_getElem?_getD, List.getElem?_eq_getElem (by omega)]
    exact List.getElem_mem _
  rw [hxs] at hsz ⊢
  obtain ⟨S, hS⟩ : ∃ z, w.heap.size = z := ⟨_, rfl⟩
  obtain ⟨W2, hW2⟩ : ∃ z, (w.alloc (.cells #[.string ⟨#[]⟩] 9)).alloc (.cells #[.int .i64 0] 31) = z := ⟨_, rfl⟩
  have hb2 : Below w.heap.size w W2 := by rw [← hW2]; exact ((Below.refl _ _).alloc (Nat.le_refl _) _).alloc (by simp) _
  have hz2 : W2.heap.size = S + 2 := by rw [← hW2, ← hS]; simp
  have hT2 : W2.heap[S]? = some (.cells #[.string ⟨#[]⟩] 9 (0, 0)) := by
    rw [← hW2, Below.heap_alloc _ _ _ (by simp; omega), ← hS]
    exact World.alloc_heap_new _ _
  have hE2 : W2.heap[S + 1]? = some (.cells #[.int .i64 0] 31 (0, 0)) := by
    rw [← hW2, ← hS]
    have := World.alloc_heap_new (w.alloc (.cells #[.string ⟨#[]⟩] 9)) (.cells #[.int .i64 0] 31)
    simpa using this
  have HB2 := Lib.hid hb2
  have HZ2 := Lib.hid hz2
  have HT2 := Lib.hid hT2
  have HE2 := Lib.hid hE2
  have HW2 := Lib.hid hW2
  have HSS := Lib.hid hS
  have HXL := Lib.hid hxl
  have HXS := Lib.hid hxs
  have HNN := Lib.hid hnn
  have HSZ := Lib.hid hsz
  have HGD := Lib.hid hgd
  have HQX := Lib.hid hqx
  have KS := Lib.hid sc_steps
  have HV := Lib.hid (hv.below hb2)
  have HT := Lib.hid (ht.below hb2)
  have HBB := Lib.hid (show ∀ W, Below (S + 2) W2 W → Below w.heap.size w W from fun W hb => hb2.trans (hb.mono (by omega)))
  have HDOOR := Lib.hid (show ∀ (m : Int) (a : Act) (W : World), a.defers = [{ target := Target.fn (Fn.func 37) #[], args := #[.pointer (some ⟨S + 1, 0, none⟩), .func (.func 51) #[] #[.pointer (some ⟨S, 0, none⟩)]] }] → a.tmps.getD 2 undef = .pointer (some ⟨S, 0, none⟩) → a.tmps.getD 3 undef = .pointer (some ⟨S + 1, 0, none⟩) → Below (S + 2) W2 W → wrOut xs = .tuple #[.string ⟨#[]⟩, .int .i64 m] →
      bodyPostD Tryz.prog Tryz.f26 (fun e w' => e = .returned (wrOut xs) ∧ Below w.heap.size w w') (.panic [{ v := errno m, recovered := false }]) a W from fun m a W hd h2 h3 hb ho =>
    wr_door m a S W _ hd h2 h3 ((hb.block _ (by omega)).trans HT2.out) ((hb.block _ (by omega)).trans HE2.out)
      ⟨by rw [ho], ((HBB.out W hb).setCell (p := ⟨S, 0, none⟩) (by rw [HSS.out]; exact Nat.le_refl _) _).setCell (p := ⟨S + 1, 0, none⟩) (by rw [HSS.out]; show S ≤ S + 1; omega) _⟩)
  clear hv hx ht hsz hS hW2 hb2 hz2 hT2 hE2 hxl hxs hnn hgd hqx
  by_cases hbig : 4096 < n
  · have hI : ¬ (n : Int) ≤ 4096 := by omega
    have HO := Lib.hid (show wrOut xs = .tuple #[.string ⟨#[]⟩, .int .i64 3] by unfold wrOut; rw [if_pos (by rw [HXL.out]; exact hbig)])
    clear hbig
    go_enter_defers Tryz.func26, Tryz.ntmps26
    go_wp2_with fail
    rw [HSS.out, HW2.out]
    refine (sc_must_no 3 W2).mono ?_
    rintro e w5 ⟨rfl, hw5⟩
    subst w5
    exact HDOOR.out 3 _ _ rfl rfl rfl (Below.refl _ _) HO.out
  have hI : (n : Int) ≤ 4096 := by omega
  have HW1 := Lib.hid (show wrOut xs = (match Sc.wr xs with
      | some s => .tuple #[.string ⟨s.toArray⟩, .int .i64 0]
      | none => .tuple #[.string ⟨#[]⟩, .int .i64 2]) by unfold wrOut; rw [if_neg (by rw [HXL.out]; exact hbig)]; all_goals rfl)
  obtain ⟨W3, hW3⟩ : ∃ z, W2.alloc (.cells #[.pointer none, .slice none 0 0] 104) = z := ⟨_, rfl⟩
  obtain ⟨D, hD⟩ : ∃ z, W2.heap.size = z := ⟨_, rfl⟩
  have HD3 := Lib.hid (show W3.heap[D]? = some (.cells #[.pointer none, .slice none 0 0] 104 (0, 0)) by rw [← hW3, ← hD]; exact World.alloc_heap_new _ _)
  have HB3 := Lib.hid (show Below D W2 W3 by rw [← hW3, ← hD]; exact (Below.refl _ _).alloc (Nat.le_refl _) _)
  have HS3 := Lib.hid (show W3.heap.size = D + 1 by rw [← hW3, ← hD]; simp)
  have HDS := Lib.hid (show D = S + 2 by rw [← hD]; exact HZ2.out)
  have HW3 := Lib.hid hW3
  have HDD := Lib.hid hD
  clear hW3 hD hbig
  have heg : ∀ args W, (callFunc 40 args).run Tryz.prog W = .ok (.enter 40 args) W := enters_of Tryz.func40 (by kernel_rfl) rfl
  go_enter_defers Tryz.func26, Tryz.ntmps26
  go_wp2_with fail
  rw [HSS.out, HW2.out]
  refine (sc_must 3 W2).mono ?_
  rintro e w5 ⟨rfl, hw5⟩
  subst w5
  go_upto_region 4 with (fail)
  rw [HDD.out, HW3.out]
  go_wp2_with fail
  go_loopw [14] (fun i wr => ∃ (k : Nat) (p : Value) (acc : List UInt8), k ≤ n ∧ i = .int .i64 k ∧ Sc.wr (xs.take k) = some acc ∧ BD wr D (D + 1) p (Lib.byteCells acc) ∧ (p = .pointer none ∨ p = .pointer (some ⟨D, 0, none⟩)) ∧ Below D W2 wr ∧ D + 1 ≤ wr.heap.size) (fun i _ => n - (intOf i).toNat)
  case atStart => exact ⟨0, .pointer none, [], Nat.zero_le _, rfl, rfl, ⟨_, HD3.out, World.ownsRow_nil _ _ _ _⟩, .inl rfl, HB3.out, by rw [HS3.out]; exact Nat.le_refl _⟩
  case round =>
    obtain ⟨k, p, acc, hk, rfl, hacc, hbd, hpp, hbl, hsz⟩ := hrel
    have HACC := Lib.hid hacc
    have HBD := Lib.hid hbd
    have HPP := Lib.hid hpp
    have HBL := Lib.hid hbl
    have HSZ2 := Lib.hid hsz
    clear hacc hbd hpp hbl hsz HB3 HD3 HS3
    by_cases hlt : k < n
    · have hlt' : (k : Int) < (n : Int) := by omega
      obtain ⟨g, o, c, hsl, hsc, hbr⟩ := (HV.out.below (by rw [HDD.out]; exact HBL.out)).at (j := k) (by rw [HNN.out]; exact hlt)
      obtain ⟨rfl, rfl⟩ : vp = some ⟨g, o, none⟩ ∧ vc = c := by
        simp only [Value.slice.injEq] at hsl
        exact ⟨hsl.1, hsl.2.2⟩
      have HL := Lib.hid (Sc.wr_next (l := ·) HACC.out (by rw [HXL.out]; exact hlt))
      have HLN := Lib.hid (Sc.wr_stop HACC.out (by rw [HXL.out]; exact hlt))
      rw [HGD.out k] at HL HLN
      obtain ⟨hqo, hql⟩ := HQX.out k hlt
      obtain ⟨⟨x, u⟩, hq⟩ : ∃ z, qs.getD k (Sc.St.zero, undef) = z := ⟨_, rfl⟩
      rw [hq] at hsc hbr HL HLN hqo hql
      simp only at hsc hbr HL HLN hqo hql
      obtain ⟨up, uc, rfl⟩ : ∃ p c, u = .slice p x.bytes.length c := by obtain ⟨p, c, h, _⟩ := hbr; exact ⟨p, c, h⟩
      obtain ⟨UN, hUN⟩ : ∃ z, x.bytes.length = z := ⟨_, rfl⟩
      rw [hUN] at hbr hsc
      obtain ⟨W4, hW4⟩ : ∃ z, wr.alloc (stObj x (.slice up UN uc)) = z := ⟨_, rfl⟩
      obtain ⟨R, hR⟩ : ∃ z, wr.heap.size = z := ⟨_, rfl⟩
      have hb4 : Below wr.heap.size wr W4 := by rw [← hW4]; exact (Below.refl _ _).alloc (Nat.le_refl _) _
      have hR4 : W4.heap[R]? = some (stObj x (.slice up UN uc)) := by rw [← hW4, ← hR]; exact World.alloc_heap_new _ _
      have HB4 := Lib.hid (HBL.out.trans (hb4.mono (by have := HSZ2.out; omega)))
      have HC4 := Lib.hid hb4
      have HR4 := Lib.hid hR4
      have HBD4 := Lib.hid (HBD.out.keep HC4.out (by have := HSZ2.out; omega))
      have HSZ4 := Lib.hid (Nat.le_trans HSZ2.out HC4.out.size)
      have KL := Lib.hid (show ∀ (b : Nat) (W : World), ShAt W b Sc.stepT → Below W4.heap.size W4 W → Calls Tryz.prog 39 #[.map (some b), .int .i64 x.kind, stVal x (.slice up UN uc)] W fun e w' => e = txtEnd (Sc.line Sc.stepT x.kind x) ∧ Below W.heap.size W w' from fun b W h hb =>
        sc_line (.inl rfl) b x.kind x _ W h ((hbr.below hb4).below hb) (by omega) hqo ((HT.out.below (by rw [HDD.out]; exact HB4.out)).below hb))
      have HLL := Lib.hid (show ∀ l, Sc.line Sc.stepT x.kind x = some l → l.length ≤ 100000 from fun l h => by have := line_short (.inl rfl) hqo (by omega) h; omega)
      obtain ⟨oo, hoo⟩ : ∃ z, Sc.line Sc.stepT x.kind x = z := ⟨_, rfl⟩
      rw [hoo] at KL HL HLN HLL
      obtain ⟨c0, c1, c2, c3, c4, c5⟩ := hsc
      have HW4 := Lib.hid hW4
      have HR := Lib.hid hR
      have hAL := HSZ.out k acc (by omega) HACC.out
      unfold stObj at HW4
      unfold stVal at KL
      clear hsl hbr hqo hql hq hUN hW4 hR hb4 hR4 hoo
      go_upto_region 7 with (fail)
      rw [HR.out, HW4.out]
      clear c0 c1 c2 c3 c4 c5
      cases oo with
      | none =>
        refine region_slotsP (fun i => 18 + min i 6) (wuN R x (.slice up UN uc)) (fun _ => true) (by kernel_rfl) (by kernel_rfl) (fun i => by show 18 + min i 6 < _; simp; omega) (fun i j hi hj h => by have hi : i < 7 := hi; have hj : j < 7 := hj; omega) ?mono ?dst ?gu ?ng ?skip ?step ?done
        case mono =>
          intro i W W' v h hbw
          match i, h with
          | 1, h | 2, h | 3, h | 4, h | 5, h | 6, h => exact h
          | 0, h => exact by obtain ⟨b, h1, h2⟩ := h; exact ⟨b, h1, h2.below hbw⟩
          | n + 7, h => exact h.elim
        case dst =>
          intro i o ho
          match i, ho with
          | 0, ho | 1, ho | 2, ho | 3, ho | 4, ho | 5, ho | 6, ho => cases ho; rfl
          | n + 7, ho => exact absurd ho (by simp)
        case gu =>
          intro i o g b ho hgd W v hv
          match i, ho with
          | 0, ho => cases ho; cases hgd
          | 1, ho => cases ho; cases hgd
          | 2, ho => cases ho; cases hgd
          | 3, ho => cases ho; cases hgd
          | 4, ho => cases ho; cases hgd
          | 5, ho => cases ho; cases hgd
          | 6, ho => cases ho; cases hgd
          | n + 7, ho => exact absurd ho (by simp)
        case ng =>
          intro i o ho hgd
          match i, ho with
          | 0, ho => cases ho; first | rfl | cases hgd
          | 1, ho => cases ho; first | rfl | cases hgd
          | 2, ho => cases ho; first | rfl | cases hgd
          | 3, ho => cases ho; first | rfl | cases hgd
          | 4, ho => cases ho; first | rfl | cases hgd
          | 5, ho => cases ho; first | rfl | cases hgd
          | 6, ho => cases ho; first | rfl | cases hgd
          | n + 7, ho => exact absurd ho (by simp)
        case skip =>
          intro i W hi hsel
          match i, hi, hsel with
          | 0, _, hsel => first | exact absurd hsel (by decide) | rfl
          | 1, _, hsel => first | exact absurd hsel (by decide) | rfl
          | 2, _, hsel => first | exact absurd hsel (by decide) | rfl
          | 3, _, hsel => first | exact absurd hsel (by decide) | rfl
          | 4, _, hsel => first | exact absurd hsel (by decide) | rfl
          | 5, _, hsel => first | exact absurd hsel (by decide) | rfl
          | 6, _, hsel => first | exact absurd hsel (by decide) | rfl
          | n + 7, hi, _ => exact absurd hi (by simp)
        case step =>
          intro f a' W i o ho hsel hpre hbel hrest hdf
          match i, ho, hsel with
          | 0, ho, _ =>
            cases ho
            exact rg_call0 40 _ _ rfl (enters_of Tryz.func40 (by kernel_rfl) rfl) (KS.out W) (fun e w' h => by obtain ⟨b, h1, h2, h3⟩ := h; exact ⟨_, h1, _, rfl, ⟨b, rfl, h2⟩, h3⟩)
          | 1, ho, _ =>
            cases ho
            have q6 : a'.tmps.getD 6 undef = .pointer (some ⟨R, 0, none⟩) := (hrest 6 (by intro i hi; have hi : i < 7 := hi; show 18 + min i 6 ≠ _; omega))
            have e6 := rg_ev q6
            exact rg_same (.pointer (some ⟨R, 0, none⟩)) (by unfold Oper.wp execOp; go_simp; all_goals ((try simp only [e6]); (try go_simp); (try rw [if_pos (by omega)]); (try rw [if_neg (by omega)]); first | done | rfl | exact ⟨rfl, rfl⟩ | trivial)) rfl
          | 2, ho, _ =>
            cases ho
            have q19 : a'.tmps.getD 19 undef = .pointer (some ⟨R, 0, none⟩) := (hpre { on := 1, ground := .data } (by simp) rfl)
            have hSW := (hbel.block _ (Array.getElem?_eq_some_iff.1 HR4.out).1).trans HR4.out
            obtain ⟨s0, s1, s2, s3, s4, s5, _⟩ := SR.of hSW
            have e19 := rg_ev q19
            exact rg_same (.int .i64 x.kind) (by unfold Oper.wp execOp; go_simp; all_goals ((try simp only [e19]); (try go_simp); (try rw [if_pos (by omega)]); (try rw [if_neg (by omega)]); first | done | rfl | exact ⟨rfl, rfl⟩ | trivial)) rfl
          | 3, ho, _ =>
            cases ho
            have q6 : a'.tmps.getD 6 undef = .pointer (some ⟨R, 0, none⟩) := (hrest 6 (by intro i hi; have hi : i < 7 := hi; show 18 + min i 6 ≠ _; omega))
            have hSW := (hbel.block _ (Array.getElem?_eq_some_iff.1 HR4.out).1).trans HR4.out
            obtain ⟨s0, s1, s2, s3, s4, s5, _⟩ := SR.of hSW
            have e6 := rg_ev q6
            exact rg_same (.agg #[.int .i64 x.kind, .int .u64 (x.conn : Int), .int .i64 x.topic, .int .u64 (x.n : Int), .int .u64 (x.draw : Int), .slice up UN uc]) (by unfold Oper.wp execOp; go_simp; all_goals ((try simp only [e6]); (try go_simp); (try rw [if_pos (by omega)]); (try rw [if_neg (by omega)]); first | done | rfl | exact ⟨rfl, rfl⟩ | trivial)) rfl
          | 4, ho, _ =>
            cases ho
            have h18 := hpre { on := 0, ground := .data } (by simp) rfl
            have q20 : a'.tmps.getD 20 undef = .int .i64 x.kind := (hpre { on := 2, ground := .data } (by simp) rfl)
            have q21 : a'.tmps.getD 21 undef = .agg #[.int .i64 x.kind, .int .u64 (x.conn : Int), .int .i64 x.topic, .int .u64 (x.n : Int), .int .u64 (x.draw : Int), .slice up UN uc] := (hpre { on := 3, ground := .data } (by simp) rfl)
            obtain ⟨b, hb1, hb2⟩ := h18
            exact rg_call3 18 20 21 39 _ _ _ _ _ rfl hb1 q20 q21 (enters_of Tryz.func39 (by kernel_rfl) rfl) (KL.out b W hb2 hbel) (fun e w' h => .inr ⟨_, h.1, HDOOR.out 2 _ _ hdf (hrest 2 (by intro i hi; show 18 + min i 6 ≠ _; omega)) (hrest 3 (by intro i hi; show 18 + min i 6 ≠ _; omega)) (by rw [← HDS.out]; exact (HB4.out.trans (hbel.mono (by have := HSZ4.out; omega))).trans (h.2.mono (by have := HSZ4.out; have := hbel.size; omega))) (by rw [HW1.out, HLN.out rfl])⟩)
          | 5, ho, _ =>
            cases ho
            have h22 := hpre { on := 4, ground := .data } (by simp) rfl
            exact False.elim (hpre { on := 4, ground := .data } (by simp) rfl)
          | 6, ho, _ =>
            cases ho
            have q4 : a'.tmps.getD 4 undef = .pointer (some ⟨D, 0, none⟩) := (hrest 4 (by intro i hi; have hi : i < 7 := hi; show 18 + min i 6 ≠ _; omega))
            have h23 := hpre { on := 5, ground := .data } (by simp) rfl
            exact False.elim (hpre { on := 5, ground := .data } (by simp) rfl)
          | n + 7, ho, _ => exact absurd ho (by simp)
        case done =>
          intro vs W hbel hvs
          exact False.elim (hvs 4 (by decide))
      | some l =>
        obtain ⟨lb, hlb⟩ : ∃ z : ByteArray, (⟨l.toArray⟩ : ByteArray) = z := ⟨_, rfl⟩
        have HLB := Lib.hid hlb
        have HLD := Lib.hid (show lb.data.toList = l by rw [← hlb])
        have hlz : lb.size ≤ 100000 := by rw [← hlb]; exact HLL.out l rfl
        clear hlb
        refine region_last2 6 (fun i => 18 + min i 5) (wuF R x (.slice up UN uc) lb) (wuT W4) (by kernel_rfl) (by kernel_rfl) rfl (by kernel_rfl) (fun i => by show 18 + min i 5 < _; simp; omega) (fun i j hi hj h => by have h : 18 + min i 5 = 18 + min j 5 := h; omega) ?start ?dst ?step ?last
        case start => exact (Below.refl _ _).drew
        case dst =>
          intro i o hi ho
          match i, hi, ho with
          | 0, _, ho => cases ho; rfl
          | 1, _, ho => cases ho; rfl
          | 2, _, ho => cases ho; rfl
          | 3, _, ho => cases ho; rfl
          | 4, _, ho => cases ho; rfl
          | 5, _, ho => cases ho; rfl
          | n + 6, hi, _ => exact absurd hi (by omega)
        case step =>
          intro f a' W i o hib ho hfi hpre hT hrest
          match i, hib, ho with
          | 0, _, ho =>
            cases ho
            exact rg_call0 40 _ _ rfl (enters_of Tryz.func40 (by kernel_rfl) rfl) (KS.out W) (fun e w' h => by obtain ⟨b, h1, h2, h3⟩ := h; exact ⟨_, h1, _, rfl, ⟨b, rfl, h2⟩, hT.trans (h3.mono hT.size), fun j v' _ => wuF_mono h3 j v'⟩)
          | 1, _, ho =>
            cases ho
            have q6 : a'.tmps.getD 6 undef = .pointer (some ⟨R, 0, none⟩) := (hrest 6 (by intro i hi; show 18 + min i 5 ≠ _; omega))
            have e6 := rg_ev q6
            exact rg_same2 (.pointer (some ⟨R, 0, none⟩)) (by unfold Oper.wp execOp; go_simp; all_goals ((try simp only [e6]); (try go_simp); (try rw [if_pos (by omega)]); (try rw [if_neg (by omega)]); first | done | rfl | exact ⟨rfl, rfl⟩ | trivial)) rfl (hT)
          | 2, _, ho =>
            cases ho
            have f19 := (hpre { on := 1, ground := .data } (by simp) rfl).1
            have q19 : a'.tmps.getD 19 undef = .pointer (some ⟨R, 0, none⟩) := (hpre { on := 1, ground := .data } (by simp) rfl).2
            have hSW := (hT.block _ (Array.getElem?_eq_some_iff.1 HR4.out).1).trans HR4.out
            obtain ⟨s0, s1, s2, s3, s4, s5, _⟩ := SR.of hSW
            have e19 := rg_ev q19
            exact rg_same2 (.int .i64 x.kind) (by unfold Oper.wp execOp; go_simp; all_goals ((try simp only [e19]); (try go_simp); (try rw [if_pos (by omega)]); (try rw [if_neg (by omega)]); first | done | rfl | exact ⟨rfl, rfl⟩ | trivial)) rfl (hT)
          | 3, _, ho =>
            cases ho
            have q6 : a'.tmps.getD 6 undef = .pointer (some ⟨R, 0, none⟩) := (hrest 6 (by intro i hi; show 18 + min i 5 ≠ _; omega))
            have hSW := (hT.block _ (Array.getElem?_eq_some_iff.1 HR4.out).1).trans HR4.out
            obtain ⟨s0, s1, s2, s3, s4, s5, _⟩ := SR.of hSW
            have e6 := rg_ev q6
            exact rg_same2 (.agg #[.int .i64 x.kind, .int .u64 (x.conn : Int), .int .i64 x.topic, .int .u64 (x.n : Int), .int .u64 (x.draw : Int), .slice up UN uc]) (by unfold Oper.wp execOp; go_simp; all_goals ((try simp only [e6]); (try go_simp); (try rw [if_pos (by omega)]); (try rw [if_neg (by omega)]); first | done | rfl | exact ⟨rfl, rfl⟩ | trivial)) rfl (hT)
          | 4, _, ho =>
            cases ho
            have f18 := (hpre { on := 0, ground := .data } (by simp) rfl).1
            have h18 := (hpre { on := 0, ground := .data } (by simp) rfl).2
            have f20 := (hpre { on := 2, ground := .data } (by simp) rfl).1
            have q20 : a'.tmps.getD 20 undef = .int .i64 x.kind := (hpre { on := 2, ground := .data } (by simp) rfl).2
            have f21 := (hpre { on := 3, ground := .data } (by simp) rfl).1
            have q21 : a'.tmps.getD 21 undef = .agg #[.int .i64 x.kind, .int .u64 (x.conn : Int), .int .i64 x.topic, .int .u64 (x.n : Int), .int .u64 (x.draw : Int), .slice up UN uc] := (hpre { on := 3, ground := .data } (by simp) rfl).2
            obtain ⟨b, hb1, hb2⟩ := h18
            exact rg_call3 18 20 21 39 _ _ _ _ _ rfl hb1 q20 q21 (enters_of Tryz.func39 (by kernel_rfl) rfl) (KL.out b W hb2 hT) (fun e w' h => by
              rw [← HLB.out]
              exact .inl ⟨_, h.1, _, rfl, rfl, hT.trans (h.2.mono hT.size), fun j v' _ => wuF_mono h.2 j v'⟩)
          | 5, _, ho =>
            cases ho
            have f22 := (hpre { on := 4, ground := .data } (by simp) rfl).1
            have q22 : a'.tmps.getD 22 undef = .string lb := (hpre { on := 4, ground := .data } (by simp) rfl).2
            have e22 := rg_ev q22
            exact rg_same2 (.string (lb ++ (⟨#[10]⟩ : ByteArray))) (by unfold Oper.wp execOp; go_simp; all_goals ((try simp only [e22]); (try go_simp); (try rw [if_pos (by omega)]); (try rw [if_neg (by omega)]); first | done | rfl | exact ⟨rfl, rfl⟩ | trivial)) rfl (hT)
          | n + 6, hib, _ => exact absurd hib (by omega)
        case last =>
          intro f vs W oL ho hall hT hvs
          have hopL : oL.op = Op.call { callee := .value (.func 53), args := #[.tmp 4, .tmp 23], argTypes := #[104, 9] } := by cases ho; rfl
          have hdsL : oL.dst = some 24 := by cases ho; rfl
          clear ho hall
          obtain ⟨y0, v0, w0⟩ : ∃ z, vs 0 = z ∧ wuF R x (.slice up UN uc) lb 0 W z := ⟨_, rfl, hvs 0 (by decide)⟩
          have v1 : vs 1 = .pointer (some ⟨R, 0, none⟩) := hvs 1 (by decide)
          have v2 : vs 2 = .int .i64 x.kind := hvs 2 (by decide)
          have v3 : vs 3 = .agg #[.int .i64 x.kind, .int .u64 (x.conn : Int), .int .i64 x.topic, .int .u64 (x.n : Int), .int .u64 (x.draw : Int), .slice up UN uc] := hvs 3 (by decide)
          have v4 : vs 4 = .string lb := hvs 4 (by decide)
          have v5 : vs 5 = .string (lb ++ (⟨#[10]⟩ : ByteArray)) := hvs 5 (by decide)
          simp only [fillN, List.size_toArray, List.length_cons, List.length_nil, Nat.reduceAdd, show List.range 6 = [0, 1, 2, 3, 4, 5] from rfl, List.foldl_cons, List.foldl_nil, show 18 + min 0 5 = 18 from rfl, show 18 + min 1 5 = 19 from rfl, show 18 + min 2 5 = 20 from rfl, show 18 + min 3 5 = 21 from rfl, show 18 + min 4 5 = 22 from rfl, show 18 + min 5 5 = 23 from rfl, v0, v1, v2, v3, v4, v5]
          clear v0 v1 v2 v3 v4 v5 hvs
          have hb5 : Below W4.heap.size W4 W := hT
          have HC5 := Lib.hid (HC4.out.trans (hb5.mono HC4.out.size))
          have HB5 := Lib.hid (HB4.out.trans (hb5.mono (by have := HSZ4.out; omega)))
          have HBD5 := Lib.hid (HBD4.out.keep hb5 (by have := HSZ4.out; omega))
          have HSZ5 := Lib.hid (Nat.le_trans HSZ4.out hb5.size)
          have hjs : (lb ++ (⟨#[10]⟩ : ByteArray)).size ≤ 1000000 := by rw [ByteArray.size_append]; have : (⟨#[10]⟩ : ByteArray).size = 1 := rfl; omega
          have HSC := Lib.hid (show Lib.strCells (lb ++ (⟨#[10]⟩ : ByteArray)) = Lib.byteCells (l ++ [10]) from str_cells _ _ (by rw [← HLD.out]; simp))
          have HKS := Lib.hid (builder_text D (D + 1) p (Lib.byteCells acc) (lb ++ (⟨#[10]⟩ : ByteArray)) W HPP.out HBD5.out (by omega) HSZ5.out (by rw [Lib.byteCells_length]; omega) hjs)
          have hegw : ∀ args W, (callFunc 53 args).run Tryz.prog W = .ok (.enter 53 args) W := enters_of Tryz.func53 (by kernel_rfl) rfl
          clear hb5 hT
          unfold Oper.wp execOp
          simp [hopL, hdsL, resolve, invoke, hegw, go_sem]
          refine HKS.out.mono ?_
          rintro e w6 ⟨rfl, hbd6, hfr⟩
          have HBD6 := Lib.hid (show BD w6 D (D + 1) (.pointer (some ⟨D, 0, none⟩)) (Lib.byteCells (acc ++ (l ++ [10]))) by rw [bytes_app, ← HSC.out]; exact hbd6)
          have HBL6 := Lib.hid (HB5.out.trans (hfr.below (Nat.le_refl _) (by omega)))
          have HSZ6 := Lib.hid (Nat.le_trans HSZ5.out hfr.size)
          have HACC6 := Lib.hid (HL.out l rfl)
          clear hbd6 hfr HKS hegw hopL hdsL
          go_simp
          go_wp2_with fail
          go_roundw
          case rel => exact ⟨k + 1, _, _, hlt, by go_num, HACC6.out, HBD6.out, .inr rfl, HBL6.out, HSZ6.out⟩
          case measure => simp [intOf]; omega
    · have hge : ¬ (k : Int) < (n : Int) := by omega
      have HALL := Lib.hid (show Sc.wr xs = some acc by
        have h := HACC.out
        rwa [List.take_of_length_le (by rw [HXL.out]; omega)] at h)
      have K := Lib.hid (builder_string D (D + 1) p acc wr HPP.out HBD.out (by omega) HSZ2.out)
      obtain ⟨ab, hab⟩ : ∃ z : ByteArray, (⟨acc.toArray⟩ : ByteArray) = z := ⟨_, rfl⟩
      have HO := Lib.hid (show wrOut xs = .tuple #[.string ab, .int .i64 0] by rw [HW1.out, HALL.out, ← hab])
      rw [hab] at K
      clear hab
      go_wp2_with fail
      refine K.out.mono ?_
      rintro e w2 ⟨rfl, hb2⟩
      have HB3 := Lib.hid (HBL.out.trans hb2)
      have hT := (HB3.out.block S (by have := HDS.out; omega)).trans HT2.out
      have hE := (HB3.out.block (S + 1) (by have := HDS.out; omega)).trans HE2.out
      have c0 : w2.cell? ⟨S, 0, none⟩ = some (.string ⟨#[]⟩) := by simp [World.cell?, hT]
      have z0 : w2.frozen? ⟨S, 0, none⟩ = false := frozen_of_row _ _ _ _ _ hT
      have hE3 : (w2.setCell ⟨S, 0, none⟩ (.string ab)).heap[S + 1]? = some (.cells #[.int .i64 0] 31 (0, 0)) := (Below.heap_setCell _ _ _ _ (by show S + 1 ≠ S; omega)).trans hE
      have c2 : (w2.setCell ⟨S, 0, none⟩ (.string ab)).cell? ⟨S + 1, 0, none⟩ = some (.int .i64 0) := by simp [World.cell?, hE3]
      have z2 : (w2.setCell ⟨S, 0, none⟩ (.string ab)).frozen? ⟨S + 1, 0, none⟩ = false := frozen_of_row _ _ _ _ _ hE3
      have hT1 : ((w2.setCell ⟨S, 0, none⟩ (.string ab)).setCell ⟨S + 1, 0, none⟩ (.int .i64 0)).heap[S]? = some (.cells #[.string ab] 9 (0, 0)) := (Below.heap_setCell _ _ _ _ (by show S ≠ S + 1; omega)).trans (heap_setCell_same _ _ 0 _ _ _ hT)
      have hE4 : ((w2.setCell ⟨S, 0, none⟩ (.string ab)).setCell ⟨S + 1, 0, none⟩ (.int .i64 0)).heap[S + 1]? = some (.cells #[.int .i64 0] 31 (0, 0)) := heap_setCell_same _ _ 0 _ _ _ hE3
      have HXT := Lib.hid hT1
      have HXE := Lib.hid hE4
      have HXB := Lib.hid (((HBB.out w2 (by rw [← HDS.out]; exact HB3.out)).setCell (p := ⟨S, 0, none⟩) (by rw [HSS.out]; exact Nat.le_refl _) (.string ab)).setCell (p := ⟨S + 1, 0, none⟩) (by rw [HSS.out]; show S ≤ S + 1; omega) (.int .i64 0))
      clear hb2 hT hE hE3 hT1 hE4 K
      go_wp2_with fail
      obtain ⟨X, hX⟩ : ∃ X, (w2.setCell ⟨S, 0, none⟩ (.string ab)).setCell ⟨S + 1, 0, none⟩ (.int .i64 0) = X := ⟨_, rfl⟩
      rw [hX] at HXT HXE HXB ⊢
      have x0 : X.cell? ⟨S, 0, none⟩ = some (.string ab) := by simp [World.cell?, HXT.out]
      have x1 : X.cell? ⟨S + 1, 0, none⟩ = some (.int .i64 0) := by simp [World.cell?, HXE.out]
      clear hX c0 z0 c2 z2
      refine leaves_cons (f := 37) (args := #[.pointer (some ⟨S + 1, 0, none⟩), .func (.func 51) #[] #[.pointer (some ⟨S, 0, none⟩)]]) (by simp) (by simp [go_sem]) ?_
      refine (sc_caught_idle _ _ _).mono ?_
      rintro e u' w'' ⟨rfl, rfl, rfl⟩
      simp [Leaves, settle, results, Tryz.results26, go_sem, x0, x1]
      exact ⟨HO.out.symm, HXB.out⟩
end Go.Proofs.YtbaakfcbakpmpaaGreatDoor

/- script: the reference's Write; few. No conditions but those that each law states. -/
namespace Go.Proofs.YtbaakfcbakpmpaaGreatDoor
set_option linter.unusedVariables false
set_option linter.unusedSimpArgs false
open Go.RowKit Go.Shelf
set_option maxHeartbeats 8000000
set_option maxRecDepth 100000
theorem rf_Write (v : Value) (qs : List (Sc.St × Value)) (w : World) (hv : StsIn w v qs) (hx : ∀ q ∈ qs, q.1.ok ∧ q.1.bytes.length ≤ 10000) (hn : qs.length ≤ 60000) (hsz : ∀ k s, k ≤ 4096 → Sc.wr ((qs.map (·.1)).take k) = some s → s.length ≤ 900000) :
    Calls Tryz.prog 27 #[v] w fun e w' => e = .returned (wrOut (qs.map (·.1))) ∧ Below w.heap.size w w' := by
  obtain ⟨vp, vc, rfl⟩ : ∃ p c, v = .slice p qs.length c := by obtain ⟨p, c, h, _⟩ := hv; exact ⟨p, c, h⟩
  obtain ⟨n, hnn⟩ : ∃ z, qs.length = z := ⟨_, rfl⟩
  rw [hnn] at hv hn ⊢
  obtain ⟨xs, hxs⟩ : ∃ z, qs.map (·.1) = z := ⟨_, rfl⟩
  have hxl : xs.length = n := by rw [← hxs, List.length_map, hnn]
  have hgd : ∀ j, xs.getD j Sc.St.zero = (qs.getD j (Sc.St.zero, undef)).1 := fun j => by rw [← hxs]; exact getD_fst qs j
  have hqx : ∀ j, j < n → (qs.getD j (Sc.St.zero, undef)).1.ok ∧ (qs.getD j (Sc.St.zero, undef)).1.bytes.length ≤ 10000 := fun j hj => by
    refine hx _ ?_
    rw [List.getD_eq_getElem?_getD, List.getElem?_eq_getElem (by omega)]
    exact List.getElem_mem _
  rw [hxs] at hsz ⊢
  have HXL := Lib.hid hxl
  have HNN := Lib.hid hnn
  have HSZ := Lib.hid hsz
  have HGD := Lib.hid hgd
  have HQX := Lib.hid hqx
  have HV := Lib.hid hv
  clear hv hx hsz hxl hxs hnn hgd hqx
  by_cases hbig : 4096 < n
  · have hI : (4096 : Int) < (n : Int) := by omega
    have HO := Lib.hid (show wrOut xs = .tuple #[.string ⟨#[]⟩, .int .i64 3] by unfold wrOut; rw [if_pos (by rw [HXL.out]; exact hbig)])
    clear hbig
    go_enter Tryz.func27, Tryz.ntmps27
    go_wp2_with fail
    simp [bodyPost, results, Tryz.results27, go_sem]
    exact ⟨HO.out.symm, Below.refl _ _⟩
  have hI : ¬ (4096 : Int) < (n : Int) := by omega
  have HW1 := Lib.hid (show wrOut xs = (match Sc.wr xs with
      | some s => .tuple #[.string ⟨s.toArray⟩, .int .i64 0]
      | none => .tuple #[.string ⟨#[]⟩, .int .i64 2]) by unfold wrOut; rw [if_neg (by rw [HXL.out]; exact hbig)]; all_goals rfl)
  go_enter Tryz.func27, Tryz.ntmps27
  go_wp2_with fail
  go_loopw [4, 5] (fun t i wr => ∃ (k : Nat) (sb : ByteArray), k ≤ n ∧ i = .int .i64 k ∧ t = .string sb ∧ Sc.wr (xs.take k) = some sb.data.toList ∧ Below w.heap.size w wr) (fun _ i _ => n - (intOf i).toNat)
  case atStart => exact ⟨0, ⟨#[]⟩, Nat.zero_le _, rfl, rfl, rfl, Below.refl _ _⟩
  case round =>
    obtain ⟨k, sb, hk, rfl, rfl, hacc, hbl⟩ := hrel
    have HACC := Lib.hid hacc
    have HBL := Lib.hid hbl
    clear hacc hbl
    by_cases hlt : k < n
    · have hlt' : (k : Int) < (n : Int) := by omega
      obtain ⟨g, o, c, hsl, hsc, hbr⟩ := (HV.out.below HBL.out).at (j := k) (by rw [HNN.out]; exact hlt)
      obtain ⟨rfl, rfl⟩ : vp = some ⟨g, o, none⟩ ∧ vc = c := by
        simp only [Value.slice.injEq] at hsl
        exact ⟨hsl.1, hsl.2.2⟩
      have HL := Lib.hid (Sc.wr_next (l := ·) HACC.out (by rw [HXL.out]; exact hlt))
      have HLN := Lib.hid (Sc.wr_stop HACC.out (by rw [HXL.out]; exact hlt))
      rw [HGD.out k] at HL HLN
      obtain ⟨hqo, hql⟩ := HQX.out k hlt
      obtain ⟨⟨x, u⟩, hq⟩ : ∃ z, qs.getD k (Sc.St.zero, undef) = z := ⟨_, rfl⟩
      rw [hq] at hsc hbr HL HLN hqo hql
      simp only at hsc hbr HL HLN hqo hql
      obtain ⟨up, uc, rfl⟩ : ∃ p c, u = .slice p x.bytes.length c := by obtain ⟨p, c, h, _⟩ := hbr; exact ⟨p, c, h⟩
      have K := rf_Text x _ wr hbr (by omega) hqo
      have HLL := Lib.hid (show ∀ l, Sc.line Sc.stepT x.kind x = some l → l.length ≤ 100000 from fun l h => by have := line_short (.inl rfl) hqo (by omega) h; omega)
      obtain ⟨UN, hUN⟩ : ∃ z, x.bytes.length = z := ⟨_, rfl⟩
      rw [hUN] at hsc K
      obtain ⟨oo, hoo⟩ : ∃ z, Sc.line Sc.stepT x.kind x = z := ⟨_, rfl⟩
      rw [hoo] at K HL HLN HLL
      obtain ⟨c0, c1, c2, c3, c4, c5⟩ := hsc
      unfold stVal at K
      have K := Lib.hid K
      have hAL := HSZ.out k sb.data.toList (by omega) HACC.out
      have hsb : sb.size ≤ 900000 := by simpa using hAL
      clear hsl hbr hqo hql hq hUN hoo hAL
      cases oo with
      | none =>
        have HO := Lib.hid (show wrOut xs = .tuple #[.string ⟨#[]⟩, .int .i64 2] by rw [HW1.out, HLN.out rfl])
        unfold txtOut at K
        go_wp2_with fail
        refine K.out.mono ?_
        rintro e w2 ⟨rfl, hb2⟩
        have HB2 := Lib.hid (HBL.out.trans (hb2.mono HBL.out.size))
        clear hb2
        go_wp2_with fail
        simp [bodyPost, results, Tryz.results27, go_sem]
        exact ⟨HO.out.symm, HB2.out⟩
      | some l =>
        obtain ⟨lb, hlb⟩ : ∃ z : ByteArray, (⟨l.toArray⟩ : ByteArray) = z := ⟨_, rfl⟩
        have HLD := Lib.hid (show lb.data.toList = l by rw [← hlb])
        have hlz : lb.size ≤ 100000 := by rw [← hlb]; exact HLL.out l rfl
        unfold txtOut at K
        simp only [hlb] at K
        have HL2 := Lib.hid (show Sc.wr (xs.take (k + 1)) = some ((sb ++ lb) ++ (⟨#[10]⟩ : ByteArray)).data.toList by
          rw [HL.out l rfl, ← HLD.out]; simp)
        clear hlb
        go_wp2_with fail
        refine K.out.mono ?_
        rintro e w2 ⟨rfl, hb2⟩
        have HB2 := Lib.hid (HBL.out.trans (hb2.mono HBL.out.size))
        clear hb2
        go_wp2_with fail
        go_roundw
        case rel => exact ⟨k + 1, _, hlt, by go_num, rfl, HL2.out, HB2.out⟩
        case measure => simp [intOf]; omega
    · have hge : ¬ (k : Int) < (n : Int) := by omega
      have HALL := Lib.hid (show Sc.wr xs = some sb.data.toList by
        have h := HACC.out
        rwa [List.take_of_length_le (by rw [HXL.out]; omega)] at h)
      have HO := Lib.hid (show wrOut xs = .tuple #[.string sb, .int .i64 0] by rw [HW1.out, HALL.out])
      go_wp2_with fail
      simp [bodyPost, results, Tryz.results27, go_sem]
      exact ⟨HO.out.symm, HBL.out⟩
/-- are steps few, of few bytes? -/
def FewOut (qs : List (Sc.St × Value)) (many most : Nat) (w : World) (e : Ending) (w' : World) : Prop := ∃ b, e = .returned (.bool b) ∧ (b = true → qs.length ≤ many ∧ ∀ q ∈ qs, q.1.bytes.length ≤ most) ∧ w' = w
theorem sc_few (v : Value) (qs : List (Sc.St × Value)) (many most : Nat) (w : World) (hv : StsIn w v qs) (hn : qs.length ≤ maxLen) (hm : many ≤ 1000) (hb : ∀ q ∈ qs, q.1.bytes.length ≤ maxLen) :
    Calls Tryz.prog 25 #[v, .int .i64 many, .int .i64 most] w (FewOut qs many most w) := by
  unfold maxLen at hn hb
  obtain ⟨vp, vc, rfl⟩ : ∃ p c, v = .slice p qs.length c := by obtain ⟨p, c, h, _⟩ := hv; exact ⟨p, c, h⟩
  obtain ⟨n, hnn⟩ : ∃ z, qs.length = z := ⟨_, rfl⟩
  have HNN := Lib.hid hnn
  have HV := Lib.hid hv
  have HBB := Lib.hid hb
  rw [hnn] at hn ⊢
  clear hv hnn hb
  go_enter Tryz.func25, Tryz.ntmps25
  go_wp2_with fail
  go_loopw [7] (fun i wr => ∃ k : Nat, k ≤ n ∧ k ≤ many + 1 ∧ i = .int .i64 k ∧ (∀ j, j < k → (qs.getD j (Sc.St.zero, undef)).1.bytes.length ≤ most) ∧ wr = w) (fun i _ => n - (intOf i).toNat)
  case atStart => exact ⟨0, Nat.zero_le _, Nat.zero_le _, rfl, fun j hj => by omega, rfl⟩
  case round =>
    obtain ⟨k, hk, hkm, rfl, hall, hw⟩ := hrel
    subst hw
    have HALL := Lib.hid hall
    clear hall
    by_cases hlt : k < n
    · have hlt' : (k : Int) < (n : Int) := by omega
      by_cases hle : k ≤ many
      · have hle' : (k : Int) ≤ (many : Int) := by omega
        obtain ⟨g, o, c, hsl, hsc, hbr⟩ := HV.out.at (j := k) (by rw [HNN.out]; exact hlt)
        obtain ⟨rfl, rfl⟩ : vp = some ⟨g, o, none⟩ ∧ vc = c := by
          simp only [Value.slice.injEq] at hsl
          exact ⟨hsl.1, hsl.2.2⟩
        have hlq := HBB.out (qs.getD k (Sc.St.zero, undef)) (by rw [List.getD_eq_getElem?_getD, List.getElem?_eq_getElem (by rw [HNN.out]; exact hlt)]; exact List.getElem_mem _)
        obtain ⟨⟨x, u⟩, hq⟩ : ∃ z, qs.getD k (Sc.St.zero, undef) = z := ⟨_, rfl⟩
        rw [hq] at hsc hbr hlq
        simp only at hsc hbr hlq
        obtain ⟨up, uc, rfl⟩ : ∃ p c, u = .slice p x.bytes.length c := by obtain ⟨p, c, h, _⟩ := hbr; exact ⟨p, c, h⟩
        obtain ⟨UN, hUN⟩ : ∃ z, x.bytes.length = z := ⟨_, rfl⟩
        rw [hUN] at hsc hlq
        have c5 := hsc.c5
        have HQ := Lib.hid hq
        have HUN := Lib.hid hUN
        clear hsl hsc hbr hq hUN
        by_cases hbg : most < UN
        · have hb' : (most : Int) < (UN : Int) := by omega
          go_wp2_with fail
          go_ret
          exact ⟨_, rfl, (fun h => by cases h), rfl⟩
        · have hb' : ¬ (most : Int) < (UN : Int) := by omega
          have HA2 := Lib.hid (show ∀ j, j < k + 1 → (qs.getD j (Sc.St.zero, undef)).1.bytes.length ≤ most from fun j hj => by
            by_cases e : j = k
            · subst e; rw [HQ.out]; show x.bytes.length ≤ _; rw [HUN.out]; omega
            · exact HALL.out j (by omega))
          go_wp2_with fail
          go_roundw
          case rel => exact ⟨k + 1, by omega, by omega, by go_num, HA2.out, trivial⟩
          case measure => simp [intOf]; omega
      · have hle' : ¬ (k : Int) ≤ (many : Int) := by omega
        have hq1 : ¬ (n : Int) ≤ (many : Int) := by omega
        go_wp2_with fail
        go_ret
        exact ⟨_, rfl, (fun h => by simp at h), rfl⟩
    · have hlt' : ¬ (k : Int) < (n : Int) := by omega
      by_cases hle : n ≤ many
      · have hq1 : (n : Int) ≤ (many : Int) := by omega
        go_wp2_with fail
        go_ret
        refine ⟨_, rfl, fun _ => ⟨by rw [HNN.out]; exact hle, fun q hq => ?_⟩, rfl⟩
        obtain ⟨j, hj, rfl⟩ := List.getElem_of_mem hq
        have h := HALL.out j (by have := HNN.out; omega)
        rwa [List.getD_eq_getElem?_getD, List.getElem?_eq_getElem hj] at h
      · have hq1 : ¬ (n : Int) ≤ (many : Int) := by omega
        go_wp2_with fail
        go_ret
        exact ⟨_, rfl, (fun h => by simp at h), rfl⟩
end Go.Proofs.YtbaakfcbakpmpaaGreatDoor

/- script: appends to a row of one's own, from whatever slice; rows of steps. No conditions but those that each law states. -/
namespace Go.Proofs.YtbaakfcbakpmpaaGreatDoor
set_option linter.unusedVariables false
set_option linter.unusedSimpArgs false
open Go.RowKit Go.Shelf
set_option maxHeartbeats 4000000
set_option maxRecDepth 100000
theorem rn_append_none {P : Program} {w : World} (base : Nat) (t ty e : TypeId) (i : TypeInfo) (size : Nat) (ht : P.underlying t = some (.slice e)) (hi : P.info? e = some i)
    (v : Value) (n : Nat) (xs : List Value) (c : Nat) (hown : w.ownsRow base e size v n xs) :
    (Builtin.append_ #[t, t] ty #[v, .slice none 0 c]).run P w = .ok v w := by
  rcases hown.2 with ⟨rfl, rfl⟩ | ⟨g, cap, cur, rfl, _, _, hnc, _⟩
  · simp [Builtin.append_, run_underlying ht, sizeOf, typeInfo, hi, Builtin.lenOf, Builtin.firstCells]
  · simp [Builtin.append_, run_underlying ht, sizeOf, typeInfo, hi, Builtin.lenOf, Builtin.firstCells, hnc, storeCells]
theorem wpList_append_from {P : Program} {w : World} {ops : Array Oper} {rest : List Oper} {o : Oper} {a : Act} {Q : Exit → Act → World → Prop} (hgd : o.guard = none) (s x : Operand) (t : TypeId)
    (ho : o.op = .call { callee := .builtin .append, args := #[s, x], argTypes := #[t, t] })
    (base : Nat) (e : TypeId) (i : TypeInfo) (z : Value) (size bytes : Nat) (ht : P.underlying t = some (.slice e)) (hi : P.info? e = some i) (hz : i.zero = some z)
    (hsize : i.size = size) (hby : i.bytes = bytes) (hzs : z.cells.size = size) (hsz : 0 < size)
    (v : Value) (n : Nat) (xs : List Value) (hs : a.eval s = v) (hown : w.ownsRow base e size v n xs)
    (p : Option Addr) (m c : Nat) (news : List Value) (hx : a.eval x = .slice p m c) (hl : news.length = m * size) (hp : m = 0 ∨ ∃ ad, p = some ad ∧ ∀ j u, news[j]? = some u → w.cell? (ad.add j) = some u) (h1 : ∀ u ∈ news, u.oneCell' = true)
    (h63 : n + m ≤ maxLen) (hbytes : (n + m) * bytes ≤ 140737488355328) (hbase : base ≤ w.heap.size)
    (h : ∀ v' w', w'.ownsRow base e size v' (n + m) (xs ++ news) → w.grownBy w' v.ownBlock → wpList P ops Q rest (a.put o.dst v') w') : wpList P ops Q (o :: rest) a w := by
  cases p with
  | some ad =>
    refine wpList_append_own w hgd s x t ho base e i z size bytes ht hi hz hsize hby hzs hsz v n xs hs hown ad m c news hx hl ?_ h1 h63 hbytes hbase (fun v' w' h1 h2 _ => h v' w' h1 h2)
    rcases hp with rfl | ⟨ad', h2, h3⟩
    · intro j u hj
      rw [Nat.zero_mul] at hl
      rw [List.length_eq_zero_iff.1 hl] at hj
      simp at hj
    · cases h2; exact h3
  | none =>
    obtain rfl : m = 0 := by
      rcases hp with h2 | ⟨ad, h2, _⟩
      · exact h2
      · cases h2
    have hrun := rn_append_none (P := P) (w := w) base t o.type e i size ht hi v n xs c hown
    refine wpList_plain hgd fun K hK' => ?_
    unfold Oper.wp
    simp [execOp, ho, resolve, invoke, builtin, hs, hx, hrun, Result.andThen]
    refine hK' _ _ (h v w ?_ ⟨rfl, rfl, rfl, Nat.le_refl _, fun _ _ _ => rfl⟩)
    rw [Nat.zero_mul] at hl
    rw [List.length_eq_zero_iff.1 hl, List.append_nil]
    exact hown
theorem own_stsIn {w : World} {C n : Nat} {v : Value} {ps : List (Sc.St × Value)} (h : w.ownsRow C 26 6 v n (stCs ps)) (hb : ∀ q ∈ ps, BR w q.2 q.1.bytes) : StsIn w v ps := by
  have hl : n = ps.length := by have h1 := h.1; rw [stCs_len] at h1; omega
  rcases h.2 with ⟨rfl, h0⟩ | ⟨g, cap, cur, rfl, _, hg, hc, _⟩
  · exact ⟨none, 0, by rw [← hl, h0], .inl (by rw [← hl, h0]), hb⟩
  · refine ⟨some ⟨g, 0, none⟩, cap, by rw [← hl], .inr ⟨g, 0, rfl, fun j hj i x hx => ?_⟩, hb⟩
    have hi : i < 6 := by
      rcases Nat.lt_or_ge i 6 with h | h
      · exact h
      · rw [List.getElem?_eq_none (by show 6 ≤ i; exact h)] at hx; cases hx
    have h4 := h.cells (g := g) rfl (j * 6 + i) x (stCs_get ps j i x hj hi hx)
    have hadd : (⟨g, 0, none⟩ : Addr).add (j * 6 + i) = ⟨g, 0 + j * 6 + i, none⟩ := by unfold Addr.add; split <;> simp_all
    rw [hadd] at h4
    exact h4
theorem stCs_at {ps : List (Sc.St × Value)} {m : Nat} {u : Value} (h : (stCs ps)[m]? = some u) : ∃ j i, m = j * 6 + i ∧ j < ps.length ∧ i < 6 ∧ (stC (ps.getD j (Sc.St.zero, undef)))[i]? = some u := by
  have hlt : m < ps.length * 6 := by rw [← stCs_len]; exact (List.getElem?_eq_some_iff.1 h).1
  have hj : m / 6 < ps.length := by omega
  have hi : m % 6 < 6 := Nat.mod_lt _ (by decide)
  refine ⟨m / 6, m % 6, by omega, hj, hi, ?_⟩
  obtain ⟨y, hy⟩ : ∃ y, (stC (ps.getD (m / 6) (Sc.St.zero, undef)))[m % 6]? = some y := ⟨_, List.getElem?_eq_getElem (by show m % 6 < 6; exact hi)⟩
  have h2 := stCs_get ps (m / 6) (m % 6) y hj hi hy
  rw [show m / 6 * 6 + m % 6 = m by omega, h] at h2
  cases h2
  exact hy
theorem stCs_one {ps : List (Sc.St × Value)} (h : ∀ q ∈ ps, isSl q.2) : ∀ u ∈ stCs ps, u.oneCell' = true := by
  intro u hu
  unfold stCs at hu
  obtain ⟨q, hq, hu⟩ := List.mem_flatMap.1 hu
  obtain ⟨p, n, c, hs⟩ := h q hq
  unfold stC at hu
  rw [hs] at hu
  simp only [List.mem_cons, List.not_mem_nil, or_false] at hu
  rcases hu with rfl | rfl | rfl | rfl | rfl | rfl <;> rfl
theorem BR.sl {w : World} {v : Value} {l : List UInt8} (h : BR w v l) : isSl v := by
  obtain ⟨p, c, h, _⟩ := h
  exact ⟨_, _, _, h⟩
/-- a slice of steps as the source of an append -/
theorem StsIn.src {w : World} {v : Value} {qs : List (Sc.St × Value)} (h : StsIn w v qs) : ∃ p c, v = .slice p qs.length c ∧ (qs.length = 0 ∨ ∃ ad, p = some ad ∧ ∀ j u, (stCs qs)[j]? = some u → w.cell? (ad.add j) = some u) := by
  obtain ⟨p, c, h1, h2, _⟩ := h
  refine ⟨p, c, h1, h2.imp id (fun ⟨g, o, a1, a2⟩ => ⟨_, a1, fun m u hm => ?_⟩)⟩
  obtain ⟨j, i, rfl, hj, hi, hx⟩ := stCs_at hm
  rw [Lib.add_plain, ← Nat.add_assoc]
  exact a2 j hj i u hx
theorem br_keep {X Y : World} {v : Value} {l : List UInt8} (h : BR X v l) (hk : l ≠ [] → ∀ g, v.ownBlock = some g → g < X.heap.size → Y.heap[g]? = X.heap[g]?) : BR Y v l := by
  obtain ⟨ao, cap, rfl, h⟩ := h
  refine ⟨ao, cap, rfl, ?_⟩
  rcases h with h | ⟨g, o, rfl, h⟩
  · exact .inl h
  · refine .inr ⟨g, o, rfl, fun j hj => ?_⟩
    have h1 := h j hj
    rw [← h1]
    exact World.cell?_of_block (a := ⟨g, o + j, none⟩) (hk (fun e => by rw [e] at hj; simp at hj) g rfl (lt_of_cell h1))
theorem br_blk {X : World} {v : Value} {l : List UInt8} (h : BR X v l) (hl : l ≠ []) : ∃ g, v.ownBlock = some g ∧ g < X.heap.size := by
  obtain ⟨ao, cap, rfl, h⟩ := h
  rcases h with h | ⟨g, o, rfl, h⟩
  · exact absurd h hl
  · exact ⟨g, rfl, lt_of_cell (h 0 (List.length_pos_iff.2 hl))⟩
theorem own_geA {w : World} {B : Nat} {e : TypeId} {s : Nat} {v : Value} {n : Nat} {xs : List Value} (h : w.ownsRow B e s v n xs) : ∀ g, v.ownBlock = some g → B ≤ g := fun g hg => (h.lt g hg).1
end Go.Proofs.YtbaakfcbakpmpaaGreatDoor
