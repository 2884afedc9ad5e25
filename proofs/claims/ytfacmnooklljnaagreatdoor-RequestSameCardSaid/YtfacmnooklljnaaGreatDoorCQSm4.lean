/- Texts of this claim, one behind the other: G2, G3, Dt, Du, G4, G5, G6, G7, G8, GA, GB, GL, GC, GD, GE, GF, GG, GH, GM, GJ, GK, GN, GO, GP, GQ, GR, GS, Rs, GT, Rt, GU, G9, Ia, GV, GW, GX, GY, GZ, LGH, Ib, Zg, Qe, Rz, Zs. -/
import Derived.Test.YtfacmnooklljnaaGreatDoorCQSm2
import Derived.Test.YtfacmnooklljnaaGreatDoorCQSm1
import Derived.Test.YtfacmnooklljnaaGreatDoorCQSm3
import Derived.Deep.QuietTactic
import Derived.BigQuiet
import Derived.RangeFuncRecord
import Derived.Lib.Repeat
import Derived.Lib.Case
import Derived.Lib.AppendStr
import Derived.Lib.Bits
import Derived.Lib.DecodeN
import Derived.Laws.RangeString
import Derived.Laws.Runes
import Derived.Scope
import Derived.Laws.AppendOwnNone
import Derived.Laws.OwnMore
import Derived.IntWalk
import Derived.OwnWalkIn
import Derived.TacticsInMore
import Derived.LoopNIn
import Derived.LoopIn
import Derived.RecoverIn
import Derived.RangeFuncLeaves
import Derived.SizedLaws
import Derived.SliceStrings
import Derived.Lib.SmallJoins
import Derived.WideShapes
import Derived.Lib.Join
/- target: what a reader's rest and decoded tell. -/
namespace Go.Proofs.YtfacmnooklljnaaGreatDoor
set_option linter.unusedVariables false
set_option linter.unusedSimpArgs false
open Go.RowKit
set_option maxHeartbeats 1000000
/-- a reader's row -/
def RD (w : World) (b : Nat) (s : ByteArray) (p : Bool) : Prop := w.heap[b]? = some (.cells #[.string s, .bool p] 131 (0, 0))
theorem RD.c0 {w : World} {b : Nat} {s : ByteArray} {p : Bool} (h : RD w b s p) : w.cell? ⟨b, 0, none⟩ = some (.string s) := by simp [World.cell?, show w.heap[b]? = _ from h]
theorem RD.c1 {w : World} {b : Nat} {s : ByteArray} {p : Bool} (h : RD w b s p) : w.cell? ⟨b, 1, none⟩ = some (.bool p) := by simp [World.cell?, show w.heap[b]? = _ from h]
theorem RD.below {w w' : World} {B b : Nat} {s : ByteArray} {p : Bool} (h : RD w b s p) (k : Below B w w') (hb : b < B) : RD w' b s p := (k.block b hb).trans h
theorem tg_rest (b : Nat) (s : ByteArray) (p : Bool) (k : Nat) (w : World) (h : RD w b s p) (hk : k ≤ s.size) (hs : s.size ≤ 1000000) :
    Calls Tryz.prog 120 #[.pointer (some ⟨b, 0, none⟩), .int .i64 k] w fun e w' => e = .returned (.string (s.extract k s.size)) ∧ Below w.heap.size w w' := by
  have h0 := h.c0
  have hk1 : (k : Int) ≤ (s.size : Int) := by omega
  have hm : min (k : Int) (s.size : Int) = (k : Int) := by omega
  go_enter Tryz.func120, Tryz.ntmps120
  go_wp2_with fail
  go_quiet (fail)
  go_wp2
  go_ret
  exact ⟨rfl, below_drewN (Below.refl _ _) _⟩
theorem new_block (w : World) (o : Obj) : (w.alloc o).heap[w.heap.size]? = some o := World.alloc_heap_new w o
theorem BD.keep {w w' : World} {b base : Nat} {p : Value} {bs : List Value} (h : BD w b base p bs) (k : Below w.heap.size w w') (hb : b < w.heap.size) : BD w' b base p bs := by
  obtain ⟨v, hv, hown⟩ := h
  refine ⟨v, (k.block b hb).trans hv, hown.1, hown.2.imp id ?_⟩
  rintro ⟨g, cap, cur, h1, h2, h3, h4⟩
  refine ⟨g, cap, cur, h1, h2, (k.block g ?_).trans h3, h4⟩
  rcases Nat.lt_or_ge g w.heap.size with h' | h'
  · exact h'
  · rw [Array.getElem?_eq_none h'] at h3; simp at h3
/-- how a text's decoding ends -/
def decEnd (o : Option (List UInt8)) : Ending := match o with
  | some l => .returned (.string ⟨l.toArray⟩)
  | none => .panicked [{ v := errno 210, recovered := false }]
theorem ext_drop (s : ByteArray) (i : Nat) : (s.extract i s.size).data.toList = s.data.toList.drop i := by
  rw [ByteArray.data_extract, Array.toList_extract, List.extract_eq_take_drop]
  exact List.take_of_length_le (by simp)
theorem ext_take (s : ByteArray) (i : Nat) : (s.extract 0 i).data.toList = s.data.toList.take i := by
  rw [ByteArray.data_extract, Array.toList_extract, List.extract_eq_take_drop]; rfl
theorem bytes_put (acc : List UInt8) (c : UInt8) : Lib.byteCells (acc ++ [c]) = Lib.byteCells acc ++ [.int .u8 (c.toNat : Int)] := by unfold Lib.byteCells; rw [List.map_append]; rfl
set_option maxRecDepth 100000 in
theorem tg_decoded (b : Nat) (s : ByteArray) (pl : Bool) (w : World) (h : RD w b s pl) (hs : s.size ≤ 1000000) :
    Calls Tryz.prog 92 #[.pointer (some ⟨b, 0, none⟩)] w fun e w' => e = decEnd (Gt.dec pl s.data.toList) ∧ Below w.heap.size w w' := by
  have HR := Lib.hid h
  have hb : b < w.heap.size := by
    rcases Nat.lt_or_ge b w.heap.size with h' | h'
    · exact h'
    · rw [RD, Array.getElem?_eq_none h'] at h; simp at h
  clear h
  have HL := Lib.hid (show s.data.toList.length = s.size from rfl)
  have HRA := Lib.hid (HR.out.below ((Below.refl w.heap.size w).alloc (Nat.le_refl _) (.cells #[.pointer none, .slice none 0 0] 156)) hb)
  go_enter Tryz.func92, Tryz.ntmps92
  go_wp2_with fail
  go_loopw [4] (fun i wr => ∃ (k : Nat) (acc : List UInt8) (p : Value), k ≤ s.size ∧ i = .int .i64 k ∧ Gt.DAt pl s.data.toList acc k ∧ RD wr b s pl ∧ BD wr w.heap.size (w.heap.size + 1) p (Lib.byteCells acc) ∧ (p = .pointer none ∨ p = .pointer (some ⟨w.heap.size, 0, none⟩)) ∧ Below w.heap.size w wr ∧ w.heap.size + 1 ≤ wr.heap.size)
    (fun i _ => s.size - (intOf i).toNat)
  case atStart => exact ⟨0, [], .pointer none, Nat.zero_le _, rfl, Gt.dAt_start _ _, HRA.out, ⟨_, new_block _ _, World.ownsRow_nil _ _ _ _⟩, .inl rfl, (Below.refl _ _).alloc (Nat.le_refl _) _, by simp⟩
  case round =>
    obtain ⟨k, acc, p, hk, rfl, hd, hrd, hbd, hp, hbl, hsz⟩ := hrel
    have HD := Lib.hid hd
    have HRD := Lib.hid hrd
    have HBD := Lib.hid hbd
    have HP := Lib.hid hp
    have HBL := Lib.hid hbl
    have HSZ := Lib.hid hsz
    have c0 := hrd.c0
    have c1 := hrd.c1
    clear hd hrd hbd hp hbl hsz
    by_cases hlt : k < s.size
    · obtain ⟨c, hcc⟩ : ∃ c, s.data.toList[k]'(by simpa using hlt) = c := ⟨_, rfl⟩
      have HC := Lib.hid hcc
      obtain ⟨x, hx⟩ : ∃ x : Int, (c.toNat : Int) = x := ⟨_, rfl⟩
      have hsx : ((s[k]'hlt).toNat : Int) = x := by rw [← hx, ← hcc]; rfl
      have HX := Lib.hid hx
      have hr1 : (0 : Int) ≤ x := by omega
      have hr2 : x < 256 := by have := c.toNat_lt; omega
      clear hx hcc
      by_cases h37 : x = 37
      · have HC37 := Lib.hid (show c = 37 from UInt8.toNat_inj.1 (by have := HX.out; show c.toNat = 37; omega))
        subst h37
        have K1 := Lib.hid (show Calls Tryz.prog 120 #[.pointer (some ⟨b, 0, none⟩), .int .i64 ((k : Int) + 1)] wr fun e w' => e = .returned (.string (s.extract (k + 1) s.size)) ∧ Below wr.heap.size wr w' from tg_rest b s pl (k + 1) wr HRD.out (by omega) hs)
        go_wp2_with fail
        refine K1.out.mono ?_
        rintro e w2 ⟨rfl, hb2⟩
        have HB2 := Lib.hid hb2
        obtain ⟨r, hr⟩ : ∃ r, s.extract (k + 1) s.size = r := ⟨_, rfl⟩
        have HRZ := Lib.hid (show r.size = s.size - (k + 1) by rw [← hr]; simp)
        have HRL := Lib.hid (show r.data.toList = s.data.toList.drop (k + 1) by rw [← hr]; exact ext_drop s (k + 1))
        rw [hr]
        clear hr hb2 K1
        by_cases h2 : 2 ≤ r.size
        · have h2i : (2 : Int) ≤ (r.size : Int) := by omega
          have H3 := Lib.hid (show k + 2 < s.data.toList.length by rw [HL.out]; have := HRZ.out; omega)
          obtain ⟨a, ha⟩ : ∃ a, s.data.toList[k + 1]'(by have := H3.out; omega) = a := ⟨_, rfl⟩
          obtain ⟨d, hd⟩ : ∃ d, s.data.toList[k + 2]'H3.out = d := ⟨_, rfl⟩
          have HA := Lib.hid ha
          have HDD := Lib.hid hd
          have HT := Lib.hid (show (r.extract 0 2).data.toList = [a, d] by
            rw [ext_take, HRL.out, Gt.drop1 _ _ (by have := H3.out; omega), Gt.drop1 _ _ (by have := H3.out; omega)]
            simp [ha, hd])
          clear ha hd
          obtain ⟨r2, hr2'⟩ : ∃ r2, r.extract 0 2 = r2 := ⟨_, rfl⟩
          rw [hr2'] at HT
          have K3 := Lib.hid (dec_hexDigits r2 w2 (by rw [← hr2']; simp; omega))
          rw [HT.out] at K3
          obtain ⟨N, hN⟩ : ∃ N, Dp.numN 16 [a, d] = N := ⟨_, rfl⟩
          obtain ⟨E, hE⟩ : ∃ E, Dp.numE 16 [a, d] = E := ⟨_, rfl⟩
          rw [hN, hE] at K3
          have HN := Lib.hid hN
          have HE := Lib.hid hE
          clear hN hE
          go_wp2_with fail
          refine (tg_must 210 w2).mono ?_
          rintro e w3 ⟨rfl, hw3⟩
          subst w3
          go_wp2_with fail
          refine K3.out.mono ?_
          rintro e w4 ⟨rfl, hb4⟩
          have HB4 := Lib.hid (HB2.out.trans (hb4.mono HB2.out.size))
          have HSZ4 := Lib.hid (show w.heap.size + 1 ≤ w4.heap.size from Nat.le_trans HSZ.out HB4.out.size)
          clear hb4 K3
          by_cases hv : Gt.hx a < 16 ∧ Gt.hx d < 16
          · obtain ⟨hE0, hNN⟩ := Gt.num_two hv
            have hEE : E = 0 := by rw [← HE.out]; exact hE0
            have hNT : N = ((Gt.two a d).toNat : Int) := by rw [← HN.out, hNN]; exact (Gt.two_val a d hv).symm
            have hN1 : (0 : Int) ≤ N := by omega
            have hN2 : N < 256 := by have := (Gt.two a d).toNat_lt; omega
            have HNT := Lib.hid hNT
            have HNEXT := Lib.hid (Gt.dAt_pct HD.out H3.out (HC.out.trans HC37.out) (by rw [HA.out, HDD.out]; exact hv))
            have HBD4 := Lib.hid (show BD w4 w.heap.size (w.heap.size + 1) p (Lib.byteCells acc) from HBD.out.keep HB4.out (by have := HSZ.out; omega))
            have K5 := Lib.hid (builder_byte w.heap.size (w.heap.size + 1) p (Lib.byteCells acc) N w4 HP.out HBD4.out (by omega) HSZ4.out (by rw [Lib.byteCells_length]; have := HD.out.2.1; omega))
            subst hEE
            clear hE0 hNN hNT hv
            go_wp2_with fail
            refine (tg_must 210 w4).mono ?_
            rintro e w5 ⟨rfl, hw5⟩
            subst w5
            go_wp2_with fail
            refine K5.out.mono ?_
            rintro e w6 ⟨rfl, hbd6, hfr⟩
            have HBD6 := Lib.hid (show BD w6 w.heap.size (w.heap.size + 1) (.pointer (some ⟨w.heap.size, 0, none⟩)) (Lib.byteCells (acc ++ [Gt.two a d])) by rw [bytes_put, ← HNT.out]; exact hbd6)
            have HBL6 := Lib.hid ((HBL.out.trans (HB4.out.mono HBL.out.size)).trans (hfr.below (Nat.le_refl _) (by omega)))
            have HRD6 := Lib.hid (show RD w6 b s pl from HR.out.below HBL6.out hb)
            have HSZ6 := Lib.hid (Nat.le_trans HSZ4.out hfr.size)
            clear hbd6 hfr K5
            go_wp2
            go_roundw
            case rel => exact ⟨k + 3, acc ++ [Gt.two a d], _, by have := H3.out; rw [HL.out] at this; omega, by go_num, by have := HNEXT.out; simp only [HA.out, HDD.out] at this; exact this, HRD6.out, HBD6.out, .inr rfl, HBL6.out, HSZ6.out⟩
            case measure => simp [intOf]; omega
          · have hEE : E = 110 := by rw [← HE.out]; exact Gt.num_two_no hv
            have HNO := Lib.hid (Gt.dAt_bad HD.out H3.out (HC.out.trans HC37.out) (by rw [HA.out, HDD.out]; exact hv))
            subst hEE
            clear hv
            go_wp2_with fail
            refine (tg_must_no 210 w4).mono ?_
            rintro e w5 ⟨rfl, hw5⟩
            subst w5
            exact ⟨rfl, by rw [HNO.out]; rfl, HBL.out.trans (HB4.out.mono HBL.out.size)⟩
        · have h2i : ¬ (2 : Int) ≤ (r.size : Int) := by omega
          have hdf : decide ((2 : Int) ≤ (r.size : Int)) = false := decide_eq_false h2i
          have HNO := Lib.hid (Gt.dAt_short HD.out (by rw [HL.out]; exact hlt) (HC.out.trans HC37.out) (by rw [HL.out]; have := HRZ.out; omega))
          go_wp2_with fail
          refine (tg_must_no 210 w2).mono ?_
          rintro e w3 ⟨rfl, hw3⟩
          subst w3
          exact ⟨rfl, by rw [HNO.out]; rfl, HBL.out.trans (HB2.out.mono HBL.out.size)⟩
      · have e37 : (x == 37) = false := beq_eq_false_iff_ne.2 h37
        have HC37 := Lib.hid (show c ≠ 37 from fun e => h37 (by rw [← HX.out, e]; rfl))
        have HNEXT0 := Lib.hid (Gt.dAt_one HD.out (by rw [HL.out]; exact hlt) (by rw [HC.out]; exact HC37.out))
        rw [HC.out] at HNEXT0
        clear h37
        have HK := Lib.hid (fun (y : Int) => builder_byte w.heap.size (w.heap.size + 1) p (Lib.byteCells acc) y wr HP.out HBD.out (by omega) HSZ.out (by rw [Lib.byteCells_length]; have := HD.out.2.1; omega))
        by_cases h43 : x = 43
        · have HC43 := Lib.hid (show c = 43 from UInt8.toNat_inj.1 (by have := HX.out; show c.toNat = 43; omega))
          subst h43
          cases pl
          · rw [HC43.out, show Gt.bl false 43 = 43 from rfl] at HNEXT0
            go_wp2_with fail
            refine (HK.out 43).mono ?_
            rintro e w6 ⟨rfl, hbd6, hfr⟩
            have HBD6 := Lib.hid (show BD w6 w.heap.size (w.heap.size + 1) (.pointer (some ⟨w.heap.size, 0, none⟩)) (Lib.byteCells (acc ++ [43])) by rw [bytes_put]; exact hbd6)
            have HBL6 := Lib.hid (HBL.out.trans (hfr.below (Nat.le_refl _) (by omega)))
            have HRD6 := Lib.hid (show RD w6 b s _ from HR.out.below HBL6.out hb)
            have HSZ6 := Lib.hid (Nat.le_trans HSZ.out hfr.size)
            clear hbd6 hfr HK
            go_wp2
            go_roundw
            case rel => exact ⟨k + 1, acc ++ [43], _, hlt, by go_num, HNEXT0.out, HRD6.out, HBD6.out, .inr rfl, HBL6.out, HSZ6.out⟩
            case measure => simp [intOf]; omega
          · rw [HC43.out, show Gt.bl true 43 = 32 from rfl] at HNEXT0
            go_wp2_with fail
            refine (HK.out 32).mono ?_
            rintro e w6 ⟨rfl, hbd6, hfr⟩
            have HBD6 := Lib.hid (show BD w6 w.heap.size (w.heap.size + 1) (.pointer (some ⟨w.heap.size, 0, none⟩)) (Lib.byteCells (acc ++ [32])) by rw [bytes_put]; exact hbd6)
            have HBL6 := Lib.hid (HBL.out.trans (hfr.below (Nat.le_refl _) (by omega)))
            have HRD6 := Lib.hid (show RD w6 b s _ from HR.out.below HBL6.out hb)
            have HSZ6 := Lib.hid (Nat.le_trans HSZ.out hfr.size)
            clear hbd6 hfr HK
            go_wp2
            go_roundw
            case rel => exact ⟨k + 1, acc ++ [32], _, hlt, by go_num, HNEXT0.out, HRD6.out, HBD6.out, .inr rfl, HBL6.out, HSZ6.out⟩
            case measure => simp [intOf]; omega
        · have e43 : (x == 43) = false := beq_eq_false_iff_ne.2 h43
          have HBLC := Lib.hid (show Gt.bl pl c = c from Gt.bl_plain (fun e => h43 (by rw [← HX.out, e]; rfl)))
          clear h43
          go_wp2_with fail
          refine (HK.out x).mono ?_
          rintro e w6 ⟨rfl, hbd6, hfr⟩
          have HBD6 := Lib.hid (show BD w6 w.heap.size (w.heap.size + 1) (.pointer (some ⟨w.heap.size, 0, none⟩)) (Lib.byteCells (acc ++ [Gt.bl pl c])) by rw [bytes_put, HBLC.out, HX.out]; exact hbd6)
          have HBL6 := Lib.hid (HBL.out.trans (hfr.below (Nat.le_refl _) (by omega)))
          have HRD6 := Lib.hid (show RD w6 b s pl from HR.out.below HBL6.out hb)
          have HSZ6 := Lib.hid (Nat.le_trans HSZ.out hfr.size)
          clear hbd6 hfr HK
          go_wp2
          go_roundw
          case rel => exact ⟨k + 1, acc ++ [Gt.bl pl c], _, hlt, by go_num, HNEXT0.out, HRD6.out, HBD6.out, .inr rfl, HBL6.out, HSZ6.out⟩
          case measure => simp [intOf]; omega
    · have HN := Lib.hid (Gt.dAt_end HD.out (by rw [HL.out]; omega))
      have K := Lib.hid (builder_string w.heap.size (w.heap.size + 1) p acc wr HP.out HBD.out (by omega) HSZ.out)
      go_wp2_with fail
      refine K.out.mono ?_
      rintro e w2 ⟨rfl, hb2⟩
      go_wp2
      go_ret
      exact ⟨by rw [HN.out]; rfl, HBL.out.trans hb2⟩
end Go.Proofs.YtfacmnooklljnaaGreatDoor

/- target: Decode. -/
namespace Go.Proofs.YtfacmnooklljnaaGreatDoor
set_option linter.unusedVariables false
set_option linter.unusedSimpArgs false
open Go.RowKit
set_option maxHeartbeats 1000000
set_option maxRecDepth 100000
end Go.Proofs.YtfacmnooklljnaaGreatDoor

/- A number's digits, read back, are that number: with noughts ahead, or in capitals, too. No program in sight. -/
namespace Go.Proofs.YtfacmnooklljnaaGreatDoor
set_option linter.unusedVariables false
set_option linter.unusedSimpArgs false
namespace Dp
end Dp
end Go.Proofs.YtfacmnooklljnaaGreatDoor

/- The reference's texts of a number are its digits. -/
namespace Go.Proofs.YtfacmnooklljnaaGreatDoor
set_option linter.unusedVariables false
set_option linter.unusedSimpArgs false
open Go.RowKit
set_option maxHeartbeats 1000000
end Go.Proofs.YtfacmnooklljnaaGreatDoor

/- target: strings.Builder's WriteString; which bytes stand for themselves; Encode. -/
namespace Go.Proofs.YtfacmnooklljnaaGreatDoor
set_option linter.unusedVariables false
set_option linter.unusedSimpArgs false
open Go.RowKit Go.Shelf
set_option maxHeartbeats 2000000
set_option maxRecDepth 100000
end Go.Proofs.YtfacmnooklljnaaGreatDoor

/- Runes: what a byte above 127 decodes to, iterators over strings, strings.IndexRune of "/\x00". -/
namespace Go.Proofs.YtfacmnooklljnaaGreatDoor
set_option linter.unusedVariables false
set_option linter.unusedSimpArgs false
open Go.RowKit Go.Shelf
set_option maxHeartbeats 2000000
set_option maxRecDepth 100000
theorem get_at (s : ByteArray) (i : Nat) (h : i < s.size) : s.get! i = s[i]'h := by
  simp [ByteArray.get!, getElem!_pos, h]
  rfl
theorem decodeN_hi (n b0 b1 b2 b3 : Nat) (hn : 1 ≤ n) (h0 : 128 ≤ b0) (h0' : b0 < 256) (h1 : b1 < 256) (h2 : b2 < 256) (h3 : b3 < 256) :
    128 ≤ (Lib.decodeN n b0 b1 b2 b3).1 ∧ (Lib.decodeN n b0 b1 b2 b3).1 ≤ 1114111 ∧ 1 ≤ (Lib.decodeN n b0 b1 b2 b3).2 ∧ (Lib.decodeN n b0 b1 b2 b3).2 ≤ n ∧ (Lib.decodeN n b0 b1 b2 b3).2 ≤ 4 ∧
      (2 ≤ (Lib.decodeN n b0 b1 b2 b3).2 → 128 ≤ b1) ∧ (3 ≤ (Lib.decodeN n b0 b1 b2 b3).2 → 128 ≤ b2) ∧ (4 ≤ (Lib.decodeN n b0 b1 b2 b3).2 → 128 ≤ b3) := by
  unfold Lib.decodeN
  repeat' split
  all_goals (simp only; refine ⟨?_, ?_, ?_, ?_, ?_, ?_, ?_, ?_⟩ <;> first | omega | (intro; omega))
theorem decode_hi (s : ByteArray) (i : Nat) (h : i < s.size) (hb : 128 ≤ (s[i]'h).toNat) :
    ∃ r k : Nat, Utf8.decode s i = (r, k) ∧ 128 ≤ r ∧ r ≤ 1114111 ∧ 1 ≤ k ∧ i + k ≤ s.size ∧ ∀ j, i ≤ j → j < i + k → ∀ hj : j < s.size, 128 ≤ (s[j]'hj).toNat := by
  have g0 := get_at s i h
  have hd := decodeN_hi (s.size - i) (s.get! i).toNat (s.get! (i + 1)).toNat (s.get! (i + 2)).toNat (s.get! (i + 3)).toNat (by omega) (by rw [g0]; exact hb) (UInt8.toNat_lt _) (UInt8.toNat_lt _) (UInt8.toNat_lt _) (UInt8.toNat_lt _)
  rw [← Lib.decode_at] at hd
  refine ⟨(Utf8.decode s i).1, (Utf8.decode s i).2, rfl, hd.1, hd.2.1, hd.2.2.1, by omega, ?_⟩
  intro j hj hk hs
  obtain ⟨_, _, _, h4, h5, hb1, hb2, hb3⟩ := hd
  rcases (show j = i ∨ j = i + 1 ∨ j = i + 2 ∨ j = i + 3 by omega) with e | e | e | e <;> subst e
  · exact hb
  · have := hb1 (by omega); rwa [get_at _ _ hs] at this
  · have := hb2 (by omega); rwa [get_at _ _ hs] at this
  · have := hb3 (by omega); rwa [get_at _ _ hs] at this
theorem encode_hi (r : Int) (h : 128 ≤ r) : 2 ≤ (Utf8.encode r).size ∧ (Utf8.encode r).size ≤ 4 ∧ 128 ≤ ((Utf8.encode r).get! 1).toNat := by
  unfold Utf8.encode
  have hc : 128 ≤ (if Utf8.valid r then r.toNat else Utf8.runeError) := by
    split
    · omega
    · decide
  generalize (if Utf8.valid r then r.toNat else Utf8.runeError) = c at hc
  simp only
  repeat' split
  all_goals first
    | (exfalso; omega)
    | (refine ⟨by simp [ByteArray.size], by simp [ByteArray.size], ?_⟩; simp only [ByteArray.get!]; simp; omega)
/-- an iterator over a string, set -/
def setIter (w : World) (b : Nat) (s : ByteArray) (p : Nat) : World := { w with heap := w.heap.setIfInBounds b (.stringIter s p) }
theorem setIter_at {w : World} {b : Nat} {s t : ByteArray} {p q : Nat} (h : w.heap[b]? = some (.stringIter t q)) : (setIter w b s p).heap[b]? = some (.stringIter s p) := by
  have hb : b < w.heap.size := by
    rcases Nat.lt_or_ge b w.heap.size with h' | h'
    · exact h'
    · rw [Array.getElem?_eq_none h'] at h; simp at h
  simp [setIter, hb]
theorem setIter_below (w : World) (b B : Nat) (s : ByteArray) (p : Nat) (hB : B ≤ b) : Below B w (setIter w b s p) :=
  ⟨rfl, rfl, rfl, by simp [setIter], fun k hk => by simp only [setIter]; rw [Array.getElem?_setIfInBounds_ne]; omega⟩
theorem next_at (w : World) (b : Nat) (s : ByteArray) (pos : Nat) (ty : TypeId) (hb : w.heap[b]? = some (.stringIter s pos)) (h : pos < s.size) :
    (Instr.next (.pointer (some ⟨b, 0, none⟩)) true ty).run Tryz.prog w = .ok (.tuple #[.bool true, .int .i64 pos, .int .i32 (Utf8.decode s pos).1]) (setIter w b s (pos + (Utf8.decode s pos).2)) := by
  simp only [Instr.next, getObj, setObj, Sem.run_bind, Sem.run, hb, Result.andThen, h, if_true]
  simp [goInt, Sem.run, hb, setIter]
theorem next_over (w : World) (b : Nat) (s : ByteArray) (pos : Nat) (ty : TypeId) (hb : w.heap[b]? = some (.stringIter s pos)) (h : ¬ pos < s.size) :
    (Instr.next (.pointer (some ⟨b, 0, none⟩)) true ty).run Tryz.prog w = .ok (.tuple #[.bool false]) w := by
  simp [Instr.next, getObj, Sem.run, hb, h]
def iterPos (w : World) (b : Nat) : Nat := match w.heap[b]? with
  | some (.stringIter _ p) => p
  | _ => 0
theorem iterPos_is {w : World} {b : Nat} {s : ByteArray} {p : Nat} (h : w.heap[b]? = some (.stringIter s p)) : iterPos w b = p := by unfold iterPos; rw [h]
theorem ok_decode (s : ByteArray) (k : Nat) (h : k < s.size) : ∃ r n : Nat, Utf8.decode s k = (r, n) ∧ ((Gt.okB (s.data.toList[k]'h) = true ∧ n = 1 ∧ 33 ≤ r ∧ r ≤ 126 ∧ r ≠ 35) ∨ (Gt.okB (s.data.toList[k]'h) = false ∧ ((r < 33 ∨ 126 < r) ∨ r = 35))) := by
  have hc : s.data.toList[k]'h = s[k]'h := rfl
  rw [hc]
  by_cases ha : (s[k]'h).toNat < 128
  · refine ⟨_, _, decode_ascii s k h ha, ?_⟩
    cases hok : Gt.okB (s[k]'h) with
    | true =>
      left
      unfold Gt.okB at hok
      simp at hok
      refine ⟨rfl, rfl, hok.1.1, hok.1.2, fun e => hok.2 (UInt8.toNat_inj.1 e)⟩
    | false =>
      right
      refine ⟨rfl, ?_⟩
      unfold Gt.okB at hok
      simp at hok
      by_cases h1 : 33 ≤ (s[k]'h).toNat
      · by_cases h2 : (s[k]'h).toNat ≤ 126
        · right; rw [hok h1 h2]; rfl
        · left; right; omega
      · left; left; omega
  · obtain ⟨r, n, hd, h1, _⟩ := decode_hi s k h (by omega)
    refine ⟨r, n, hd, .inr ⟨?_, .inl (.inr (by omega))⟩⟩
    unfold Gt.okB
    rw [show decide ((s[k]'h).toNat ≤ 126) = false from decide_eq_false (by omega)]
    simp
theorem tg_ask1 (s : ByteArray) (w : World) :
    Calls Tryz.prog 88 #[.string s] w fun e w' => e = .returned (.bool (s.data.toList.head? == some 47)) ∧ w' = w := by
  go_enter Tryz.func88, Tryz.ntmps88
  go_wp2_with fail
  refine (Tryz.strings_HasPrefix _ _ _).mono ?_
  rintro e w' ⟨rfl, rfl⟩
  go_wp2
  go_ret
  refine ⟨?_, rfl⟩
  show Ending.returned (Value.bool (Lib.hasPrefix s.data.toList [47])) = _
  congr 2
  cases s.data.toList with
  | nil => rfl
  | cons c l =>
    show ((47 == c) && List.isPrefixOf [] l) = (some c == some 47)
    by_cases h : c = 47
    · subst h; simp
    · rw [beq_eq_false_iff_ne.2 (Ne.symm h)]; simp [h]
theorem tg_ask2 (s : ByteArray) (w : World) :
    Calls Tryz.prog 90 #[.string s] w fun e w' => e = .returned (.bool (s.data.toList.all Gt.okB)) ∧ Below w.heap.size w w' := by
  have HI := Lib.hid (fun W => (World.iter_heap W s 0))
  obtain ⟨A, hA⟩ : ∃ A, s.data.toList.all Gt.okB = A := ⟨_, rfl⟩
  rw [hA]
  have HA := Lib.hid hA
  clear hA
  go_enter Tryz.func90, Tryz.ntmps90
  go_wp2_with fail
  go_loopw [7] (fun _ wr => ∃ k : Nat, k ≤ s.size ∧ wr.heap[w.heap.size]? = some (.stringIter s k) ∧ Below w.heap.size w wr ∧ (s.data.toList.take k).all Gt.okB = true)
    (fun _ wr => s.size - iterPos wr w.heap.size)
  case atStart => exact ⟨0, Nat.zero_le _, HI.out w, (Below.refl _ _).alloc (Nat.le_refl _) _, rfl⟩
  case round =>
    obtain ⟨k, hk, hit, hbl, hal⟩ := hrel
    have HIT := Lib.hid hit
    have HBL := Lib.hid hbl
    have HAL := Lib.hid hal
    by_cases hlt : k < s.size
    · have hn := fun ty => next_at wr w.heap.size s k ty hit hlt
      obtain ⟨r, n, hdec, hor⟩ := ok_decode s k hlt
      rw [hdec] at hn
      have HS2 := Lib.hid (setIter_at (s := s) (p := k + n) hit)
      have HB2 := Lib.hid (hbl.trans (setIter_below wr w.heap.size w.heap.size s (k + n) (Nat.le_refl _)))
      have HTK := Lib.hid (show s.data.toList.take (k + 1) = s.data.toList.take k ++ [s.data.toList[k]'hlt] from List.take_succ_eq_append_getElem hlt)
      have HIK := Lib.hid (iterPos_is hit)
      clear hit hbl hal hdec
      rcases hor with ⟨hok, h1, h2, h3, h4⟩ | ⟨hok, hbad⟩
      · subst h1
        have e1 : decide ((r : Int) < 33) = false := decide_eq_false (by omega)
        have e2 : decide (126 < (r : Int)) = false := decide_eq_false (by omega)
        have e3 : ((r : Int) == 35) = false := beq_eq_false_iff_ne.2 (by omega)
        have HOK := Lib.hid hok
        clear h2 h3 h4 hok
        go_wp2_with fail
        go_roundw
        case rel => exact ⟨k + 1, hlt, HS2.out, HB2.out, by rw [HTK.out, List.all_append, HAL.out, List.all_cons, HOK.out]; rfl⟩
        case measure => rw [iterPos_is HS2.out, HIK.out]; omega
      · have HNO := Lib.hid (show A = false by
          rw [← HA.out, List.all_eq_false]
          exact ⟨_, List.getElem_mem hlt, by rw [hok]; simp⟩)
        have HBD := Lib.hid hbad
        clear hok hbad
        go_wp2_with fail
        all_goals first
          | (exfalso; have := HBD.out; simp only [beq_iff_eq, beq_eq_false_iff_ne, ne_eq, not_or, Bool.not_eq_true] at *; omega)
          | (go_ret; exact ⟨by rw [HNO.out]; rfl, HB2.out⟩)
    · have hn := fun ty => next_over wr w.heap.size s k ty hit hlt
      have HALL := Lib.hid (show A = true by rw [← HA.out]; rw [List.take_of_length_le (by show s.size ≤ k; omega)] at hal; exact hal)
      clear hit hbl hal
      go_wp2
      go_ret
      exact ⟨by rw [HALL.out]; rfl, HBL.out⟩
end Go.Proofs.YtfacmnooklljnaaGreatDoor

/- strings.IndexRune of "/\x00" at a rune above 127: none; strings.IndexAny, ContainsAny of any text; which parts may be. -/
namespace Go.Proofs.YtfacmnooklljnaaGreatDoor
set_option linter.unusedVariables false
set_option linter.unusedSimpArgs false
open Go.RowKit Go.Shelf
set_option maxHeartbeats 2000000
set_option maxRecDepth 100000
theorem rune_no (S : ByteArray) (hS : S.size = 2) (hS0 : ∀ k (h : k < S.size), (S[k]'h).toNat < 128) (hS1 : (S[1]'(by omega)).toNat = 0) (r : Int) (w : World) (h : 128 ≤ r) (h' : r ≤ 1114111) :
    Calls Tryz.prog 177 #[.string S, .int .i32 r] w fun e w' => e = .returned (.int .i64 (-1)) ∧ Below w.heap.size w w' := by
  have HS0 := Lib.hid hS0
  have HS1 := Lib.hid hS1
  clear hS0 hS1
  have hr1 : decide (r < 128) = false := decide_eq_false (by omega)
  have hr0 : (0 : Int) ≤ r := by omega
  have HI := Lib.hid (fun W (s : ByteArray) => (World.iter_heap W s 0))
  by_cases he : r = 65533
  · subst he
    clear hr1 hr0 h h'
    go_enter Tryz.func177, Tryz.ntmps177
    go_wp2_with fail
    go_loopw [176] (fun _ wr => ∃ k : Nat, k ≤ 2 ∧ wr.heap[w.heap.size]? = some (.stringIter S k) ∧ Below w.heap.size w wr)
      (fun _ wr => 2 - iterPos wr w.heap.size)
    case atStart => exact ⟨0, Nat.zero_le _, HI.out w _, (Below.refl _ _).alloc (Nat.le_refl _) _⟩
    case round =>
      obtain ⟨k, hk, hit, hbl⟩ := hrel
      have HBL := Lib.hid hbl
      have HIK := Lib.hid (iterPos_is hit)
      by_cases hlt : k < 2
      · have hn := fun ty => next_at wr w.heap.size S k ty hit (by omega)
        have hd : ∃ x : Nat, Utf8.decode S k = (x, 1) ∧ x < 128 := by
          have hlt' : k < S.size := by omega
          exact ⟨_, decode_ascii S k hlt' (HS0.out k hlt'), HS0.out k hlt'⟩
        obtain ⟨x, hdec, hx⟩ := hd
        rw [hdec] at hn
        have hxe : ((x : Int) == 65533) = false := beq_eq_false_iff_ne.2 (by omega)
        have HS2 := Lib.hid (setIter_at (s := S) (p := k + 1) hit)
        have HB2 := Lib.hid (hbl.trans (setIter_below wr w.heap.size w.heap.size S (k + 1) (Nat.le_refl _)))
        clear hit hbl hdec
        go_wp2_with fail
        go_roundw
        case rel => exact ⟨k + 1, hlt, HS2.out, HB2.out⟩
        case measure => rw [iterPos_is HS2.out, HIK.out]; omega
      · have hn := fun ty => next_over wr w.heap.size S k ty hit (by omega)
        clear hit hbl
        go_wp2
        first | go_ret | (rw [onGoto_ret]; go_ret)
        exact ⟨rfl, HBL.out⟩
  · have he1 : (r == 65533) = false := beq_eq_false_iff_ne.2 he
    cases hv : Lib.validRune r with
    | false =>
      have K := Lib.hid (Tryz.utf8_ValidRune r w)
      rw [hv] at K
      clear hv he
      go_enter Tryz.func177, Tryz.ntmps177
      go_wp2_with fail
      refine K.out.mono ?_
      rintro e w2 ⟨rfl, hw2⟩
      subst w2
      go_wp2
      go_ret
      exact ⟨rfl, Below.refl _ _⟩
    | true =>
      have K := Lib.hid (Tryz.utf8_ValidRune r w)
      rw [hv] at K
      obtain ⟨h2, h4, h8⟩ := encode_hi r h
      obtain ⟨R, hR⟩ : ∃ R, Utf8.encode r = R := ⟨_, rfl⟩
      rw [hR] at h2 h4 h8
      have HR := Lib.hid hR
      have H8 := Lib.hid h8
      have hcv : ∀ W, (convert 21 9 (.int .i32 r)).run Tryz.prog W = .ok (.string R) W := fun W => by
        rw [run_convert_int_string W 21 9 .i32 r (by rw [Tryz.underlying21]; rfl) Tryz.underlying9, hR]
      clear hv he h8 hR
      go_enter Tryz.func177, Tryz.ntmps177
      go_wp2_with fail
      refine K.out.mono ?_
      rintro e w2 ⟨rfl, hw2⟩
      subst w2
      go_wp2_with fail
      obtain ⟨n, hn⟩ : ∃ n : Int, (R.size : Int) - 1 = n := ⟨_, rfl⟩
      refine wp_scope_straight ?_
      go_wp2_with fail
      go_loopw [9] (fun i wr => i = .int .i64 n ∧ wr = w)
        (fun _ _ => 0)
      case atStart => exact ⟨rfl, rfl⟩
      case round =>
        obtain ⟨rfl, rfl⟩ := hrel
        by_cases h3 : R.size = 2
        · have hlt : 1 < R.size := by omega
          obtain ⟨y, hy⟩ : ∃ y : Int, ((R[1]'hlt).toNat : Int) = y := ⟨_, rfl⟩
          have hy1 : 128 ≤ y := by have := H8.out; rw [get_at _ _ hlt] at this; omega
          have hy2 : ((0 : Int) == y) = false := beq_eq_false_iff_ne.2 (by omega)
          have hy3 : ((0 : Int) != y) = true := by unfold bne; rw [hy2]; rfl
          have K7 := Lib.hid (fun (W : World) => show Calls Tryz.prog 169 #[.string ByteArray.empty, .int .u8 y] W fun e w' => e = .returned (.int .i64 (-1)) ∧ w' = W by
            refine (Tryz.strings_IndexByte _ _ _).mono ?_
            rintro e w' ⟨rfl, rfl⟩
            exact ⟨rfl, rfl⟩)
          have hn1 : n = 1 := by omega
          subst hn1
          have hz : (((S[1]'(by omega)).toNat : Nat) : Int) = 0 := by rw [HS1.out]; rfl
          have hls : (2 : Int) ≤ (S.size : Int) := by omega
          clear h2 h4 HR
          go_wp2_with fail
          refine wp_scope_straight ?_
          go_wp2_with fail
          go_quiet (fail)
          go_wp2_with fail
          have hwr : IntKind.i64.wrap 2 = 2 := by decide
          have HBW := Lib.hid (show Below wr.heap.size wr (wr.drewN nq) from below_drewN (Below.refl _ _) _)
          obtain ⟨w2, hw2⟩ : ∃ W, wr.drewN nq = W := ⟨_, rfl⟩
          rw [hw2] at HBW ⊢
          clear hw2
          go_quiet ((go_at_call 169; exact Calls.quiet_of_same (K7.out _)))
          go_wp2
          rw [Exit.noGoto_ret]
          have HF := Lib.hid (HBW.out.trans ((below_drewN (Below.refl w2.heap.size w2) nq).mono HBW.out.size))
          change bodyPost Tryz.prog Tryz.f177 (fun e w' => e = Ending.returned (Value.int IntKind.i64 (-1)) ∧ Below wr.heap.size wr w') Exit.ret _ _
          go_ret
          exact ⟨rfl, HF.out⟩
        · have h3i : ¬ ((R.size : Int) - 1 < 2) := by omega
          go_wp2_with fail
          go_ret
          exact ⟨rfl, Below.refl _ _⟩
namespace Gt
/-- a byte that no part may have -/
def badB (c : UInt8) : Bool := c == 47 || c == 0
theorem ix_bad : ∀ c : Fin 256, decide (0 ≤ Lib.indexByte [47, 0] (UInt8.ofNat c.val)) = badB (UInt8.ofNat c.val) := by decide +kernel
theorem ix_bad' (c : UInt8) : decide (0 ≤ Lib.indexByte [47, 0] c) = badB c := by
  have := ix_bad ⟨c.toNat, c.toNat_lt⟩
  simpa using this
theorem any_take (l : List UInt8) (k n : Nat) (hk : (l.take k).any badB = false) (hn : k + n ≤ l.length) (h : ∀ j, k ≤ j → j < k + n → ∀ hj : j < l.length, 128 ≤ (l[j]'hj).toNat) : (l.take (k + n)).any badB = false := by
  rw [List.any_eq_false] at hk ⊢
  intro x hx
  rw [List.mem_take_iff_getElem] at hx
  obtain ⟨j, hj, rfl⟩ := hx
  by_cases hjk : j < k
  · exact hk _ (List.mem_take_iff_getElem.2 ⟨j, by omega, rfl⟩)
  · have := h j (by omega) (by omega) (by omega)
    unfold badB
    simp only [Bool.or_eq_true, beq_iff_eq, not_or]
    constructor <;> (intro e; rw [e] at this; exact absurd this (by decide))
end Gt
theorem rune_none (r : Int) (w : World) (h : 128 ≤ r) (h' : r ≤ 1114111) :
    Calls Tryz.prog 177 #[.string ⟨#[47, 0]⟩, .int .i32 r] w fun e w' => e = .returned (.int .i64 (-1)) ∧ Below w.heap.size w w' :=
  rune_no ⟨#[47, 0]⟩ rfl (fun k hk => by
    rcases (show k = 0 ∨ k = 1 by have : k < 2 := hk; omega) with e | e <;> subst e
    · show (47 : UInt8).toNat < 128; decide
    · show (0 : UInt8).toNat < 128; decide) rfl r w h h'
end Go.Proofs.YtfacmnooklljnaaGreatDoor

/- strings.IndexAny and ContainsAny of any text at "/\x00"; which parts may be. -/
namespace Go.Proofs.YtfacmnooklljnaaGreatDoor
set_option linter.unusedVariables false
set_option linter.unusedSimpArgs false
open Go.RowKit Go.Shelf
set_option maxHeartbeats 2000000
set_option maxRecDepth 100000
theorem any_short (s : ByteArray) (w : World) (h8 : s.size ≤ 8) :
    Calls Tryz.prog 152 #[.string s, .string ⟨#[47, 0]⟩] w fun e w' => (∃ v : Int, e = .returned (.int .i64 v) ∧ decide (0 ≤ v) = s.data.toList.any Gt.badB) ∧ Below w.heap.size w w' := by
  have HI := Lib.hid (fun W => (World.iter_heap W s 0))
  have h8z : decide ((8 : Int) < (s.size : Int)) = false := decide_eq_false (by omega)
  obtain ⟨A, hA⟩ : ∃ A, s.data.toList.any Gt.badB = A := ⟨_, rfl⟩
  rw [hA]
  have HA := Lib.hid hA
  clear hA h8
  go_enter Tryz.func152, Tryz.ntmps152
  go_wp2_with fail
  refine (Tryz.strings_shouldUseASCIISet _ _).mono ?_
  rintro e w1 ⟨rfl, hw1⟩
  subst w1
  rw [h8z]
  go_wp2_with fail
  go_loopw [46] (fun _ wr => ∃ k : Nat, k ≤ s.size ∧ wr.heap[w.heap.size]? = some (.stringIter s k) ∧ Below w.heap.size w wr ∧ (s.data.toList.take k).any Gt.badB = false)
    (fun _ wr => s.size - iterPos wr w.heap.size)
  case atStart => exact ⟨0, Nat.zero_le _, HI.out w, (Below.refl _ _).alloc (Nat.le_refl _) _, rfl⟩
  case round =>
    obtain ⟨k, hk, hit, hbl, hal⟩ := hrel
    have HBL := Lib.hid hbl
    have HAL := Lib.hid hal
    have HIK := Lib.hid (iterPos_is hit)
    by_cases hlt : k < s.size
    · have hn := fun ty => next_at wr w.heap.size s k ty hit hlt
      have HCC := Lib.hid (show s.data.toList[k]'hlt = s[k]'hlt from rfl)
      obtain ⟨c, hc⟩ : ∃ c, s[k]'hlt = c := ⟨_, rfl⟩
      by_cases ha : c.toNat < 128
      · rw [decode_ascii s k hlt (by rw [hc]; exact ha), hc] at hn
        have HS2 := Lib.hid (setIter_at (s := s) (p := k + 1) hit)
        have HB2 := Lib.hid (hbl.trans (setIter_below wr w.heap.size w.heap.size s (k + 1) (Nat.le_refl _)))
        obtain ⟨w2, hw2⟩ : ∃ W, setIter wr w.heap.size s (k + 1) = W := ⟨_, rfl⟩
        rw [hw2] at HS2 HB2
        simp only [hw2] at hn
        obtain ⟨x, hx⟩ : ∃ x : Int, (c.toNat : Int) = x := ⟨_, rfl⟩
        have hx1 : (0 : Int) ≤ x := by omega
        have hx2 : x < 128 := by omega
        have HXC := Lib.hid (show x.toNat.toUInt8 = c by rw [← hx]; simp)
        simp only [hx] at hn
        have HC := Lib.hid (HCC.out.trans hc)
        clear hit hbl hal hc hw2 hx ha
        obtain ⟨v, hv⟩ : ∃ v, Lib.indexByte [47, 0] c = v := ⟨_, rfl⟩
        have K := Lib.hid (show Calls Tryz.prog 177 #[.string ⟨#[47, 0]⟩, .int .i32 x] w2 fun e w' => e = .returned (.int .i64 v) ∧ w' = w2 by
          refine (Tryz.strings_IndexRune_ascii _ _ _ hx1 hx2).mono ?_
          rintro e w' ⟨rfl, rfl⟩
          refine ⟨?_, rfl⟩
          rw [HXC.out]
          rw [show (⟨#[47, 0]⟩ : ByteArray).data.toList = [47, 0] from rfl, hv])
        have HV := Lib.hid (show decide (0 ≤ v) = Gt.badB c by rw [← hv]; exact Gt.ix_bad' c)
        clear hv hx1 hx2
        by_cases hv0 : 0 ≤ v
        · have HT := Lib.hid (show A = true by
            rw [← HA.out, List.any_eq_true]
            refine ⟨_, List.getElem_mem hlt, ?_⟩
            rw [HC.out, ← HV.out]
            exact decide_eq_true hv0)
          go_wp2_with fail
          refine K.out.mono ?_
          rintro e w3 ⟨rfl, hw3⟩
          subst w3
          go_wp2
          go_ret
          exact ⟨⟨(k : Int), rfl, by rw [HT.out]; exact decide_eq_true (by omega)⟩, HB2.out⟩
        · have hvf : decide (0 ≤ v) = false := decide_eq_false hv0
          have HNX := Lib.hid (show (s.data.toList.take (k + 1)).any Gt.badB = false by
            rw [List.take_succ_eq_append_getElem hlt, List.any_append, HAL.out, List.any_cons, HC.out, ← HV.out, hvf]; rfl)
          go_wp2_with fail
          refine K.out.mono ?_
          rintro e w3 ⟨rfl, hw3⟩
          subst w3
          go_wp2
          go_roundw
          case rel => exact ⟨k + 1, hlt, HS2.out, HB2.out, HNX.out⟩
          case measure => rw [iterPos_is HS2.out, HIK.out]; omega
      · obtain ⟨r, n, hd, hr1, hr2, hn1, hn2, hall⟩ := decode_hi s k hlt (by rw [hc]; omega)
        rw [hd] at hn
        have HS2 := Lib.hid (setIter_at (s := s) (p := k + n) hit)
        have HB2 := Lib.hid (hbl.trans (setIter_below wr w.heap.size w.heap.size s (k + n) (Nat.le_refl _)))
        have HSZ := Lib.hid (show w.heap.size < (setIter wr w.heap.size s (k + n)).heap.size by
          rcases Nat.lt_or_ge w.heap.size (setIter wr w.heap.size s (k + n)).heap.size with h' | h'
          · exact h'
          · have := HS2.out; rw [Array.getElem?_eq_none h'] at this; simp at this)
        obtain ⟨w2, hw2⟩ : ∃ W, setIter wr w.heap.size s (k + n) = W := ⟨_, rfl⟩
        rw [hw2] at HS2 HB2 HSZ
        simp only [hw2] at hn
        have HNX := Lib.hid (Gt.any_take s.data.toList k n HAL.out hn2 hall)
        obtain ⟨x, hx⟩ : ∃ x : Int, (r : Int) = x := ⟨_, rfl⟩
        have K := Lib.hid (rune_none x w2 (by omega) (by omega))
        simp only [hx] at hn
        have HN := Lib.hid (show 1 ≤ n ∧ k + n ≤ s.size from ⟨hn1, hn2⟩)
        clear hit hbl hal hc hw2 hx ha hr1 hr2 hn1 hn2 hall hd
        go_wp2_with fail
        refine K.out.mono ?_
        rintro e w3 ⟨rfl, hb3⟩
        have HS3 := Lib.hid ((hb3.block w.heap.size HSZ.out).trans HS2.out)
        have HB3 := Lib.hid (HB2.out.trans (hb3.mono HB2.out.size))
        clear hb3
        go_wp2
        go_roundw
        case rel => exact ⟨k + n, HN.out.2, HS3.out, HB3.out, HNX.out⟩
        case measure => rw [iterPos_is HS3.out, HIK.out]; have := HN.out; omega
    · have hn := fun ty => next_over wr w.heap.size s k ty hit hlt
      have HF := Lib.hid (show A = false by rw [← HA.out]; rw [List.take_of_length_le (by show s.size ≤ k; omega)] at hal; exact hal)
      clear hit hbl hal
      go_wp2
      go_ret
      exact ⟨⟨-1, rfl, by rw [HF.out]; rfl⟩, HBL.out⟩
theorem index_bad : ∀ l : List UInt8, decide (0 ≤ Lib.indexAny l [47, 0]) = l.any Gt.badB
  | [] => rfl
  | b :: l => by
    have ih := index_bad l
    have hg := Lib.indexAny_ge [47, 0] l
    have hb : ([47, 0] : List UInt8).contains b = Gt.badB b := by
      unfold Gt.badB
      show List.elem b [47, 0] = _
      unfold List.elem
      cases h1 : b == 47
      · unfold List.elem
        cases h2 : b == 0 <;> rfl
      · rfl
    rw [List.any_cons, ← ih, ← hb]
    have hu : Lib.indexAny (b :: l) [47, 0] = if ([47, 0] : List UInt8).contains b = true then 0 else if (Lib.indexAny l [47, 0] == -1) = true then -1 else Lib.indexAny l [47, 0] + 1 := by simp only [Lib.indexAny]
    rw [hu]
    by_cases h : ([47, 0] : List UInt8).contains b = true
    · rw [if_pos h, h]; rfl
    · rw [if_neg h, Bool.eq_false_iff.2 h, Bool.false_or]
      split
      · rename_i he
        rw [beq_iff_eq.1 he]
      · rename_i he
        have : Lib.indexAny l [47, 0] ≠ -1 := fun e => he (beq_iff_eq.2 e)
        exact decide_eq_decide.2 ⟨fun _ => by omega, fun _ => by omega⟩
theorem tg_contains (s : ByteArray) (w : World) (hs : s.size ≤ 1000000) :
    Calls Tryz.prog 124 #[.string s, .string ⟨#[47, 0]⟩] w fun e w' => e = .returned (.bool (s.data.toList.any Gt.badB)) ∧ Below w.heap.size w w' := by
  have K : Hid (Calls Tryz.prog 152 #[.string s, .string ⟨#[47, 0]⟩] w fun e w' => (∃ v : Int, e = .returned (.int .i64 v) ∧ decide (0 ≤ v) = s.data.toList.any Gt.badB) ∧ Below w.heap.size w w') := by
    refine Lib.hid ?_
    by_cases h8 : s.size ≤ 8
    · exact any_short s w h8
    · have hv : ∀ w, (zeroValue 165).run Tryz.prog w = .ok (.agg (Array.replicate 256 (.bool false))) w := (zero_of_info (show (Tryz.prog.info? 165).map (fun i => (i.zero, i.size)) = some (some (.agg (Array.replicate 256 (.bool false))), 256) by kernel_rfl)).1
      refine (Tryz.strings_IndexAny_long hv s ⟨#[47, 0]⟩ w (by decide) (by omega) (by omega) (by decide) ?_).mono ?_
      · intro j b hj
        have hb : b ∈ ([47, 0] : List UInt8) := List.mem_of_getElem? hj
        simp at hb
        rcases hb with rfl | rfl <;> decide
      · rintro e w' ⟨rfl, rfl⟩
        refine ⟨⟨_, rfl, index_bad s.data.toList⟩, ?_⟩
        exact ((Below.refl _ _).alloc (Nat.le_refl _) _).alloc (by simp) _
  obtain ⟨A, hA⟩ : ∃ A, s.data.toList.any Gt.badB = A := ⟨_, rfl⟩
  rw [hA] at K ⊢
  clear hA
  go_enter Tryz.func124, Tryz.ntmps124
  go_wp2_with fail
  refine K.out.mono ?_
  rintro e w' ⟨⟨v, rfl, hv⟩, hb⟩
  have HV := Lib.hid hv
  clear hv
  go_wp2
  go_ret
  exact ⟨by rw [← HV.out]; rfl, hb⟩
end Go.Proofs.YtfacmnooklljnaaGreatDoor

/- target: which parts may be (fine), part. -/
namespace Go.Proofs.YtfacmnooklljnaaGreatDoor
set_option linter.unusedVariables false
set_option linter.unusedSimpArgs false
open Go.RowKit Go.Shelf
set_option maxHeartbeats 2000000
set_option maxRecDepth 100000
theorem all_bad (l : List UInt8) : (l.all fun c => c != 47 && c != 0) = !l.any Gt.badB := by
  induction l with
  | nil => rfl
  | cons c l ih =>
    rw [List.all_cons, List.any_cons, ih]
    unfold Gt.badB
    cases h1 : c == 47 <;> cases h2 : c == 0 <;> simp [bne, h1, h2]
theorem tg_fine (s : ByteArray) (w : World) (hs : s.size ≤ 1000000) :
    Calls Tryz.prog 93 #[.string s] w fun e w' => e = .returned (.bool (Gt.fine s.data.toList)) ∧ Below w.heap.size w w' := by
  have K := Lib.hid (tg_contains s w hs)
  obtain ⟨A, hA⟩ : ∃ A, s.data.toList.any Gt.badB = A := ⟨_, rfl⟩
  rw [hA] at K
  have HF := Lib.hid (show Gt.fine s.data.toList = (!(s.data.toList == [46]) && !(s.data.toList == [46, 46]) && !A) by unfold Gt.fine; rw [all_bad, hA])
  clear hA
  go_enter Tryz.func93, Tryz.ntmps93
  go_wp2_with fail
  · rename_i h1
    rw [Lib.toList_data] at h1
    go_ret
    refine ⟨?_, Below.refl _ _⟩
    rw [HF.out, h1]; rfl
  · rename_i h1 h2
    rw [Lib.toList_data] at h1 h2
    go_ret
    refine ⟨?_, Below.refl _ _⟩
    rw [HF.out, h2]; rfl
  · have h1 : ¬ s.toList = [46] := by assumption
    have h2 : ¬ s.toList = [46, 46] := by assumption
    rw [Lib.toList_data] at h1 h2
    have HF2 := Lib.hid (show Gt.fine s.data.toList = !A by
      rw [HF.out, beq_eq_false_iff_ne.2 h1, beq_eq_false_iff_ne.2 h2]; rfl)
    have e1 : (s.toList == [46]) = false := by rw [Lib.toList_data]; exact beq_eq_false_iff_ne.2 h1
    have e2 : (s.toList == [46, 46]) = false := by rw [Lib.toList_data]; exact beq_eq_false_iff_ne.2 h2
    refine K.out.mono ?_
    rintro e w' ⟨rfl, hb⟩
    have HB := Lib.hid hb
    clear hb h1 h2
    go_wp2
    go_ret
    refine ⟨?_, HB.out⟩
    rw [HF2.out]
    simp [e1, e2]
theorem tg_part (s : ByteArray) (w : World) (hs : s.size ≤ 1000000) :
    Calls Tryz.prog 50 #[.string s] w fun e w' => e = decEnd (Gt.seg s.data.toList) ∧ Below w.heap.size w w' := by
  obtain ⟨W1, hW⟩ : ∃ W, w.alloc (.cells #[.string s, .bool false] 131) = W := ⟨_, rfl⟩
  have HRD := Lib.hid (show RD W1 w.heap.size s false by rw [← hW]; exact World.alloc_heap_new _ _)
  have HB := Lib.hid (show Below w.heap.size w W1 by rw [← hW]; exact (Below.refl _ _).alloc (Nat.le_refl _) _)
  have HW := Lib.hid hW
  clear hW
  have K := Lib.hid (tg_decoded w.heap.size s false W1 HRD.out hs)
  have HDL := Lib.hid (fun r (h : Gt.dec false s.data.toList = some r) => Gt.dec_length false _ s.data.toList r (Nat.le_refl _) h)
  cases hd : Gt.dec false s.data.toList with
  | none =>
    rw [hd] at K
    have HS := Lib.hid (Gt.seg_none hd)
    clear hd
    go_enter Tryz.func50, Tryz.ntmps50
    go_wp2_with fail
    rw [HW.out]
    refine K.out.mono ?_
    rintro e w2 ⟨rfl, hb⟩
    exact ⟨rfl, by rw [HS.out]; rfl, HB.out.trans (hb.mono HB.out.size)⟩
  | some p =>
    rw [hd] at K
    have HS := Lib.hid (Gt.seg_some hd)
    have HP := Lib.hid (HDL.out p hd)
    clear hd HDL
    obtain ⟨P, hP⟩ : ∃ P : ByteArray, ⟨p.toArray⟩ = P := ⟨_, rfl⟩
    have HPL := Lib.hid (show P.data.toList = p by rw [← hP])
    have K' := Lib.hid (show Calls Tryz.prog 92 #[.pointer (some ⟨w.heap.size, 0, none⟩)] W1 fun e w' => e = .returned (.string P) ∧ Below W1.heap.size W1 w' by
      rw [← hP]; exact K.out)
    have HPE := Lib.hid hP
    have hps : P.size ≤ 1000000 := by
      have h1 := HP.out
      have h2 : P.data.toList.length = P.size := rfl
      have h3 : s.data.toList.length = s.size := rfl
      rw [HPL.out] at h2
      omega
    have HPS := Lib.hid hps
    clear hP K hps
    go_enter Tryz.func50, Tryz.ntmps50
    go_wp2_with fail
    rw [HW.out]
    refine K'.out.mono ?_
    rintro e w2 ⟨rfl, hb⟩
    have HB2 := Lib.hid (HB.out.trans (hb.mono HB.out.size))
    clear hb
    go_wp2_with fail
    refine (tg_fine P w2 HPS.out).mono ?_
    rintro e w3 ⟨rfl, hb3⟩
    have HB3 := Lib.hid (HB2.out.trans (hb3.mono HB2.out.size))
    clear hb3
    obtain ⟨b, hb⟩ : ∃ b, Gt.fine P.data.toList = b := ⟨_, rfl⟩
    rw [hb]
    have HBF := Lib.hid (show Gt.fine p = b by rw [← HPL.out]; exact hb)
    clear hb
    cases b
    · go_wp2_with fail
      refine (tg_must_no 210 w3).mono ?_
      rintro e w4 ⟨rfl, hw4⟩
      subst w4
      exact ⟨rfl, by rw [HS.out, HBF.out]; rfl, HB3.out⟩
    · go_wp2_with fail
      refine (tg_must 210 w3).mono ?_
      rintro e w4 ⟨rfl, hw4⟩
      subst w4
      go_wp2
      go_ret
      exact ⟨by rw [HS.out, HBF.out]; show Ending.returned (Value.string P) = _; rw [← HPE.out]; rfl, HB3.out⟩
end Go.Proofs.YtfacmnooklljnaaGreatDoor

/- The reference's at, part. -/
namespace Go.Proofs.YtfacmnooklljnaaGreatDoor
set_option linter.unusedVariables false
set_option linter.unusedSimpArgs false
open Go.RowKit Go.Shelf
set_option maxHeartbeats 2000000
set_option maxRecDepth 100000
end Go.Proofs.YtfacmnooklljnaaGreatDoor

/- target: pair's closure; asks; Parse's closures. -/
namespace Go.Proofs.YtfacmnooklljnaaGreatDoor
set_option linter.unusedVariables false
set_option linter.unusedSimpArgs false
open Go.RowKit Go.Shelf
set_option maxHeartbeats 2000000
set_option maxRecDepth 100000
theorem tg_pair1 (s : ByteArray) (w : World) (hs : s.size ≤ 1000000) :
    Calls Tryz.prog 95 #[.string s] w fun e w' => e = decEnd (Gt.dec true s.data.toList) ∧ Below w.heap.size w w' := by
  obtain ⟨W1, hW⟩ : ∃ W, w.alloc (.cells #[.string s, .bool true] 131) = W := ⟨_, rfl⟩
  have HRD := Lib.hid (show RD W1 w.heap.size s true by rw [← hW]; exact World.alloc_heap_new _ _)
  have HB := Lib.hid (show Below w.heap.size w W1 by rw [← hW]; exact (Below.refl _ _).alloc (Nat.le_refl _) _)
  have HW := Lib.hid hW
  clear hW
  have K := Lib.hid (tg_decoded w.heap.size s true W1 HRD.out hs)
  obtain ⟨o, ho⟩ : ∃ o, Gt.dec true s.data.toList = o := ⟨_, rfl⟩
  rw [ho] at K ⊢
  clear ho
  go_enter Tryz.func95, Tryz.ntmps95
  go_wp2_with fail
  rw [HW.out]
  refine K.out.mono ?_
  rintro e w2 ⟨rfl, hb⟩
  have HB2 := Lib.hid (HB.out.trans (hb.mono HB.out.size))
  clear hb
  cases o with
  | none => exact ⟨rfl, rfl, HB2.out⟩
  | some l =>
    simp only [decEnd]
    go_wp2
    go_ret
    exact ⟨rfl, HB2.out⟩
theorem tg_ask3 (s : ByteArray) (w : World) :
    Calls Tryz.prog 55 #[.string s] w fun e w' => e = .returned (.bool s.data.toList.isEmpty) ∧ w' = w := by
  have HE := Lib.hid (show s.toList.isEmpty = s.data.toList.isEmpty by rw [Lib.toList_data])
  go_enter Tryz.func55, Tryz.ntmps55
  go_wp2_with fail
  go_ret
  refine ⟨?_, rfl⟩
  rw [← HE.out]
  rfl
theorem tg_asks (w : World) :
    Calls Tryz.prog 46 #[] w fun e w' => e = .returned (.agg #[.func (.func 88) #[] #[], .func (.func 90) #[] #[]]) ∧ Below w.heap.size w w' := by
  go_enter Tryz.func46, Tryz.ntmps46
  go_wp2_with fail
  exact bodyPost_ret (by simp [results, Tryz.results46, go_sem]) rfl ⟨rfl, (Below.refl _ _).alloc (Nat.le_refl _) _⟩
end Go.Proofs.YtfacmnooklljnaaGreatDoor

/- The reference's Decode. -/
namespace Go.Proofs.YtfacmnooklljnaaGreatDoor
set_option linter.unusedVariables false
set_option linter.unusedSimpArgs false
open Go.RowKit Go.Shelf
set_option maxHeartbeats 4000000
set_option maxRecDepth 100000
/-- what the slots of the drawn region hold -/
def RdF (s : ByteArray) (i : Nat) (x1 x2 d1 d2 y : Int) (v0 : Value) (B n : Nat) (xs : List Value) : Nat → World → Value → Prop
  | 0, _, v => v = v0
  | 1, _, v => v = .string s
  | 2, _, v => v = .int .i64 i
  | 3, _, v => v = .int .i64 (i + 1 : Nat)
  | 4, _, v => v = .int .u8 x1
  | 5, _, v => v = .int .u64 d1
  | 6, _, v => v = .int .u64 (16 * d1)
  | 7, _, v => v = .string s
  | 8, _, v => v = .int .i64 i
  | 9, _, v => v = .int .i64 (i + 2 : Nat)
  | 10, _, v => v = .int .u8 x2
  | 11, _, v => v = .int .u64 d2
  | 12, _, v => v = .int .u64 (16 * d1 + d2)
  | 13, _, v => v = .int .u8 y
  | 14, w, v => ∃ g, v = .slice (some ⟨g, 0, none⟩) 1 1 ∧ w.heap[g]? = some (.cells #[.int .u8 y] 5 (0, 0)) ∧ v0.ownBlock ≠ some g
  | 15, w, v => w.ownsRow B 5 1 v (n + 1) (xs ++ [.int .u8 y])
  | 16, w, v => w.ownsRow B 5 1 v (n + 1) (xs ++ [.int .u8 y])
  | _, _, _ => False
theorem RdF.alloc {s : ByteArray} {i : Nat} {x1 x2 d1 d2 y : Int} {v0 : Value} {B n : Nat} {xs : List Value} (j : Nat) (w : World) (o : Obj) (v : Value) (h : RdF s i x1 x2 d1 d2 y v0 B n xs j w v) : RdF s i x1 x2 d1 d2 y v0 B n xs j (w.alloc o) v := by
  match j, h with
  | 0, h | 1, h | 2, h | 3, h | 4, h | 5, h | 6, h | 7, h | 8, h | 9, h | 10, h | 11, h | 12, h | 13, h => exact h
  | 14, ⟨g, h1, h2, h3⟩ =>
    refine ⟨g, h1, ?_, h3⟩
    rw [Below.heap_alloc _ _ _ (Array.getElem?_eq_some_iff.1 h2).1]
    exact h2
  | 15, h => exact World.ownsRow.alloc h _
  | 16, h => exact World.ownsRow.alloc h _
  | n + 17, h => exact h.elim
end Go.Proofs.YtfacmnooklljnaaGreatDoor

/- Slices of texts in memory; the reference's Right. -/
namespace Go.Proofs.YtfacmnooklljnaaGreatDoor
set_option linter.unusedVariables false
set_option linter.unusedSimpArgs false
open Go.RowKit Go.Shelf
set_option maxHeartbeats 2000000
set_option maxRecDepth 100000
/-- a slice of texts -/
def SR (w : World) (v : Value) (L : List ByteArray) : Prop :=
  (∃ p c, v = .slice p 0 c ∧ L = []) ∨ ∃ b off cap, v = .slice (some ⟨b, off, none⟩) L.length cap ∧ b < w.heap.size ∧ ∀ j (h : j < L.length), w.cell? ⟨b, off + j, none⟩ = some (.string L[j])
theorem SR.below {w w' : World} {v : Value} {L : List ByteArray} (h : SR w v L) (k : Below w.heap.size w w') : SR w' v L := by
  rcases h with h | ⟨b, off, cap, h1, h2, h3⟩
  · exact .inl h
  · exact .inr ⟨b, off, cap, h1, Nat.lt_of_lt_of_le h2 k.size, fun j hj => (k.cell (p := ⟨b, off + j, none⟩) h2).trans (h3 j hj)⟩
end Go.Proofs.YtfacmnooklljnaaGreatDoor

/- The reference's between: what stands between bytes of a kind. -/
namespace Go.Proofs.YtfacmnooklljnaaGreatDoor
set_option linter.unusedVariables false
set_option linter.unusedSimpArgs false
open Go.RowKit Go.Shelf
set_option maxHeartbeats 4000000
set_option maxRecDepth 100000
end Go.Proofs.YtfacmnooklljnaaGreatDoor

/- target: made of texts, by a function that may give up. -/
namespace Go.Proofs.YtfacmnooklljnaaGreatDoor
set_option linter.unusedVariables false
set_option linter.unusedSimpArgs false
open Go.RowKit Go.Shelf
set_option maxHeartbeats 4000000
set_option maxRecDepth 100000
theorem _root_.Go.World.ownsRow.belowed {w w' : World} {base : Nat} {e : TypeId} {size : Nat} {v : Value} {n : Nat} {xs : List Value} (h : w.ownsRow base e size v n xs) (k : Below w.heap.size w w') : w'.ownsRow base e size v n xs := by
  refine ⟨h.1, h.2.imp id ?_⟩
  rintro ⟨g, cap, cur, h1, h2, h3, h4⟩
  refine ⟨g, cap, cur, h1, h2, (k.block g ?_).trans h3, h4⟩
  rcases Nat.lt_or_ge g w.heap.size with h' | h'
  · exact h'
  · rw [Array.getElem?_eq_none h'] at h3; simp at h3
theorem tg_made (f : FuncId) (g : List UInt8 → Option (List UInt8)) (v : Value) (L : List ByteArray) (w : World) (hv : SR w v L) (hL : L.length ≤ 100000)
    (hce : ∀ args W, (callFunc f args).run Tryz.prog W = .ok (.enter f args) W)
    (hf : ∀ s ∈ L, ∀ W, Calls Tryz.prog f #[.string s] W fun e w' => e = decEnd (g s.data.toList) ∧ Below W.heap.size W w') :
    Calls Tryz.prog 49 #[.func (.func f) #[] #[], v] w fun e w' =>
      ((∃ R r, Gt.all? g (L.map (·.data.toList)) = some R ∧ e = .returned r ∧ StrRow w' r R) ∨ (Gt.all? g (L.map (·.data.toList)) = none ∧ e = .panicked [{ v := errno 210, recovered := false }])) ∧ Below w.heap.size w w' := by
  obtain ⟨i0, hi, hz0, hz1, hz2⟩ := info_parts (show (Tryz.prog.info? 9).map (fun i => (i.zero, i.size, i.bytes)) = some (some (.string ByteArray.empty), 1, 16) by kernel_rfl)
  obtain ⟨B, hB⟩ : ∃ B, w.heap.size = B := ⟨_, rfl⟩
  rw [hB]
  rcases hv with ⟨p0, c0, rfl, rfl⟩ | ⟨b, off, cap, rfl, hb, hc⟩
  · go_enter Tryz.func49, Tryz.ntmps49
    go_wp2_with fail
    go_loopw [4, 9] (fun v i wr => v = .slice none 0 0 ∧ i = .int .i64 0 ∧ wr = w) (fun _ _ _ => 0)
    case atStart => exact ⟨rfl, rfl, rfl⟩
    case round =>
      obtain ⟨rfl, rfl, rfl⟩ := hrel
      go_wp2_with fail
      go_ret
      exact ⟨.inl ⟨[], _, rfl, rfl, ⟨none, 0, rfl, .inl rfl⟩⟩, Below.refl _ _⟩
  · have HC := Lib.hid hc
    have HF := Lib.hid hf
    obtain ⟨N, hN⟩ : ∃ N, L.length = N := ⟨_, rfl⟩
    have HNL := Lib.hid hN
    have HBB := Lib.hid hb
    rw [hN] at hL ⊢
    obtain ⟨M, hM⟩ : ∃ M, L.map (·.data.toList) = M := ⟨_, rfl⟩
    rw [hM]
    have HML := Lib.hid (show M.length = N by rw [← hM, List.length_map, hN])
    have HM := Lib.hid hM
    clear hc hf hM hN hb
    go_enter Tryz.func49, Tryz.ntmps49
    go_wp2_with fail
    go_loopw [4, 9] (fun v i wr => ∃ (k : Nat) (acc : List (List UInt8)), k ≤ N ∧ i = .int .i64 k ∧ Gt.AAt g M acc k ∧ wr.ownsRow B 9 1 v acc.length (acc.map tx) ∧ Below B w wr)
      (fun _ i _ => N - (intOf i).toNat)
    case atStart => exact ⟨0, [], Nat.zero_le _, rfl, Gt.aAt_start _ _, World.ownsRow_nil _ _ _ _, Below.refl _ _⟩
    case round =>
      obtain ⟨k, acc, hk, rfl, hat, hown, hbl⟩ := hrel
      have HA := Lib.hid hat
      have HO := Lib.hid hown
      have HBL := Lib.hid hbl
      clear hat hown hbl
      by_cases hlt : k < N
      · have hkl : k < L.length := by have := HNL.out; omega
        have HBW := Lib.hid (show b < B by rw [← hB]; exact HBB.out)
        have hck : wr.cell? ⟨b, off + k, none⟩ = some (.string L[k]) := (HBL.out.cell (p := ⟨b, off + k, none⟩) HBW.out).trans (HC.out k hkl)
        obtain ⟨S, hS⟩ : ∃ S, L[k] = S := ⟨_, rfl⟩
        rw [hS] at hck
        have HKM := Lib.hid (show k < M.length by rw [HML.out]; exact hlt)
        have HMK := Lib.hid (show M[k]'HKM.out = S.data.toList by
          have : M[k]? = some S.data.toList := by rw [← HM.out, List.getElem?_map, List.getElem?_eq_getElem hkl, hS]; rfl
          exact (List.getElem?_eq_some_iff.1 this).2)
        have K := Lib.hid (HF.out S (by rw [← hS]; exact List.getElem_mem _) wr)
        clear hS hkl
        cases hg : g S.data.toList with
        | none =>
          rw [hg] at K
          have HN := Lib.hid (Gt.aAt_bad HA.out HKM.out (by rw [HMK.out]; exact hg))
          clear hg
          go_wp2_with fail
          refine K.out.mono ?_
          rintro e w2 ⟨rfl, hb2⟩
          exact ⟨rfl, .inr ⟨HN.out, rfl⟩, HBL.out.trans (hb2.mono (hB ▸ HBL.out.size))⟩
        | some q =>
          rw [hg] at K
          have HN := Lib.hid (Gt.aAt_next HA.out HKM.out (by rw [HMK.out]; exact hg))
          clear hg
          go_wp2_with fail
          refine K.out.mono ?_
          rintro e w2 ⟨rfl, hb2⟩
          have HB2 := Lib.hid (HBL.out.trans (hb2.mono (hB ▸ HBL.out.size)))
          have HO2 := Lib.hid (show w2.ownsRow B 9 1 _ acc.length (acc.map tx) from HO.out.belowed hb2)
          simp only [decEnd]
          obtain ⟨qb, hqb⟩ : ∃ z : ByteArray, (⟨q.toArray⟩ : ByteArray) = z := ⟨_, rfl⟩
          rw [hqb]
          have HTQ := Lib.hid (show tx q = .string qb by unfold tx; rw [hqb])
          clear hb2 hqb K
          go_wp2_with (at_builtin; refine wpList_append_own _ rfl _ _ 33 rfl B 9 i0 (.string ByteArray.empty) 1 16 Tryz.underlying33 hi hz0 hz1 hz2 rfl (by decide) _ _ _ rfl (HO2.out.alloc _) ⟨w2.heap.size, 0, none⟩ 1 1 [.string qb] rfl rfl ?c1 ?c2 ?c3 ?c4 ?c5 ?_)
          case c1 =>
            intro j u hj
            match j, hj with
            | 0, hj => simp at hj; subst hj; simp [Addr.add]
          case c2 => intro u hu; simp at hu; subst hu; rfl
          case c3 => have := HA.out.2.1; unfold maxLen; omega
          case c4 => have := HA.out.2.1; omega
          case c5 => have := HB2.out.size; simp; omega
          intro v' w3 hown' hgrow _
          have HB3 := Lib.hid (show Below B w w3 from Below.grown (HB2.out.alloc (by have := HB2.out.size; omega) _) hgrow (by have := HB2.out.size; simp; omega) (own_ge HO2.out))
          have HO3 := Lib.hid (show w3.ownsRow B 9 1 v' (acc ++ [q]).length ((acc ++ [q]).map tx) by
            rw [List.map_append, List.length_append]
            show w3.ownsRow B 9 1 v' _ (_ ++ [tx q])
            rw [HTQ.out]
            exact hown')
          clear hgrow hown'
          go_wp2
          go_roundw
          case rel => exact ⟨k + 1, acc ++ [q], hlt, by go_num, HN.out, HO3.out, HB3.out⟩
          case measure => simp [intOf]; omega
      · have HE := Lib.hid (Gt.aAt_end HA.out (by rw [HML.out]; omega))
        go_wp2_with fail
        go_ret
        exact ⟨.inl ⟨acc, _, HE.out, rfl, strRow_own HO.out⟩, HBL.out⟩
end Go.Proofs.YtfacmnooklljnaaGreatDoor

/- target: pair. -/
namespace Go.Proofs.YtfacmnooklljnaaGreatDoor
set_option linter.unusedVariables false
set_option linter.unusedSimpArgs false
open Go.RowKit Go.Shelf
set_option maxHeartbeats 4000000
set_option maxRecDepth 100000
/-- the cell of MaxLen holds a number -/
def Mx (w : World) : Prop := ∃ m, w.cell? ⟨0, 0, none⟩ = some (.int .i64 m)
theorem Mx.below {w w' : World} {B : Nat} (h : Mx w) (k : Below B w w') (hB : 0 < B) : Mx w' := by
  obtain ⟨m, hm⟩ := h
  exact ⟨m, (k.cell (p := ⟨0, 0, none⟩) hB).trans hm⟩
/-- how a pair's reading ends -/
def prEnd (o : Option (List UInt8 × List UInt8)) : Ending := match o with
  | some (k, v) => .returned (.agg #[.string ⟨k.toArray⟩, .string ⟨v.toArray⟩])
  | none => .panicked [{ v := errno 210, recovered := false }]
theorem pair_all (l : List UInt8) : Gt.all? (Gt.dec true) [l.take (Gs.pos 61 l), l.drop (Gs.pos 61 l + 1)] = (Gt.pairOf l).map fun p => [p.1, p.2] := by
  unfold Gt.pairOf
  cases h1 : Gt.dec true (l.take (Gs.pos 61 l)) with
  | none => rw [Gt.all_none h1]; rfl
  | some a =>
    rw [Gt.all_some h1]
    cases h2 : Gt.dec true (l.drop (Gs.pos 61 l + 1)) with
    | none => rw [Gt.all_none h2]; rfl
    | some b => rw [Gt.all_some h2, Gt.all_nil]; rfl
theorem pair1_enter (args : Array Value) (W : World) : (callFunc 95 args).run Tryz.prog W = .ok (.enter 95 args) W := by
  simp [callFunc, go_sem, Tryz.func95]
  rw [if_neg (by decide), if_neg (by decide)]
theorem tg_pair (s : ByteArray) (w : World) (hs : s.size ≤ 1000000) (hm : Mx w) (h0 : 0 < w.heap.size) :
    Calls Tryz.prog 53 #[.string s] w fun e w' => e = prEnd (Gt.pairOf s.data.toList) ∧ Below w.heap.size w w' := by
  obtain ⟨m, hm'⟩ := hm.below (w' := w.alloc (.cells #[.string ⟨#[]⟩, .string ⟨#[]⟩] 93)) ((Below.refl _ _).alloc (Nat.le_refl _) _) h0
  have KC := Lib.hid (Tryz.strings_Cut s ⟨#[61]⟩ m _ (by omega) hm')
  rw [show (⟨#[61]⟩ : ByteArray).data.toList = [61] from rfl, Gs.cut_is] at KC
  obtain ⟨kb, hk⟩ : ∃ z : ByteArray, (⟨(s.data.toList.take (Gs.pos 61 s.data.toList)).toArray⟩ : ByteArray) = z := ⟨_, rfl⟩
  obtain ⟨vb, hv⟩ : ∃ z : ByteArray, (⟨(s.data.toList.drop (Gs.pos 61 s.data.toList + 1)).toArray⟩ : ByteArray) = z := ⟨_, rfl⟩
  obtain ⟨is, his⟩ : ∃ b, decide (Gs.pos 61 s.data.toList < s.data.toList.length) = b := ⟨_, rfl⟩
  simp only [hk, hv, his] at KC
  have HPA := Lib.hid (pair_all s.data.toList)
  have hkl : kb.data.toList = s.data.toList.take (Gs.pos 61 s.data.toList) := by rw [← hk]
  have hvl : vb.data.toList = s.data.toList.drop (Gs.pos 61 s.data.toList + 1) := by rw [← hv]
  rw [← hkl, ← hvl] at HPA
  obtain ⟨o, ho⟩ : ∃ o, Gt.pairOf s.data.toList = o := ⟨_, rfl⟩
  rw [ho] at HPA ⊢
  clear ho
  have HKS := Lib.hid (show kb.size ≤ 1000000 by
    have h1 : kb.data.toList.length = kb.size := rfl
    have h2 : s.data.toList.length = s.size := rfl
    rw [hkl, List.length_take] at h1; omega)
  have HVS := Lib.hid (show vb.size ≤ 1000000 by
    have h1 : vb.data.toList.length = vb.size := rfl
    have h2 : s.data.toList.length = s.size := rfl
    rw [hvl, List.length_drop] at h1; omega)
  clear hm' hk hv his hkl hvl hm
  go_enter Tryz.func53, Tryz.ntmps53
  go_wp2_with fail
  refine KC.out.mono ?_
  rintro e w2 ⟨rfl, n, hw2⟩
  have HB2 := Lib.hid (show Below w.heap.size w w2 by rw [hw2]; exact below_drewN ((Below.refl _ _).alloc (Nat.le_refl _) _) n)
  have HT2 := Lib.hid (show w2.heap[w.heap.size]? = some (.cells #[.string ⟨#[]⟩, .string ⟨#[]⟩] 93 (0, 0)) by rw [hw2]; exact World.alloc_heap_new _ _)
  have HS2 := Lib.hid (show w2.heap.size = w.heap.size + 1 by rw [hw2]; simp)
  clear hw2 KC
  go_wp2_with fail
  rw [HS2.out]
  obtain ⟨W3, hW3⟩ : ∃ W, w2.alloc (.cells #[.string kb, .string vb] 9) = W := ⟨_, rfl⟩
  rw [hW3]
  have HB3 := Lib.hid (show Below w.heap.size w W3 by rw [← hW3]; exact HB2.out.alloc (by rw [HS2.out]; omega) _)
  have HT3 := Lib.hid (show W3.heap[w.heap.size]? = some (.cells #[.string ⟨#[]⟩, .string ⟨#[]⟩] 93 (0, 0)) by rw [← hW3, Below.heap_alloc _ _ _ (by rw [HS2.out]; omega)]; exact HT2.out)
  have HS3 := Lib.hid (show W3.heap.size = w.heap.size + 2 by rw [← hW3]; simp [HS2.out])
  have HSR := Lib.hid (show SR W3 (.slice (some ⟨w.heap.size + 1, 0, none⟩) 2 2) [kb, vb] from .inr ⟨w.heap.size + 1, 0, 2, rfl, by rw [HS3.out]; omega, fun j hj => by
    have hnew : W3.heap[w.heap.size + 1]? = some (.cells #[.string kb, .string vb] 9 (0, 0)) := by rw [← hW3, ← HS2.out]; exact World.alloc_heap_new _ _
    match j, hj with
    | 0, _ => simp [World.cell?, hnew]
    | 1, _ => simp [World.cell?, hnew]⟩)
  have K := Lib.hid (tg_made 95 (Gt.dec true) _ _ W3 HSR.out (by simp) pair1_enter (fun z hz W => tg_pair1 z W (by
    simp only [List.mem_cons, List.mem_nil_iff, or_false] at hz
    rcases hz with rfl | rfl
    · exact HKS.out
    · exact HVS.out)))
  clear hW3
  refine K.out.mono ?_
  rintro e w4 ⟨hor, hb4⟩
  have HB4 := Lib.hid (HB3.out.trans (hb4.mono HB3.out.size))
  have HT4 := Lib.hid ((hb4.block w.heap.size (by rw [HS3.out]; omega)).trans HT3.out)
  clear hb4 K
  rw [show ([kb, vb] : List ByteArray).map (·.data.toList) = [kb.data.toList, vb.data.toList] from rfl, HPA.out] at hor
  rcases hor with ⟨R, r, h1, rfl, hrow⟩ | ⟨h1, rfl⟩
  · cases o with
    | none => simp at h1
    | some p =>
      obtain ⟨a, d⟩ := p
      simp at h1
      subst h1
      obtain ⟨pp, cap, rfl, hcells⟩ := hrow
      rcases hcells with h | ⟨g, rfl, hcells⟩
      · simp at h
      have e0 : w4.cell? ⟨g, 0, none⟩ = some (.string ⟨a.toArray⟩) := hcells 0 (by simp)
      have e1 : w4.cell? ⟨g, 1, none⟩ = some (.string ⟨d.toArray⟩) := hcells 1 (by simp)
      have t0 : w4.cell? ⟨w.heap.size, 0, none⟩ = some (.string ⟨#[]⟩) := by simp [World.cell?, HT4.out]
      have t1 : w4.cell? ⟨w.heap.size, 1, none⟩ = some (.string ⟨#[]⟩) := by simp [World.cell?, HT4.out]
      have z0 : w4.frozen? ⟨w.heap.size, 0, none⟩ = false := frozen_of_row _ _ _ _ _ HT4.out
      have z1 : w4.frozen? ⟨w.heap.size, 1, none⟩ = false := frozen_of_row _ _ _ _ _ HT4.out
      clear hcells
      go_wp2_with fail
      go_region
      have HB5 := Lib.hid (((HB4.out.setCell (p := ⟨w.heap.size, 0, none⟩) (Nat.le_refl _) (.string ⟨a.toArray⟩)).setCell (p := ⟨w.heap.size, 1, none⟩) (Nat.le_refl _) (.string ⟨d.toArray⟩)).drew)
      have hT5 : ((w4.setCell ⟨w.heap.size, 0, none⟩ (.string ⟨a.toArray⟩)).setCell ⟨w.heap.size, 1, none⟩ (.string ⟨d.toArray⟩)).drew.heap[w.heap.size]? = some (.cells #[.string ⟨a.toArray⟩, .string ⟨d.toArray⟩] 93 (0, 0)) :=
        heap_setCell_same _ _ _ _ _ _ (heap_setCell_same _ _ _ _ _ _ HT4.out)
      obtain ⟨w5, hw5⟩ : ∃ W, ((w4.setCell ⟨w.heap.size, 0, none⟩ (.string ⟨a.toArray⟩)).setCell ⟨w.heap.size, 1, none⟩ (.string ⟨d.toArray⟩)).drew = W := ⟨_, rfl⟩
      rw [hw5] at HB5 hT5 ⊢
      have f0 : w5.cell? ⟨w.heap.size, 0, none⟩ = some (.string ⟨a.toArray⟩) := by simp [World.cell?, hT5]
      have f1 : w5.cell? ⟨w.heap.size, 1, none⟩ = some (.string ⟨d.toArray⟩) := by simp [World.cell?, hT5]
      clear hw5 hT5
      go_wp2
      exact bodyPost_ret (by simp [results, Tryz.results53, go_sem, f0, f1]) rfl ⟨rfl, HB5.out⟩
  · cases o with
    | none => exact ⟨rfl, rfl, HB4.out⟩
    | some p => simp at h1
end Go.Proofs.YtfacmnooklljnaaGreatDoor

/- target: pairs made of texts. -/
namespace Go.Proofs.YtfacmnooklljnaaGreatDoor
set_option linter.unusedVariables false
set_option linter.unusedSimpArgs false
open Go.RowKit Go.Shelf
set_option maxHeartbeats 4000000
set_option maxRecDepth 100000
/-- pairs' cells -/
def prs (l : List (List UInt8 × List UInt8)) : List Value := l.flatMap fun p => [tx p.1, tx p.2]
theorem prs_snoc (l : List (List UInt8 × List UInt8)) (p : List UInt8 × List UInt8) : prs (l ++ [p]) = prs l ++ [tx p.1, tx p.2] := by unfold prs; rw [List.flatMap_append]; simp
/-- a slice of pairs -/
def PrRow (w : World) (v : Value) (L : List (List UInt8 × List UInt8)) : Prop := ∃ B, w.ownsRow B 93 2 v L.length (prs L)
theorem own_ge2 {w : World} {B : Nat} {e : TypeId} {s : Nat} {v : Value} {n : Nat} {xs : List Value} (h : w.ownsRow B e s v n xs) : ∀ k, v.ownBlock = some k → B ≤ k := fun k hk => (h.lt k hk).1
theorem tg_madeP (f : FuncId) (g : List UInt8 → Option (List UInt8 × List UInt8)) (v : Value) (L : List ByteArray) (w : World) (hv : SR w v L) (hL : L.length ≤ 100000)
    (hce : ∀ args W, (callFunc f args).run Tryz.prog W = .ok (.enter f args) W)
    (hf : ∀ s ∈ L, ∀ W, Below w.heap.size w W → Calls Tryz.prog f #[.string s] W fun e w' => e = prEnd (g s.data.toList) ∧ Below W.heap.size W w') :
    Calls Tryz.prog 52 #[.func (.func f) #[] #[], v] w fun e w' =>
      ((∃ R r, Gt.all? g (L.map (·.data.toList)) = some R ∧ e = .returned r ∧ PrRow w' r R) ∨ (Gt.all? g (L.map (·.data.toList)) = none ∧ e = .panicked [{ v := errno 210, recovered := false }])) ∧ Below w.heap.size w w' := by
  obtain ⟨i0, hi, hz0, hz1, hz2⟩ := info_parts (show (Tryz.prog.info? 93).map (fun i => (i.zero, i.size, i.bytes)) = some (some (.agg #[.string ByteArray.empty, .string ByteArray.empty]), 2, 32) by kernel_rfl)
  obtain ⟨B, hB⟩ : ∃ B, w.heap.size = B := ⟨_, rfl⟩
  rw [hB]
  rcases hv with ⟨p0, c0, rfl, rfl⟩ | ⟨b, off, cap, rfl, hb, hc⟩
  · go_enter Tryz.func52, Tryz.ntmps52
    go_wp2_with fail
    go_loopw [4, 9] (fun v i wr => v = .slice none 0 0 ∧ i = .int .i64 0 ∧ wr = w) (fun _ _ _ => 0)
    case atStart => exact ⟨rfl, rfl, rfl⟩
    case round =>
      obtain ⟨rfl, rfl, rfl⟩ := hrel
      go_wp2_with fail
      go_ret
      exact ⟨.inl ⟨[], _, rfl, rfl, ⟨0, World.ownsRow_nil _ _ _ _⟩⟩, Below.refl _ _⟩
  · have HC := Lib.hid hc
    have HF := Lib.hid hf
    obtain ⟨N, hN⟩ : ∃ N, L.length = N := ⟨_, rfl⟩
    have HNL := Lib.hid hN
    have HBB := Lib.hid hb
    rw [hN] at hL ⊢
    obtain ⟨M, hM⟩ : ∃ M, L.map (·.data.toList) = M := ⟨_, rfl⟩
    rw [hM]
    have HML := Lib.hid (show M.length = N by rw [← hM, List.length_map, hN])
    have HM := Lib.hid hM
    clear hc hf hM hN hb
    go_enter Tryz.func52, Tryz.ntmps52
    go_wp2_with fail
    go_loopw [4, 9] (fun v i wr => ∃ (k : Nat) (acc : List (List UInt8 × List UInt8)), k ≤ N ∧ i = .int .i64 k ∧ Gt.AAt g M acc k ∧ wr.ownsRow B 93 2 v acc.length (prs acc) ∧ Below B w wr)
      (fun _ i _ => N - (intOf i).toNat)
    case atStart => exact ⟨0, [], Nat.zero_le _, rfl, Gt.aAt_start _ _, World.ownsRow_nil _ _ _ _, Below.refl _ _⟩
    case round =>
      obtain ⟨k, acc, hk, rfl, hat, hown, hbl⟩ := hrel
      have HA := Lib.hid hat
      have HO := Lib.hid hown
      have HBL := Lib.hid hbl
      clear hat hown hbl
      by_cases hlt : k < N
      · have hkl : k < L.length := by have := HNL.out; omega
        have HBW := Lib.hid (show b < B by rw [← hB]; exact HBB.out)
        have hck : wr.cell? ⟨b, off + k, none⟩ = some (.string L[k]) := (HBL.out.cell (p := ⟨b, off + k, none⟩) HBW.out).trans (HC.out k hkl)
        obtain ⟨S, hS⟩ : ∃ S, L[k] = S := ⟨_, rfl⟩
        rw [hS] at hck
        have HKM := Lib.hid (show k < M.length by rw [HML.out]; exact hlt)
        have HMK := Lib.hid (show M[k]'HKM.out = S.data.toList by
          have : M[k]? = some S.data.toList := by rw [← HM.out, List.getElem?_map, List.getElem?_eq_getElem hkl, hS]; rfl
          exact (List.getElem?_eq_some_iff.1 this).2)
        have K := Lib.hid (HF.out S (by rw [← hS]; exact List.getElem_mem _) wr (hB ▸ HBL.out))
        clear hS hkl
        cases hg : g S.data.toList with
        | none =>
          rw [hg] at K
          have HN := Lib.hid (Gt.aAt_bad HA.out HKM.out (by rw [HMK.out]; exact hg))
          clear hg
          go_wp2_with fail
          refine K.out.mono ?_
          rintro e w2 ⟨rfl, hb2⟩
          exact ⟨rfl, .inr ⟨HN.out, rfl⟩, HBL.out.trans (hb2.mono (hB ▸ HBL.out.size))⟩
        | some q =>
          rw [hg] at K
          have HN := Lib.hid (Gt.aAt_next HA.out HKM.out (by rw [HMK.out]; exact hg))
          clear hg
          go_wp2_with fail
          refine K.out.mono ?_
          rintro e w2 ⟨rfl, hb2⟩
          have HB2 := Lib.hid (HBL.out.trans (hb2.mono (hB ▸ HBL.out.size)))
          have HO2 := Lib.hid (show w2.ownsRow B 93 2 _ acc.length (prs acc) from HO.out.belowed hb2)
          simp only [prEnd]
          clear hb2 K
          go_wp2_with (at_builtin; refine wpList_append_own _ rfl _ _ 34 rfl B 93 i0 (.agg #[.string ByteArray.empty, .string ByteArray.empty]) 2 32 Tryz.underlying34 hi hz0 hz1 hz2 rfl (by decide) _ _ _ rfl (HO2.out.alloc _) ⟨w2.heap.size, 0, none⟩ 1 1 [tx q.1, tx q.2] rfl rfl ?c1 ?c2 ?c3 ?c4 ?c5 ?_)
          case c1 =>
            intro j u hj
            match j, hj with
            | 0, hj => simp at hj; subst hj; simp [Addr.add, tx]
            | 1, hj => simp at hj; subst hj; simp [Addr.add, tx]
          case c2 => intro u hu; simp [tx] at hu; rcases hu with rfl | rfl <;> rfl
          case c3 => have := HA.out.2.1; unfold maxLen; omega
          case c4 => have := HA.out.2.1; omega
          case c5 => have := HB2.out.size; simp; omega
          intro v' w3 hown' hgrow _
          have HB3 := Lib.hid (show Below B w w3 from Below.grown (HB2.out.alloc (by have := HB2.out.size; omega) _) hgrow (by have := HB2.out.size; simp; omega) (own_ge2 HO2.out))
          have HO3 := Lib.hid (show w3.ownsRow B 93 2 v' (acc ++ [q]).length (prs (acc ++ [q])) by
            rw [prs_snoc, List.length_append]
            exact hown')
          clear hgrow hown'
          go_wp2
          go_roundw
          case rel => exact ⟨k + 1, acc ++ [q], hlt, by go_num, HN.out, HO3.out, HB3.out⟩
          case measure => simp [intOf]; omega
      · have HE := Lib.hid (Gt.aAt_end HA.out (by rw [HML.out]; omega))
        go_wp2_with fail
        go_ret
        exact ⟨.inl ⟨acc, _, HE.out, rfl, ⟨B, HO.out⟩⟩, HBL.out⟩
end Go.Proofs.YtfacmnooklljnaaGreatDoor

/- target: Parse's clearing closure. -/
namespace Go.Proofs.YtfacmnooklljnaaGreatDoor
set_option linter.unusedVariables false
set_option linter.unusedSimpArgs false
open Go.RowKit Go.Shelf
set_option maxHeartbeats 2000000
set_option maxRecDepth 100000
theorem tg_clearT (T : Nat) (u v : Value) (w : World) (h : w.heap[T]? = some (.cells #[u, v] 36 (0, 0))) :
    Calls Tryz.prog 45 #[.pointer (some ⟨T, 0, none⟩)] w fun e w' => e = .returned (.tuple #[]) ∧ w' = (w.setCell ⟨T, 0, none⟩ (.slice none 0 0)).setCell ⟨T, 1, none⟩ (.slice none 0 0) := by
  have c0 : w.cell? ⟨T, 0, none⟩ = some u := by simp [World.cell?, h]
  have c1 : w.cell? ⟨T, 1, none⟩ = some v := by simp [World.cell?, h]
  have z0 : w.frozen? ⟨T, 0, none⟩ = false := frozen_of_row _ _ _ _ _ h
  have z1 : w.frozen? ⟨T, 1, none⟩ = false := frozen_of_row _ _ _ _ _ h
  clear h
  go_enter Tryz.func45, Tryz.ntmps45
  go_wp2
  simp [bodyPost, results, Tryz.results45, go_sem]
theorem clearT_enter (args : Array Value) (W : World) : (callFunc 45 args).run Tryz.prog W = .ok (.enter 45 args) W := by
  simp [callFunc, go_sem, Tryz.func45]
  rw [if_neg (by decide), if_neg (by decide)]
theorem part_enter (args : Array Value) (W : World) : (callFunc 50 args).run Tryz.prog W = .ok (.enter 50 args) W := by
  simp [callFunc, go_sem, Tryz.func50]
  rw [if_neg (by decide), if_neg (by decide)]
theorem pair_enter (args : Array Value) (W : World) : (callFunc 53 args).run Tryz.prog W = .ok (.enter 53 args) W := by
  simp [callFunc, go_sem, Tryz.func53]
  rw [if_neg (by decide), if_neg (by decide)]
end Go.Proofs.YtfacmnooklljnaaGreatDoor

/- The reference's pair. -/
namespace Go.Proofs.YtfacmnooklljnaaGreatDoor
set_option linter.unusedVariables false
set_option linter.unusedSimpArgs false
open Go.RowKit Go.Shelf
set_option maxHeartbeats 4000000
set_option maxRecDepth 100000
end Go.Proofs.YtfacmnooklljnaaGreatDoor

/- target: what Split and DeleteFunc leave; Parse. -/
namespace Go.Proofs.YtfacmnooklljnaaGreatDoor
set_option linter.unusedVariables false
set_option linter.unusedSimpArgs false
open Go.RowKit Go.Shelf
set_option maxHeartbeats 4000000
set_option maxRecDepth 100000
theorem ask1_enter (args : Array Value) (W : World) : (callFunc 88 args).run Tryz.prog W = .ok (.enter 88 args) W := by
  simp [callFunc, go_sem, Tryz.func88]
  rw [if_neg (by decide), if_neg (by decide)]
theorem ask2_enter (args : Array Value) (W : World) : (callFunc 90 args).run Tryz.prog W = .ok (.enter 90 args) W := by
  simp [callFunc, go_sem, Tryz.func90]
  rw [if_neg (by decide), if_neg (by decide)]
theorem ask3_enter (args : Array Value) (W : World) : (callFunc 55 args).run Tryz.prog W = .ok (.enter 55 args) W := by
  simp [callFunc, go_sem, Tryz.func55]
  rw [if_neg (by decide), if_neg (by decide)]
/-- what Split leaves: a block of its own -/
theorem tg_split (s : ByteArray) (z : UInt8) (w : World) (hs : s.size ≤ 1000000) (hm : Mx w) :
    Calls Tryz.prog 51 #[.string s, .string ⟨#[z]⟩] w fun e w' => ∃ D : List ByteArray, D.map (·.data.toList) = Gs.parts z [] s.data.toList ∧
      e = .returned (.slice (some ⟨w.heap.size, 0, none⟩) D.length D.length) ∧ w' = w.alloc (.cells (D.map Value.string).toArray 9) := by
  obtain ⟨m, hm⟩ := hm
  refine (Tryz.strings_Split s ⟨#[z]⟩ m w (by omega) hm (Nat.le_refl 1)).mono ?_
  rintro e w' ⟨rfl, rfl⟩
  refine ⟨Lib.splitB ⟨#[z]⟩ 0 (Lib.countB s ⟨#[z]⟩) s, Gs.splitB_is z s, ?_, rfl⟩
  rw [Lib.splitB_all ⟨#[z]⟩ (Nat.le_refl 1) 0 _ s rfl]
open Go.Sort in
/-- the empty ones are struck -/
theorem tg_strike (g cap : Nat) (D : List ByteArray) (W : World) (hg : W.heap[g]? = some (.cells (D.map Value.string).toArray 9 (0, 0))) (hn : D.length ≤ cap) (hN : D.length ≤ 1000000) :
    Calls Tryz.prog 54 #[.slice (some ⟨g, 0, none⟩) D.length cap, .func (.func 55) #[] #[]] W fun e w' =>
      ∃ v, e = .returned v ∧ SR w' v (D.filter fun s => !s.data.toList.isEmpty) ∧ Below g W w' := by
  have hgl : g < W.heap.size := by
    rcases Nat.lt_or_ge g W.heap.size with h | h
    · exact h
    · rw [Array.getElem?_eq_none h] at hg; simp at hg
  have hds : D.toArray.size = D.length := by simp
  have hd : ∀ j (h : j < D.length), D.toArray[j]! = D[j] := fun j h => by rw [getElem!_pos D.toArray j (by simpa using h)]; simp
  have hH : Holds Value.string W g 0 D.toArray := fun j hj => by
    have hj' : j < D.length := by simpa using hj
    rw [Nat.zero_add, hd j hj']
    exact ⟨by simp [World.cell?, hg, List.getElem?_eq_getElem hj'], frozen_of_row _ _ _ _ _ hg⟩
  have hgv : ∀ (V : World) (x : ByteArray), FnGives Tryz.prog 55 #[] #[.string x] (.bool x.data.toList.isEmpty) V := fun V x => by
    show Calls Tryz.prog 55 #[.string x] V _
    refine (tg_ask3 x V).mono ?_
    rintro e w' ⟨rfl, rfl⟩
    exact ⟨rfl, 0, rfl⟩
  have K := Tryz.slices_DeleteFunc Value.string (fun _ => rfl) (fun s => s.data.toList.isEmpty) 55 #[] ask3_enter ⟨#[]⟩ (fun _ => by kernel_rfl) g 0 cap D.toArray W
    (fun V x _ => hgv V x) (fun n os dk x _ => hgv _ x) hH (by rw [hds]; omega) (by rw [hds]; exact hn)
  rw [hds] at K
  refine K.mono ?_
  rintro e w' ⟨rfl, q, rfl⟩
  simp only
  obtain ⟨F, hF⟩ : ∃ F, (D.filter fun s => !s.data.toList.isEmpty) = F := ⟨_, rfl⟩
  have hFl : F.length ≤ D.length := by rw [← hF]; exact List.length_filter_le _ _
  rw [hF]
  refine ⟨_, rfl, .inr ⟨g, 0, cap, rfl, ?_, fun j hj => ?_⟩, ?_⟩
  · rw [size_putRow]; exact hgl
  · have := cell?_putRow Value.string (Sort.ahead W q) g 0 D.toArray (F ++ List.replicate (D.length - F.length) (⟨#[]⟩ : ByteArray)).toArray (holds_ahead _ _ _ _ _ _ hH) (by simp; omega) j (by simp; omega)
    rw [this, getElem!_pos _ j (by simp; omega)]
    simp [List.getElem_append_left hj]
  · refine ⟨rfl, rfl, rfl, by rw [size_putRow]; exact Nat.le_refl _, fun k hk => ?_⟩
    simp only [putRow, mapBlock, Array.getElem?_modify]
    rw [if_neg (by omega)]
    rfl
end Go.Proofs.YtfacmnooklljnaaGreatDoor

/- target: Parse. -/
namespace Go.Proofs.YtfacmnooklljnaaGreatDoor
set_option linter.unusedVariables false
set_option linter.unusedSimpArgs false
open Go.RowKit Go.Shelf
set_option maxHeartbeats 4000000
set_option maxRecDepth 100000
/-- the stand of the two questions -/
def AskAt (s : List UInt8) (W : World) (i : Value) (wr : World) : Prop :=
  (i = .int .i64 0 ∧ wr = W) ∨ (i = .int .i64 1 ∧ wr = W ∧ (s.head? == some 47) = true) ∨ (i = .int .i64 2 ∧ Below W.heap.size W wr ∧ Gt.ok s = true)
theorem StrRow.setT {w : World} {v : Value} {L : List (List UInt8)} {T : Nat} {p1 p2 : Option Addr} {n1 k1 n2 k2 : Nat} {t : TypeId} (h : StrRow w v L) (hT : w.heap[T]? = some (.cells #[.slice p1 n1 k1, .slice p2 n2 k2] t (0, 0))) (i : Nat) (x : Value) :
    StrRow (w.setCell ⟨T, i, none⟩ x) v L := by
  obtain ⟨p, cap, rfl, h⟩ := h
  refine ⟨p, cap, rfl, h.imp id ?_⟩
  rintro ⟨g, rfl, hc⟩
  refine ⟨g, rfl, fun j hj => ?_⟩
  have h1 := hc j hj
  rw [World.cell?_setCell_other, h1]
  intro e
  obtain rfl : T = g := by simpa using congrArg Addr.block e
  simp only [World.cell?, hT, Option.bind_eq_bind] at h1
  match j with
  | 0 => simp [tx] at h1
  | 1 => simp [tx] at h1
  | j + 2 => simp at h1
theorem PrRow.slice {w : World} {v : Value} {L : List (List UInt8 × List UInt8)} (h : PrRow w v L) : ∃ p n c, v = .slice p n c := by
  obtain ⟨B, _, ⟨rfl, _⟩ | ⟨g, cap, cur, rfl, _⟩⟩ := h
  · exact ⟨_, _, _, rfl⟩
  · exact ⟨_, _, _, rfl⟩
theorem PrRow.setT {w : World} {v : Value} {L : List (List UInt8 × List UInt8)} {T : Nat} {cs : Array Value} {t : TypeId} (h : PrRow w v L) (hT : w.heap[T]? = some (.cells cs t (0, 0))) (ht : t ≠ 93) (i : Nat) (x : Value) :
    PrRow (w.setCell ⟨T, i, none⟩ x) v L := by
  obtain ⟨B, hl, h⟩ := h
  refine ⟨B, hl, h.imp id ?_⟩
  rintro ⟨g, cap, cur, rfl, h1, h2, h3⟩
  refine ⟨g, cap, cur, rfl, h1, ?_, h3⟩
  rw [Below.heap_setCell _ _ _ _ (by
    intro e
    obtain rfl : g = T := by simpa using e
    rw [h2] at hT
    simp at hT
    exact ht hT.2.symm)]
  exact h2
theorem ok_pos {l : List UInt8} (h : Gt.ok l = true) : 1 ≤ Gs.pos 63 l := by
  unfold Gt.ok at h
  rw [Bool.and_eq_true] at h
  cases l with
  | nil => exact absurd h.1 (by decide)
  | cons c r =>
    have hc : c = 47 := by have := h.1; simpa using this
    subst hc
    rw [Gs.pos_next _ _ _ (by decide)]
    omega
end Go.Proofs.YtfacmnooklljnaaGreatDoor

/- The reference's Parse. -/
namespace Go.Proofs.YtfacmnooklljnaaGreatDoor
set_option linter.unusedVariables false
set_option linter.unusedSimpArgs false
open Go.RowKit Go.Shelf
set_option maxHeartbeats 8000000
set_option maxRecDepth 100000
namespace Gt
end Gt
theorem StrRow.fr {w w' : World} {v : Value} {L : List (List UInt8)} {T B : Nat} {p1 p2 : Option Addr} {n1 k1 n2 k2 : Nat} {t : TypeId} (h : StrRow w v L) (hT : w.heap[T]? = some (.cells #[.slice p1 n1 k1, .slice p2 n2 k2] t (0, 0))) (hf : Fr T B w w') (hB : w.heap.size ≤ B) : StrRow w' v L := by
  obtain ⟨p, cap, rfl, h⟩ := h
  refine ⟨p, cap, rfl, h.imp id ?_⟩
  rintro ⟨g, rfl, hc⟩
  refine ⟨g, rfl, fun j hj => ?_⟩
  have h1 := hc j hj
  have hg := lt_of_cell h1
  have hne : g ≠ T := by
    intro e
    subst e
    simp only [World.cell?, hT, Option.bind_eq_bind] at h1
    match j with
    | 0 => simp [tx] at h1
    | 1 => simp [tx] at h1
    | j + 2 => simp at h1
  exact (World.cell?_of_block (a := ⟨g, j, none⟩) (hf.block g (Nat.lt_of_lt_of_le hg hB) hne)).trans h1
theorem own_slice {w : World} {base : Nat} {e : TypeId} {size : Nat} {v : Value} {n : Nat} {xs : List Value} (h : w.ownsRow base e size v n xs) : ∃ p c, v = .slice p n c := by
  rcases h.2 with ⟨rfl, h0⟩ | ⟨g, cap, cur, h1, _⟩
  · exact ⟨none, 0, by rw [h0]⟩
  · exact ⟨_, _, h1⟩
end Go.Proofs.YtfacmnooklljnaaGreatDoor

/- Slices of texts and of pairs that are read; the reference's Same. -/
namespace Go.Proofs.YtfacmnooklljnaaGreatDoor
set_option linter.unusedVariables false
set_option linter.unusedSimpArgs false
open Go.RowKit Go.Shelf
set_option maxHeartbeats 8000000
set_option maxRecDepth 100000
/-- a slice of texts -/
def TS (w : World) (v : Value) (L : List (List UInt8)) : Prop :=
  (∃ p c, v = .slice p 0 c ∧ L = []) ∨ ∃ b off cap, v = .slice (some ⟨b, off, none⟩) L.length cap ∧ ∀ j, j < L.length → w.cell? ⟨b, off + j, none⟩ = some (tx (L.getD j []))
/-- a slice of pairs -/
def PS (w : World) (v : Value) (L : List (List UInt8 × List UInt8)) : Prop :=
  (v = .slice none 0 0 ∧ L = []) ∨ ∃ b off cap, v = .slice (some ⟨b, off, none⟩) L.length cap ∧ ∀ j, j < L.length → w.cell? ⟨b, off + j * 2, none⟩ = some (tx (L.getD j ([], [])).1) ∧ w.cell? ⟨b, off + j * 2 + 1, none⟩ = some (tx (L.getD j ([], [])).2)
theorem TS.below {w w' : World} {v : Value} {L : List (List UInt8)} (h : TS w v L) (k : Below w.heap.size w w') : TS w' v L := by
  rcases h with h | ⟨b, off, cap, h1, h3⟩
  · exact .inl h
  · exact .inr ⟨b, off, cap, h1, fun j hj => cell_below k (h3 j hj)⟩
theorem PS.below {w w' : World} {v : Value} {L : List (List UInt8 × List UInt8)} (h : PS w v L) (k : Below w.heap.size w w') : PS w' v L := by
  rcases h with h | ⟨b, off, cap, h1, h3⟩
  · exact .inl h
  · exact .inr ⟨b, off, cap, h1, fun j hj => ⟨cell_below k (h3 j hj).1, cell_below k (h3 j hj).2⟩⟩
theorem TS.of {w : World} {v : Value} {L : List (List UInt8)} (h : StrRow w v L) : TS w v L := by
  obtain ⟨p, cap, rfl, h⟩ := h
  rcases h with h | ⟨g, rfl, hc⟩
  · exact .inl ⟨p, cap, by rw [h], List.length_eq_zero_iff.1 h⟩
  · refine .inr ⟨g, 0, cap, rfl, fun j hj => ?_⟩
    rw [Nat.zero_add]; exact hc j hj
theorem prs_get : ∀ (L : List (List UInt8 × List UInt8)) (j : Nat), j < L.length → (prs L)[j * 2]? = some (tx (L.getD j ([], [])).1) ∧ (prs L)[j * 2 + 1]? = some (tx (L.getD j ([], [])).2)
  | p :: L, 0, _ => ⟨rfl, rfl⟩
  | p :: L, j + 1, h => by
    have := prs_get L j (by simpa using h)
    have e : prs (p :: L) = tx p.1 :: tx p.2 :: prs L := rfl
    rw [e, show (j + 1) * 2 = j * 2 + 1 + 1 by omega]
    simpa using this
theorem PS.of {w : World} {v : Value} {L : List (List UInt8 × List UInt8)} (h : PrRow w v L) : PS w v L := by
  obtain ⟨B, hl, h⟩ := h
  rcases h with ⟨rfl, h0⟩ | ⟨g, cap, cur, rfl, _, hg, hc, _, hs, ht⟩
  · exact .inl ⟨rfl, List.length_eq_zero_iff.1 h0⟩
  · refine .inr ⟨g, 0, cap, rfl, fun j hj => ?_⟩
    have hp := prs_get L j hj
    rw [Nat.zero_add, ← ht, List.getElem?_take_of_lt (by omega), List.getElem?_take_of_lt (by omega)] at *
    refine ⟨?_, ?_⟩
    · rw [← hp.1]; simp [World.cell?, hg]
    · rw [← hp.2]; simp [World.cell?, hg]
theorem TS.slice {w : World} {v : Value} {L : List (List UInt8)} (h : TS w v L) : ∃ p c, v = .slice p L.length c := by
  rcases h with ⟨p, c, rfl, rfl⟩ | ⟨b, off, cap, rfl, _⟩
  · exact ⟨_, _, rfl⟩
  · exact ⟨_, _, rfl⟩
theorem PS.slice {w : World} {v : Value} {L : List (List UInt8 × List UInt8)} (h : PS w v L) : ∃ p c, v = .slice p L.length c := by
  rcases h with ⟨rfl, rfl⟩ | ⟨b, off, cap, rfl, _⟩
  · exact ⟨_, _, rfl⟩
  · exact ⟨_, _, rfl⟩
theorem TS.cells {w : World} {p : Option Addr} {n c : Nat} {L : List (List UInt8)} (h : TS w (.slice p n c) L) {k : Nat} (hk : k < L.length) : ∃ b off, p = some ⟨b, off, none⟩ ∧ ∀ j, j < L.length → w.cell? ⟨b, off + j, none⟩ = some (tx (L.getD j [])) := by
  rcases h with ⟨p, c, _, rfl⟩ | ⟨b, off, cap, h1, h3⟩
  · simp at hk
  · refine ⟨b, off, by injection h1, h3⟩
theorem PS.cells {w : World} {p : Option Addr} {n c : Nat} {L : List (List UInt8 × List UInt8)} (h : PS w (.slice p n c) L) {k : Nat} (hk : k < L.length) : ∃ b off, p = some ⟨b, off, none⟩ ∧ ∀ j, j < L.length → w.cell? ⟨b, off + j * 2, none⟩ = some (tx (L.getD j ([], [])).1) ∧ w.cell? ⟨b, off + j * 2 + 1, none⟩ = some (tx (L.getD j ([], [])).2) := by
  rcases h with ⟨_, rfl⟩ | ⟨b, off, cap, h1, h3⟩
  · simp at hk
  · refine ⟨b, off, by injection h1, h3⟩
theorem take_getD {α : Type} (L : List α) (d : α) (k : Nat) (h : k < L.length) : L.take (k + 1) = L.take k ++ [L.getD k d] := by
  rw [List.take_succ_eq_append_getElem h, List.getD_eq_getElem?_getD, List.getElem?_eq_getElem h]; rfl
theorem ref_Same (v1 v2 u1 u2 : Value) (P P' : List (List UInt8)) (Q Q' : List (List UInt8 × List UInt8)) (w : World) (h1 : TS w v1 P) (h2 : PS w v2 Q) (h3 : TS w u1 P') (h4 : PS w u2 Q')
    (hl1 : P.length ≤ 100000) (hl2 : Q.length ≤ 100000) (hl3 : P'.length ≤ 100000) (hl4 : Q'.length ≤ 100000) :
    Calls Tryz.prog 35 #[.agg #[v1, v2], .agg #[u1, u2]] w fun e w' => e = .returned (.bool (decide (P = P' ∧ Q = Q'))) ∧ Below w.heap.size w w' := by
  obtain ⟨p1, c1, rfl⟩ := h1.slice
  obtain ⟨p2, c2, rfl⟩ := h2.slice
  obtain ⟨q1, d1, rfl⟩ := h3.slice
  obtain ⟨q2, d2, rfl⟩ := h4.slice
  obtain ⟨n1, hn1⟩ : ∃ n, P.length = n := ⟨_, rfl⟩
  obtain ⟨n2, hn2⟩ : ∃ n, Q.length = n := ⟨_, rfl⟩
  obtain ⟨m1, hm1⟩ : ∃ n, P'.length = n := ⟨_, rfl⟩
  obtain ⟨m2, hm2⟩ : ∃ n, Q'.length = n := ⟨_, rfl⟩
  rw [hn1] at h1 hl1 ⊢
  rw [hn2] at h2 hl2 ⊢
  rw [hm1] at h3 hl3 ⊢
  rw [hm2] at h4 hl4 ⊢
  obtain ⟨W1, hW1⟩ : ∃ Z, (w.alloc (.cells #[.slice p1 n1 c1, .slice p2 n2 c2] 36)).alloc (.cells #[.slice q1 m1 d1, .slice q2 m2 d2] 36) = Z := ⟨_, rfl⟩
  have hb1 : Below w.heap.size w W1 := by rw [← hW1]; exact ((Below.refl _ _).alloc (Nat.le_refl _) _).alloc (by simp) _
  have hA : W1.heap[w.heap.size]? = some (.cells #[.slice p1 n1 c1, .slice p2 n2 c2] 36 (0, 0)) := by
    rw [← hW1, Below.heap_alloc _ _ _ (by simp)]; exact World.alloc_heap_new _ _
  have hB : W1.heap[w.heap.size + 1]? = some (.cells #[.slice q1 m1 d1, .slice q2 m2 d2] 36 (0, 0)) := by
    rw [← hW1]
    have := World.alloc_heap_new (w.alloc (.cells #[.slice p1 n1 c1, .slice p2 n2 c2] 36)) (.cells #[.slice q1 m1 d1, .slice q2 m2 d2] 36)
    simpa using this
  have a0 : W1.cell? ⟨w.heap.size, 0, none⟩ = some (.slice p1 n1 c1) := by simp [World.cell?, hA]
  have a1 : W1.cell? ⟨w.heap.size, 1, none⟩ = some (.slice p2 n2 c2) := by simp [World.cell?, hA]
  have b0 : W1.cell? ⟨w.heap.size + 1, 0, none⟩ = some (.slice q1 m1 d1) := by simp [World.cell?, hB]
  have b1 : W1.cell? ⟨w.heap.size + 1, 1, none⟩ = some (.slice q2 m2 d2) := by simp [World.cell?, hB]
  have HB := Lib.hid hb1
  have H1 := Lib.hid (h1.below hb1)
  have H2 := Lib.hid (h2.below hb1)
  have H3 := Lib.hid (h3.below hb1)
  have H4 := Lib.hid (h4.below hb1)
  have HN1 := Lib.hid hn1
  have HN2 := Lib.hid hn2
  have HM1 := Lib.hid hm1
  have HM2 := Lib.hid hm2
  have HW := Lib.hid hW1
  clear h1 h2 h3 h4 hb1 hA hB hn1 hn2 hm1 hm2 hW1
  by_cases hne1 : n1 = m1
  · by_cases hne2 : n2 = m2
    · subst hne1
      subst hne2
      go_enter Tryz.func35, Tryz.ntmps35
      go_wp2_with fail
      rw [HW.out]
      go_loopw [5] (fun i wr => ∃ k n : Nat, k ≤ n1 ∧ i = .int .i64 k ∧ P.take k = P'.take k ∧ wr = W1.drewN n) (fun i _ => n1 - (intOf i).toNat)
      case atStart => exact ⟨0, 0, Nat.zero_le _, rfl, rfl, rfl⟩
      case round =>
        obtain ⟨k, n, hk, rfl, htk, rfl⟩ := hrel
        have HT := Lib.hid htk
        clear htk
        by_cases hlt : k < n1
        · obtain ⟨g1, o1, rfl, hc1⟩ := H1.out.cells (k := k) (by rw [HN1.out]; exact hlt)
          obtain ⟨g2, o2, rfl, hc2⟩ := H3.out.cells (k := k) (by rw [HM1.out]; exact hlt)
          have hx := hc1 k (by rw [HN1.out]; exact hlt)
          have hy := hc2 k (by rw [HM1.out]; exact hlt)
          have HK1 := Lib.hid (take_getD P [] k (by rw [HN1.out]; exact hlt))
          have HK2 := Lib.hid (take_getD P' [] k (by rw [HM1.out]; exact hlt))
          obtain ⟨x, hxx⟩ : ∃ x, P.getD k [] = x := ⟨_, rfl⟩
          obtain ⟨y, hyy⟩ : ∃ x, P'.getD k [] = x := ⟨_, rfl⟩
          rw [hxx] at hx HK1
          rw [hyy] at hy HK2
          have HX := Lib.hid hxx
          have HY := Lib.hid hyy
          unfold tx at hx hy
          obtain ⟨xb, hxb⟩ : ∃ z : ByteArray, (⟨x.toArray⟩ : ByteArray) = z := ⟨_, rfl⟩
          obtain ⟨yb, hyb⟩ : ∃ z : ByteArray, (⟨y.toArray⟩ : ByteArray) = z := ⟨_, rfl⟩
          rw [hxb] at hx
          rw [hyb] at hy
          have hq : (xb.toList == yb.toList) = (x == y) := by rw [← hxb, ← hyb, ByteArray.toList_eq, ByteArray.toList_eq]
          clear hxb hyb hc1 hc2 hxx hyy
          obtain ⟨d, hd⟩ : ∃ d, (x == y) = d := ⟨_, rfl⟩
          rw [hd] at hq
          have HD := Lib.hid hd
          clear hd
          cases d with
          | false =>
            have HF := Lib.hid (show decide (P = P' ∧ Q = Q') = false from decide_eq_false (fun h => beq_eq_false_iff_ne.1 HD.out (by rw [← HX.out, ← HY.out, h.1])))
            go_wp2_with fail
            go_quiet (fail)
            go_wp2_with fail
            go_ret
            exact ⟨by rw [HF.out]; rfl, HB.out.trans ⟨rfl, rfl, rfl, Nat.le_refl _, fun _ _ => rfl⟩⟩
          | true =>
            have HXY := Lib.hid (beq_iff_eq.1 HD.out)
            go_wp2_with fail
            go_quiet (fail)
            go_wp2_with fail
            go_roundw
            case rel => exact ⟨k + 1, _, hlt, by go_num, by rw [HK1.out, HK2.out, HT.out, HXY.out], rfl⟩
            case measure => simp [intOf]; omega
        · have HPP := Lib.hid (show P = P' by
            have := HT.out
            rwa [List.take_of_length_le (by rw [HN1.out]; omega), List.take_of_length_le (by rw [HM1.out]; omega)] at this)
          go_wp2_with fail
          go_loopw [6] (fun i wr => ∃ k n : Nat, k ≤ n2 ∧ i = .int .i64 k ∧ Q.take k = Q'.take k ∧ wr = W1.drewN n) (fun i _ => n2 - (intOf i).toNat)
          case atStart => exact ⟨0, _, Nat.zero_le _, rfl, rfl, rfl⟩
          case round =>
            obtain ⟨k, n, hk, rfl, htk, rfl⟩ := hrel
            have HT := Lib.hid htk
            clear htk
            by_cases hlt : k < n2
            · obtain ⟨g1, o1, rfl, hc1⟩ := H2.out.cells (k := k) (by rw [HN2.out]; exact hlt)
              obtain ⟨g2, o2, rfl, hc2⟩ := H4.out.cells (k := k) (by rw [HM2.out]; exact hlt)
              obtain ⟨hx, hx2⟩ := hc1 k (by rw [HN2.out]; exact hlt)
              obtain ⟨hy, hy2⟩ := hc2 k (by rw [HM2.out]; exact hlt)
              have HK1 := Lib.hid (take_getD Q ([], []) k (by rw [HN2.out]; exact hlt))
              have HK2 := Lib.hid (take_getD Q' ([], []) k (by rw [HM2.out]; exact hlt))
              obtain ⟨⟨x, x2⟩, hxx⟩ : ∃ x, Q.getD k ([], []) = x := ⟨_, rfl⟩
              obtain ⟨⟨y, y2⟩, hyy⟩ : ∃ x, Q'.getD k ([], []) = x := ⟨_, rfl⟩
              rw [hxx] at hx hx2 HK1
              rw [hyy] at hy hy2 HK2
              have HX := Lib.hid hxx
              have HY := Lib.hid hyy
              unfold tx at hx hy hx2 hy2
              simp only at hx hy hx2 hy2
              obtain ⟨xb, hxb⟩ : ∃ z : ByteArray, (⟨x.toArray⟩ : ByteArray) = z := ⟨_, rfl⟩
              obtain ⟨yb, hyb⟩ : ∃ z : ByteArray, (⟨y.toArray⟩ : ByteArray) = z := ⟨_, rfl⟩
              obtain ⟨xc, hxc⟩ : ∃ z : ByteArray, (⟨x2.toArray⟩ : ByteArray) = z := ⟨_, rfl⟩
              obtain ⟨yc, hyc⟩ : ∃ z : ByteArray, (⟨y2.toArray⟩ : ByteArray) = z := ⟨_, rfl⟩
              rw [hxb] at hx
              rw [hyb] at hy
              rw [hxc] at hx2
              rw [hyc] at hy2
              have hq : (xb.toList == yb.toList) = (x == y) := by rw [← hxb, ← hyb, ByteArray.toList_eq, ByteArray.toList_eq]
              have hq2 : (xc.toList == yc.toList) = (x2 == y2) := by rw [← hxc, ← hyc, ByteArray.toList_eq, ByteArray.toList_eq]
              clear hxb hyb hc1 hc2 hxx hyy hxc hyc
              obtain ⟨d, hd⟩ : ∃ d, (x == y) = d := ⟨_, rfl⟩
              obtain ⟨e, he⟩ : ∃ d, (x2 == y2) = d := ⟨_, rfl⟩
              rw [hd] at hq
              rw [he] at hq2
              have HD := Lib.hid hd
              have HE := Lib.hid he
              clear hd he
              cases d with
              | false =>
                have HF := Lib.hid (show decide (P = P' ∧ Q = Q') = false from decide_eq_false (fun h => beq_eq_false_iff_ne.1 HD.out (by have h1 := HX.out; rw [h.2, HY.out] at h1; injection h1 with h2 h3; exact h2.symm)))
                go_wp2_with fail
                go_quiet (fail)
                go_wp2_with fail
                go_ret
                exact ⟨by rw [HF.out]; rfl, HB.out.trans ⟨rfl, rfl, rfl, Nat.le_refl _, fun _ _ => rfl⟩⟩
              | true =>
                cases e with
                | false =>
                  have HF := Lib.hid (show decide (P = P' ∧ Q = Q') = false from decide_eq_false (fun h => beq_eq_false_iff_ne.1 HE.out (by have h1 := HX.out; rw [h.2, HY.out] at h1; injection h1 with h2 h3; exact h3.symm)))
                  go_wp2_with fail
                  go_quiet (fail)
                  go_wp2_with fail
                  go_ret
                  exact ⟨by rw [HF.out]; rfl, HB.out.trans ⟨rfl, rfl, rfl, Nat.le_refl _, fun _ _ => rfl⟩⟩
                | true =>
                  have HXY := Lib.hid (show x = y ∧ x2 = y2 from ⟨beq_iff_eq.1 HD.out, beq_iff_eq.1 HE.out⟩)
                  go_wp2_with fail
                  go_quiet (fail)
                  go_wp2_with fail
                  go_roundw
                  case rel => exact ⟨k + 1, _, hlt, by go_num, by rw [HK1.out, HK2.out, HT.out, HXY.out.1, HXY.out.2], rfl⟩
                  case measure => simp [intOf]; omega
            · have HQQ := Lib.hid (show Q = Q' by
                have := HT.out
                rwa [List.take_of_length_le (by rw [HN2.out]; omega), List.take_of_length_le (by rw [HM2.out]; omega)] at this)
              go_wp2_with fail
              go_ret
              exact ⟨by rw [decide_eq_true (show P = P' ∧ Q = Q' from ⟨HPP.out, HQQ.out⟩)]; rfl, HB.out.trans ⟨rfl, rfl, rfl, Nat.le_refl _, fun _ _ => rfl⟩⟩
    · subst hne1
      have HF := Lib.hid (show decide (P = P' ∧ Q = Q') = false from decide_eq_false (fun h => hne2 (by rw [← HN2.out, ← HM2.out, h.2])))
      go_enter Tryz.func35, Tryz.ntmps35
      go_wp2_with fail
      rw [HW.out]
      go_ret
      exact ⟨by rw [HF.out]; rfl, HB.out⟩
  · have HF := Lib.hid (show decide (P = P' ∧ Q = Q') = false from decide_eq_false (fun h => hne1 (by rw [← HN1.out, ← HM1.out, h.1])))
    go_enter Tryz.func35, Tryz.ntmps35
    go_wp2_with fail
    rw [HW.out]
    go_ret
    exact ⟨by rw [HF.out]; rfl, HB.out⟩
end Go.Proofs.YtfacmnooklljnaaGreatDoor

/- slices.Equal at texts and at pairs; target.Same. -/
namespace Go.Proofs.YtfacmnooklljnaaGreatDoor
set_option linter.unusedVariables false
set_option linter.unusedSimpArgs false
open Go.RowKit Go.Shelf
set_option maxHeartbeats 8000000
set_option maxRecDepth 100000
theorem sl_eqT (v1 u1 : Value) (P P' : List (List UInt8)) (w : World) (h1 : TS w v1 P) (h3 : TS w u1 P') (hl1 : P.length ≤ 100000) (hl3 : P'.length ≤ 100000) :
    Calls Tryz.prog 79 #[v1, u1] w fun e w' => e = .returned (.bool (decide (P = P'))) ∧ ∃ n, w' = w.drewN n := by
  obtain ⟨p1, c1, rfl⟩ := h1.slice
  obtain ⟨q1, d1, rfl⟩ := h3.slice
  obtain ⟨n1, hn1⟩ : ∃ n, P.length = n := ⟨_, rfl⟩
  obtain ⟨m1, hm1⟩ : ∃ n, P'.length = n := ⟨_, rfl⟩
  rw [hn1] at h1 hl1 ⊢
  rw [hm1] at h3 hl3 ⊢
  have H1 := Lib.hid h1
  have H3 := Lib.hid h3
  have HN1 := Lib.hid hn1
  have HM1 := Lib.hid hm1
  clear h1 h3 hn1 hm1
  by_cases hne1 : n1 = m1
  · subst hne1
    go_enter Tryz.func79, Tryz.ntmps79
    go_wp2_with fail
    go_loopw [13] (fun i wr => ∃ k n : Nat, k ≤ n1 ∧ i = .int .i64 k ∧ P.take k = P'.take k ∧ wr = w.drewN n) (fun i _ => n1 - (intOf i).toNat)
    case atStart => exact ⟨0, 0, Nat.zero_le _, rfl, rfl, rfl⟩
    case round =>
      obtain ⟨k, n, hk, rfl, htk, rfl⟩ := hrel
      have HT := Lib.hid htk
      clear htk
      by_cases hlt : k < n1
      · obtain ⟨g1, o1, rfl, hc1⟩ := H1.out.cells (k := k) (by rw [HN1.out]; exact hlt)
        obtain ⟨g2, o2, rfl, hc2⟩ := H3.out.cells (k := k) (by rw [HM1.out]; exact hlt)
        have hx := hc1 k (by rw [HN1.out]; exact hlt)
        have hy := hc2 k (by rw [HM1.out]; exact hlt)
        have HK1 := Lib.hid (take_getD P [] k (by rw [HN1.out]; exact hlt))
        have HK2 := Lib.hid (take_getD P' [] k (by rw [HM1.out]; exact hlt))
        obtain ⟨x, hxx⟩ : ∃ x, P.getD k [] = x := ⟨_, rfl⟩
        obtain ⟨y, hyy⟩ : ∃ x, P'.getD k [] = x := ⟨_, rfl⟩
        rw [hxx] at hx HK1
        rw [hyy] at hy HK2
        have HX := Lib.hid hxx
        have HY := Lib.hid hyy
        unfold tx at hx hy
        obtain ⟨xb, hxb⟩ : ∃ z : ByteArray, (⟨x.toArray⟩ : ByteArray) = z := ⟨_, rfl⟩
        obtain ⟨yb, hyb⟩ : ∃ z : ByteArray, (⟨y.toArray⟩ : ByteArray) = z := ⟨_, rfl⟩
        rw [hxb] at hx
        rw [hyb] at hy
        have hq : (xb.toList == yb.toList) = (x == y) := by rw [← hxb, ← hyb, ByteArray.toList_eq, ByteArray.toList_eq]
        clear hxb hyb hc1 hc2 hxx hyy
        obtain ⟨d, hd⟩ : ∃ d, (x == y) = d := ⟨_, rfl⟩
        rw [hd] at hq
        have HD := Lib.hid hd
        clear hd
        cases d with
        | false =>
          have HF := Lib.hid (show decide (P = P') = false from decide_eq_false (fun h => beq_eq_false_iff_ne.1 HD.out (by rw [← HX.out, ← HY.out, h])))
          go_wp2_with fail
          go_quiet (fail)
          go_wp2_with fail
          go_ret
          exact ⟨by rw [HF.out]; rfl, n + nq, by rw [World.drewN_drewN]⟩
        | true =>
          have HXY := Lib.hid (beq_iff_eq.1 HD.out)
          go_wp2_with fail
          go_quiet (fail)
          go_wp2_with fail
          go_roundw
          case rel => exact ⟨k + 1, _, hlt, by go_num, by rw [HK1.out, HK2.out, HT.out, HXY.out], rfl⟩
          case measure => simp [intOf]; omega
      · have HPP := Lib.hid (show P = P' by
          have := HT.out
          rwa [List.take_of_length_le (by rw [HN1.out]; omega), List.take_of_length_le (by rw [HM1.out]; omega)] at this)
        go_wp2_with fail
        go_ret
        exact ⟨by rw [decide_eq_true HPP.out]; rfl, _, rfl⟩
  · have HF := Lib.hid (show decide (P = P') = false from decide_eq_false (fun h => hne1 (by rw [← HN1.out, ← HM1.out, h])))
    go_enter Tryz.func79, Tryz.ntmps79
    go_wp2_with fail
    go_ret
    exact ⟨by rw [HF.out]; rfl, 0, rfl⟩
theorem sl_eqP (v1 u1 : Value) (P P' : List (List UInt8 × List UInt8)) (w : World) (h1 : PS w v1 P) (h3 : PS w u1 P') (hl1 : P.length ≤ 100000) (hl3 : P'.length ≤ 100000) :
    Calls Tryz.prog 80 #[v1, u1] w fun e w' => e = .returned (.bool (decide (P = P'))) ∧ ∃ n, w' = w.drewN n := by
  obtain ⟨p1, c1, rfl⟩ := h1.slice
  obtain ⟨q1, d1, rfl⟩ := h3.slice
  obtain ⟨n1, hn1⟩ : ∃ n, P.length = n := ⟨_, rfl⟩
  obtain ⟨m1, hm1⟩ : ∃ n, P'.length = n := ⟨_, rfl⟩
  rw [hn1] at h1 hl1 ⊢
  rw [hm1] at h3 hl3 ⊢
  have H1 := Lib.hid h1
  have H3 := Lib.hid h3
  have HN1 := Lib.hid hn1
  have HM1 := Lib.hid hm1
  clear h1 h3 hn1 hm1
  by_cases hne1 : n1 = m1
  · subst hne1
    go_enter Tryz.func80, Tryz.ntmps80
    go_wp2_with fail
    go_loopw [13] (fun i wr => ∃ k n : Nat, k ≤ n1 ∧ i = .int .i64 k ∧ P.take k = P'.take k ∧ wr = w.drewN n) (fun i _ => n1 - (intOf i).toNat)
    case atStart => exact ⟨0, 0, Nat.zero_le _, rfl, rfl, rfl⟩
    case round =>
      obtain ⟨k, n, hk, rfl, htk, rfl⟩ := hrel
      have HT := Lib.hid htk
      clear htk
      by_cases hlt : k < n1
      · obtain ⟨g1, o1, rfl, hc1⟩ := H1.out.cells (k := k) (by rw [HN1.out]; exact hlt)
        obtain ⟨g2, o2, rfl, hc2⟩ := H3.out.cells (k := k) (by rw [HM1.out]; exact hlt)
        obtain ⟨hx, hx2⟩ := hc1 k (by rw [HN1.out]; exact hlt)
        obtain ⟨hy, hy2⟩ := hc2 k (by rw [HM1.out]; exact hlt)
        have HK1 := Lib.hid (take_getD P ([], []) k (by rw [HN1.out]; exact hlt))
        have HK2 := Lib.hid (take_getD P' ([], []) k (by rw [HM1.out]; exact hlt))
        obtain ⟨⟨x, x2⟩, hxx⟩ : ∃ x, P.getD k ([], []) = x := ⟨_, rfl⟩
        obtain ⟨⟨y, y2⟩, hyy⟩ : ∃ x, P'.getD k ([], []) = x := ⟨_, rfl⟩
        rw [hxx] at hx hx2 HK1
        rw [hyy] at hy hy2 HK2
        have HX := Lib.hid hxx
        have HY := Lib.hid hyy
        unfold tx at hx hy hx2 hy2
        simp only at hx hy hx2 hy2
        obtain ⟨xb, hxb⟩ : ∃ z : ByteArray, (⟨x.toArray⟩ : ByteArray) = z := ⟨_, rfl⟩
        obtain ⟨yb, hyb⟩ : ∃ z : ByteArray, (⟨y.toArray⟩ : ByteArray) = z := ⟨_, rfl⟩
        obtain ⟨xc, hxc⟩ : ∃ z : ByteArray, (⟨x2.toArray⟩ : ByteArray) = z := ⟨_, rfl⟩
        obtain ⟨yc, hyc⟩ : ∃ z : ByteArray, (⟨y2.toArray⟩ : ByteArray) = z := ⟨_, rfl⟩
        rw [hxb] at hx
        rw [hyb] at hy
        rw [hxc] at hx2
        rw [hyc] at hy2
        have hq : (xb.toList == yb.toList) = (x == y) := by rw [← hxb, ← hyb, ByteArray.toList_eq, ByteArray.toList_eq]
        have hq2 : (xc.toList == yc.toList) = (x2 == y2) := by rw [← hxc, ← hyc, ByteArray.toList_eq, ByteArray.toList_eq]
        clear hxb hyb hc1 hc2 hxx hyy hxc hyc
        obtain ⟨d, hd⟩ : ∃ d, (x == y) = d := ⟨_, rfl⟩
        obtain ⟨e, he⟩ : ∃ d, (x2 == y2) = d := ⟨_, rfl⟩
        rw [hd] at hq
        rw [he] at hq2
        have HD := Lib.hid hd
        have HE := Lib.hid he
        clear hd he
        cases d with
        | false =>
          have HF := Lib.hid (show decide (P = P') = false from decide_eq_false (fun h => beq_eq_false_iff_ne.1 HD.out (by have h1 := HX.out; rw [h, HY.out] at h1; injection h1 with h2 h3; exact h2.symm)))
          go_wp2_with fail
          go_quiet (fail)
          go_wp2_with fail
          go_ret
          exact ⟨by rw [HF.out]; rfl, n + nq, by rw [World.drewN_drewN]⟩
        | true =>
          cases e with
          | false =>
            have HF := Lib.hid (show decide (P = P') = false from decide_eq_false (fun h => beq_eq_false_iff_ne.1 HE.out (by have h1 := HX.out; rw [h, HY.out] at h1; injection h1 with h2 h3; exact h3.symm)))
            go_wp2_with fail
            go_quiet (fail)
            go_wp2_with fail
            go_ret
            exact ⟨by rw [HF.out]; rfl, n + nq, by rw [World.drewN_drewN]⟩
          | true =>
            have HXY := Lib.hid (show x = y ∧ x2 = y2 from ⟨beq_iff_eq.1 HD.out, beq_iff_eq.1 HE.out⟩)
            go_wp2_with fail
            go_quiet (fail)
            go_wp2_with fail
            go_roundw
            case rel => exact ⟨k + 1, _, hlt, by go_num, by rw [HK1.out, HK2.out, HT.out, HXY.out.1, HXY.out.2], rfl⟩
            case measure => simp [intOf]; omega
      · have HPP := Lib.hid (show P = P' by
          have := HT.out
          rwa [List.take_of_length_le (by rw [HN1.out]; omega), List.take_of_length_le (by rw [HM1.out]; omega)] at this)
        go_wp2_with fail
        go_ret
        exact ⟨by rw [decide_eq_true HPP.out]; rfl, _, rfl⟩
  · have HF := Lib.hid (show decide (P = P') = false from decide_eq_false (fun h => hne1 (by rw [← HN1.out, ← HM1.out, h])))
    go_enter Tryz.func80, Tryz.ntmps80
    go_wp2_with fail
    go_ret
    exact ⟨by rw [HF.out]; rfl, 0, rfl⟩
theorem tg_Same (v1 v2 u1 u2 : Value) (P P' : List (List UInt8)) (Q Q' : List (List UInt8 × List UInt8)) (w : World) (h1 : TS w v1 P) (h2 : PS w v2 Q) (h3 : TS w u1 P') (h4 : PS w u2 Q')
    (hl1 : P.length ≤ 100000) (hl2 : Q.length ≤ 100000) (hl3 : P'.length ≤ 100000) (hl4 : Q'.length ≤ 100000) :
    Calls Tryz.prog 36 #[.agg #[v1, v2], .agg #[u1, u2]] w fun e w' => e = .returned (.bool (decide (P = P' ∧ Q = Q'))) ∧ Below w.heap.size w w' := by
  obtain ⟨p1, c1, rfl⟩ := h1.slice
  obtain ⟨p2, c2, rfl⟩ := h2.slice
  obtain ⟨q1, d1, rfl⟩ := h3.slice
  obtain ⟨q2, d2, rfl⟩ := h4.slice
  obtain ⟨n1, hn1⟩ : ∃ n, P.length = n := ⟨_, rfl⟩
  obtain ⟨n2, hn2⟩ : ∃ n, Q.length = n := ⟨_, rfl⟩
  obtain ⟨m1, hm1⟩ : ∃ n, P'.length = n := ⟨_, rfl⟩
  obtain ⟨m2, hm2⟩ : ∃ n, Q'.length = n := ⟨_, rfl⟩
  obtain ⟨W1, hW1⟩ : ∃ Z, (w.alloc (.cells #[.slice p1 n1 c1, .slice p2 n2 c2] 36)).alloc (.cells #[.slice q1 m1 d1, .slice q2 m2 d2] 36) = Z := ⟨_, rfl⟩
  have hb1 : Below w.heap.size w W1 := by rw [← hW1]; exact ((Below.refl _ _).alloc (Nat.le_refl _) _).alloc (by simp) _
  have hA : W1.heap[w.heap.size]? = some (.cells #[.slice p1 n1 c1, .slice p2 n2 c2] 36 (0, 0)) := by
    rw [← hW1, Below.heap_alloc _ _ _ (by simp)]; exact World.alloc_heap_new _ _
  have hB : W1.heap[w.heap.size + 1]? = some (.cells #[.slice q1 m1 d1, .slice q2 m2 d2] 36 (0, 0)) := by
    rw [← hW1]
    have := World.alloc_heap_new (w.alloc (.cells #[.slice p1 n1 c1, .slice p2 n2 c2] 36)) (.cells #[.slice q1 m1 d1, .slice q2 m2 d2] 36)
    simpa using this
  have a0 : W1.cell? ⟨w.heap.size, 0, none⟩ = some (.slice p1 n1 c1) := by simp [World.cell?, hA]
  have a1 : W1.cell? ⟨w.heap.size, 1, none⟩ = some (.slice p2 n2 c2) := by simp [World.cell?, hA]
  have b0 : W1.cell? ⟨w.heap.size + 1, 0, none⟩ = some (.slice q1 m1 d1) := by simp [World.cell?, hB]
  have b1 : W1.cell? ⟨w.heap.size + 1, 1, none⟩ = some (.slice q2 m2 d2) := by simp [World.cell?, hB]
  have KT := Lib.hid (sl_eqT _ _ P P' W1 (h1.below hb1) (h3.below hb1) hl1 hl3)
  have KP := Lib.hid (fun n => sl_eqP _ _ Q Q' (W1.drewN n) ((h2.below hb1).below (below_drewN (Below.refl _ _) n)) ((h4.below hb1).below (below_drewN (Below.refl _ _) n)) hl2 hl4)
  rw [hn1, hm1] at KT
  rw [hn2, hm2] at KP
  rw [hn1, hn2, hm1, hm2]
  have HB := Lib.hid hb1
  have HW := Lib.hid hW1
  obtain ⟨d, hd⟩ : ∃ d, decide (P = P') = d := ⟨_, rfl⟩
  obtain ⟨f, hf⟩ : ∃ d, decide (Q = Q') = d := ⟨_, rfl⟩
  have HDF := Lib.hid (show decide (P = P' ∧ Q = Q') = (d && f) by rw [← hd, ← hf]; simp)
  rw [hd] at KT
  rw [hf] at KP
  clear h1 h2 h3 h4 hb1 hA hB hn1 hn2 hm1 hm2 hW1 hd hf
  cases d with
  | false =>
    go_enter Tryz.func36, Tryz.ntmps36
    go_wp2_with fail
    rw [HW.out]
    refine KT.out.mono ?_
    rintro e w2 ⟨rfl, n, rfl⟩
    go_wp2_with fail
    go_ret
    exact ⟨by rw [HDF.out]; rfl, below_drewN HB.out n⟩
  | true =>
    go_enter Tryz.func36, Tryz.ntmps36
    go_wp2_with fail
    rw [HW.out]
    refine KT.out.mono ?_
    rintro e w2 ⟨rfl, n, rfl⟩
    go_wp2_with fail
    refine (KP.out n).mono ?_
    rintro e w3 ⟨rfl, m, rfl⟩
    go_wp2_with fail
    go_ret
    exact ⟨by rw [HDF.out]; rfl, below_drewN HB.out _⟩
end Go.Proofs.YtfacmnooklljnaaGreatDoor

/- slices.Clone at pairs; slices.All at pairs and its iterator. -/
namespace Go.Proofs.YtfacmnooklljnaaGreatDoor
set_option linter.unusedVariables false
set_option linter.unusedSimpArgs false
open Go.RowKit Go.Shelf
attribute [local go_sem] Oper.semAt_some
set_option maxHeartbeats 8000000
set_option maxRecDepth 100000
end Go.Proofs.YtfacmnooklljnaaGreatDoor

/- target: Pairs and its iterator. -/
namespace Go.Proofs.YtfacmnooklljnaaGreatDoor
set_option linter.unusedVariables false
set_option linter.unusedSimpArgs false
open Go.RowKit Go.Shelf
attribute [local go_sem] Oper.semAt_some
set_option maxHeartbeats 8000000
set_option maxRecDepth 100000
end Go.Proofs.YtfacmnooklljnaaGreatDoor

/- target: caught, of a frame that a range over a function has marked; WriteString, and what it leaves. -/
namespace Go.Proofs.YtfacmnooklljnaaGreatDoor
set_option linter.unusedVariables false
set_option linter.unusedSimpArgs false
open Go.RowKit Go.Shelf
set_option maxHeartbeats 4000000
set_option maxRecDepth 100000
end Go.Proofs.YtfacmnooklljnaaGreatDoor

/- A drawn region inside a round of a range over a function, by what its slots hold. -/
namespace Go.Proofs.YtfacmnooklljnaaGreatDoor
set_option linter.unusedVariables false
set_option linter.unusedSimpArgs false
open Go.RowKit
section
variable {P : Program} {ops : Array Oper} {Q : Exit → Act → World → Prop}
end
end Go.Proofs.YtfacmnooklljnaaGreatDoor

/- What a builder's WriteString leaves: all that is no bytes, but the builder. -/
namespace Go.Proofs.YtfacmnooklljnaaGreatDoor
set_option linter.unusedVariables false
set_option linter.unusedSimpArgs false
open Go.RowKit Go.Shelf
set_option maxHeartbeats 4000000
set_option maxRecDepth 100000
/-- cells that are no bytes stand, but for the blocks of Z -/
def KT (Z : Nat → Prop) (X Y : World) : Prop := ∀ k cs t fr, X.heap[k]? = some (.cells cs t fr) → t ≠ 5 → ¬ Z k → Y.heap[k]? = some (.cells cs t fr)
theorem KT.refl (Z : Nat → Prop) (X : World) : KT Z X X := fun _ _ _ _ h _ _ => h
theorem KT.trans {Z : Nat → Prop} {X Y V : World} (h : KT Z X Y) (k : KT Z Y V) : KT Z X V := fun i cs t fr h1 h2 h3 => k i cs t fr (h i cs t fr h1 h2 h3) h2 h3
theorem KT.mono {Z Z' : Nat → Prop} {X Y : World} (h : KT Z X Y) (hz : ∀ k, Z k → Z' k) : KT Z' X Y := fun i cs t fr h1 h2 h3 => h i cs t fr h1 h2 (fun e => h3 (hz i e))
theorem KT.setCell {Z : Nat → Prop} (X : World) (b i : Nat) (v : Value) (hz : Z b) : KT Z X (X.setCell ⟨b, i, none⟩ v) := fun k cs t fr h1 h2 h3 => (Below.heap_setCell _ _ _ k (fun e => h3 (by have e2 : k = b := e; rw [e2]; exact hz))).trans h1
theorem KT.below {Z : Nat → Prop} {X Y : World} (h : Below X.heap.size X Y) : KT Z X Y := fun k cs t fr h1 _ _ => (h.block k (Array.getElem?_eq_some_iff.1 h1).1).trans h1
theorem KT.drew {Z : Nat → Prop} (X : World) : KT Z X X.drew := fun _ _ _ _ h _ _ => h
theorem KT.putObj {Z : Nat → Prop} {X : World} {l : Nat} {o : Obj} (o' : Obj) (h : X.heap[l]? = some o) (hc : o.isCells = false) : KT Z X (X.putObj l o') := fun k cs t fr h1 _ _ => (World.putObj_heap_other (fun e => by subst e; rw [h] at h1; cases h1; cases hc)).trans h1
theorem KT.grown {Z : Nat → Prop} {X Y : World} {row : Option Nat} (h : X.grownBy Y row) (hr : ∀ g, row = some g → ∀ cs t fr, X.heap[g]? = some (.cells cs t fr) → t = 5) : KT Z X Y :=
  fun k cs t fr h1 h2 _ => (h.block k (Array.getElem?_eq_some_iff.1 h1).1 (fun e => h2 (hr k e.symm cs t fr h1))).trans h1
end Go.Proofs.YtfacmnooklljnaaGreatDoor

/- A drawn region whose last operation waits for all others: plain, and inside a round of a range over a function. -/
namespace Go.Proofs.YtfacmnooklljnaaGreatDoor
set_option linter.unusedVariables false
set_option linter.unusedSimpArgs false
open Go.RowKit
section
variable {P : Program} {ops : Array Oper} {Q : Exit → Act → World → Prop}
end
end Go.Proofs.YtfacmnooklljnaaGreatDoor

/- target: Text. -/
namespace Go.Proofs.YtfacmnooklljnaaGreatDoor
set_option linter.unusedVariables false
set_option linter.unusedSimpArgs false
open Go.RowKit Go.Shelf
attribute [local go_sem] Oper.semAt_some
set_option maxHeartbeats 8000000
set_option maxRecDepth 100000
namespace Gt
def by_ (k : Nat) : UInt8 := if k = 0 then 63 else 38
end Gt
theorem BD.below {b base : Nat} {X Y : World} {p : Value} {bs : List Value} (h : BD X b base p bs) (hb : Below X.heap.size X Y) : BD Y b base p bs := by
  obtain ⟨v, h1, h2⟩ := h
  exact ⟨v, (hb.block _ (Array.getElem?_eq_some_iff.1 h1).1).trans h1, h2.belowed hb⟩
/-- what the slots of the round's region hold -/
def TxF (byb kb ek vb ev : ByteArray) : Nat → World → Value → Prop
  | 0, _, v => v = .string byb
  | 1, _, v => v = .string kb
  | 2, _, v => v = .string ek
  | 3, _, v => v = .string (byb ++ ek)
  | 4, _, v => v = .string (byb ++ ek ++ (⟨#[61]⟩ : ByteArray))
  | 5, _, v => v = .string vb
  | 6, _, v => v = .string ev
  | 7, _, v => v = .string (byb ++ ek ++ (⟨#[61]⟩ : ByteArray) ++ ev)
  | _, _, _ => False
theorem TxF.below {byb kb ek vb ev : ByteArray} (i : Nat) (w w' : World) (v : Value) (h : TxF byb kb ek vb ev i w v) (hb : Below w.heap.size w w') : TxF byb kb ek vb ev i w' v := by
  match i, h with
  | 0, h | 1, h | 2, h | 3, h | 4, h | 5, h | 6, h | 7, h => exact h
  | n + 8, h => exact h.elim
end Go.Proofs.YtfacmnooklljnaaGreatDoor

/- The reference's plain, Encode. -/
namespace Go.Proofs.YtfacmnooklljnaaGreatDoor
set_option linter.unusedVariables false
set_option linter.unusedSimpArgs false
open Go.RowKit Go.Shelf
set_option maxHeartbeats 4000000
set_option maxRecDepth 100000
end Go.Proofs.YtfacmnooklljnaaGreatDoor

/- The reference's path and text of a target. -/
namespace Go.Proofs.YtfacmnooklljnaaGreatDoor
set_option linter.unusedVariables false
set_option linter.unusedSimpArgs false
open Go.RowKit Go.Shelf
set_option maxHeartbeats 8000000
set_option maxRecDepth 100000
namespace Gt
/-- a target's path: its parts, each behind a slash -/
def jpath (P : List (List UInt8)) : List UInt8 := P.flatMap fun p => 47 :: p
theorem jpath_len : ∀ (P : List (List UInt8)), (∀ p ∈ P, p.length ≤ 300) → (jpath P).length ≤ P.length * 301
  | [], _ => by simp [jpath]
  | p :: P, h => by
    have h1 := jpath_len P (fun q hq => h q (List.mem_cons_of_mem _ hq))
    have h2 := h p List.mem_cons_self
    have e : jpath (p :: P) = 47 :: p ++ jpath P := by unfold jpath; rw [List.flatMap_cons]
    rw [e]; simp; omega
end Gt
theorem ba_of (T : ByteArray) (l : List UInt8) (h : T.data.toList = l) : T = ⟨l.toArray⟩ := by cases T; subst h; simp
end Go.Proofs.YtfacmnooklljnaaGreatDoor

/- The law's num and works. -/
namespace Go.Proofs.YtfacmnooklljnaaGreatDoor
set_option linter.unusedVariables false
set_option linter.unusedSimpArgs false
open Go.RowKit Go.Shelf
set_option maxHeartbeats 8000000
set_option maxRecDepth 100000
end Go.Proofs.YtfacmnooklljnaaGreatDoor

/- The law's works. -/
namespace Go.Proofs.YtfacmnooklljnaaGreatDoor
set_option linter.unusedVariables false
set_option linter.unusedSimpArgs false
open Go.RowKit Go.Shelf
set_option maxHeartbeats 8000000
set_option maxRecDepth 100000
theorem StrRow.slice {w : World} {v : Value} {L : List (List UInt8)} (h : StrRow w v L) : ∃ p c, v = .slice p L.length c := by
  obtain ⟨p, c, rfl, _⟩ := h
  exact ⟨p, c, rfl⟩
end Go.Proofs.YtfacmnooklljnaaGreatDoor

/- What Parse and the reference's Parse answer, in one form; bounds of what is read. -/
namespace Go.Proofs.YtfacmnooklljnaaGreatDoor
set_option linter.unusedVariables false
set_option linter.unusedSimpArgs false
open Go.RowKit Go.Shelf
set_option maxHeartbeats 2000000
set_option maxRecDepth 100000
namespace Gt
abbrev Tg := List (List UInt8) × List (List UInt8 × List UInt8)
def tgOf (o : Option Tg) : Tg := o.getD ([], [])
theorem parse_bound {s : List UInt8} {P : List (List UInt8)} {Q : List (List UInt8 × List UInt8)} (h : parse s = some (P, Q)) :
    P.length ≤ s.length + 1 ∧ Q.length ≤ s.length + 1 ∧ (∀ p ∈ P, p.length ≤ s.length) ∧ ∀ q ∈ Q, q.1.length ≤ s.length ∧ q.2.length ≤ s.length := by
  cases hok : ok s with
  | false => rw [parse_bad hok] at h; cases h
  | true =>
    cases hs : all? seg (segs s) with
    | none => rw [parse_segs hok hs] at h; cases h
    | some R =>
      rw [parse_is hok hs] at h
      cases hq : all? pairOf (qrys s) with
      | none => rw [hq] at h; cases h
      | some V =>
        rw [hq] at h
        cases h
        have hl1 : ((s.take (Gs.pos 63 s)).drop 1).length ≤ s.length := by rw [List.length_drop, List.length_take]; omega
        have hl2 : (s.drop (Gs.pos 63 s + 1)).length ≤ s.length := by rw [List.length_drop]; omega
        refine ⟨?_, ?_, fun p hp => ?_, fun q hq' => ?_⟩
        · rw [all_length hs]
          have := Gs.parts_many 47 ((s.take (Gs.pos 63 s)).drop 1) []
          unfold segs
          omega
        · rw [all_length hq]
          have h1 := Gs.parts_many 38 (s.drop (Gs.pos 63 s + 1)) []
          have h2 := List.length_filter_le (fun l : List UInt8 => !l.isEmpty) (Gs.parts 38 [] (s.drop (Gs.pos 63 s + 1)))
          unfold qrys
          omega
        · obtain ⟨x, hx, hsx⟩ := all_each hs p hp
          have h1 := Gs.parts_len 47 _ [] x hx
          unfold seg at hsx
          cases hd : dec false x with
          | none => rw [hd] at hsx; cases hsx
          | some y =>
            rw [hd] at hsx
            simp only at hsx
            split at hsx
            · cases hsx
              have h2 := dec_length false _ x p (Nat.le_refl _) hd
              rw [List.length_nil, Nat.zero_add] at h1
              omega
            · cases hsx
        · obtain ⟨x, hx, hpx⟩ := all_each hq q hq'
          have hx' := (List.mem_filter.1 hx).1
          have h1 := Gs.parts_len 38 _ [] x hx'
          unfold pairOf at hpx
          cases hd : dec true (x.take (Gs.pos 61 x)) with
          | none => rw [hd] at hpx; cases hpx
          | some k =>
            rw [hd] at hpx
            simp only at hpx
            cases he : dec true (x.drop (Gs.pos 61 x + 1)) with
            | none => rw [he] at hpx; cases hpx
            | some v =>
              rw [he] at hpx
              cases hpx
              have h2 := dec_length true _ _ k (Nat.le_refl _) hd
              have h3 := dec_length true _ _ v (Nat.le_refl _) he
              rw [List.length_take] at h2
              rw [List.length_drop] at h3
              rw [List.length_nil, Nat.zero_add] at h1
              exact ⟨by simp only; omega, by simp only; omega⟩
theorem tg_bound (s : List UInt8) : (tgOf (parse s)).1.length ≤ s.length + 1 ∧ (tgOf (parse s)).2.length ≤ s.length + 1 ∧ (∀ p ∈ (tgOf (parse s)).1, p.length ≤ s.length) ∧ ∀ q ∈ (tgOf (parse s)).2, q.1.length ≤ s.length ∧ q.2.length ≤ s.length := by
  cases h : parse s with
  | none => exact ⟨by simp [tgOf], by simp [tgOf], fun p hp => by simp [tgOf] at hp, fun q hq => by simp [tgOf] at hq⟩
  | some r => exact parse_bound h
end Gt
theorem ba_back (s : ByteArray) : (⟨s.data.toList.toArray⟩ : ByteArray) = s := by cases s; simp
end Go.Proofs.YtfacmnooklljnaaGreatDoor

/- Of a text that is taken the target's text is no longer than three times that; targets that come in. -/
namespace Go.Proofs.YtfacmnooklljnaaGreatDoor
set_option linter.unusedVariables false
set_option linter.unusedSimpArgs false
open Go.RowKit Go.Shelf
set_option maxHeartbeats 2000000
set_option maxRecDepth 100000
namespace Gt
end Gt
/-- a text's bytes -/
def bsOf (o : Option Value) : List UInt8 := match o with
  | some (.string s) => s.data.toList
  | _ => []
section
variable {H : Type} {enc : TypeId × Value → H} {w : World} {base : Nat} {spare : Nat → Bool} {held : Bool}
open Go.ChangeShapes Go.WideShapes
theorem ts_in {fuel : Nat} {v : Value} {y : DataW H × List MemPlace} {r : Reach} {b0 : Nat} (hok : Cell.okWide Tryz.prog w r b0 33 v) (h : DataW.trod enc Tryz.prog w base spare held fuel 33 [v] = some y) :
    ∃ P, TS w v P ∧ (∀ p ∈ P, p.length ≤ maxLen) ∧ P.length ≤ maxLen := by
  rcases open_strings Tryz.underlying33 Tryz.underlying9 (by kernel_rfl) h with ⟨hcs, _⟩ | ⟨a, len, cap, ss, hcs, _, hl, hm, hz, _, hc, hs⟩
  · cases hcs
    exact ⟨[], .inl ⟨none, 0, rfl, rfl⟩, fun p hp => (List.not_mem_nil hp).elim, by simp⟩
  · simp only [List.cons.injEq, and_true] at hcs
    subst hcs
    obtain ⟨b, off, spot⟩ := a
    have hsp : spot = none := by
      simp only [Tryz.underlying33, Cell.okWide, Cell.ok] at hok
      exact hok.2.2.2.1
    subst hsp
    have hlen : len ≤ ss.length := by rw [hz]; split <;> omega
    refine ⟨(ss.take len).map (·.data.toList), .inr ⟨b, off, cap, by rw [List.length_map, List.length_take, Nat.min_eq_left hlen], fun j hj => ?_⟩, fun p hp => ?_, by rw [List.length_map, List.length_take]; omega⟩
    · rw [List.length_map, List.length_take, Nat.min_eq_left hlen] at hj
      have h1 := hc j (by omega)
      rw [Lib.add_plain] at h1
      rw [h1]
      have h2 : ss[j]? = some (ss.getD j ByteArray.empty) := by
        rw [List.getD_eq_getElem?_getD, List.getElem?_eq_getElem (by omega)]; rfl
      have h3 : ((ss.take len).map (·.data.toList)).getD j [] = (ss.getD j ByteArray.empty).data.toList := by
        rw [List.getD_eq_getElem?_getD, List.getElem?_map, List.getElem?_take_of_lt hj, h2]; rfl
      rw [h3]
      unfold tx
      rw [ba_back]
    · obtain ⟨s, h1, rfl⟩ := List.mem_map.1 hp
      exact hs s (List.mem_of_mem_take h1)
theorem weigh_lit {P : Program} {t : TypeId} (l : List UInt8) : l.length ∈ DataW.weights P t (.lit (.string l) : DataW H) := by simp [DataW.weights]
theorem weigh_two {P : Program} {t : TypeId} {f0 f1 : Field} (ht : P.underlying t = some (.struct #[f0, f1])) (a b : DataW H) {n : Nat} (h : n ∈ a.weights P f0.type ∨ n ∈ b.weights P f1.type) : n ∈ DataW.weights P t (.agg [a, b]) := by
  simp only [DataW.weights, ht, DataW.weightsEach, List.map_cons, List.map_nil]
  simpa using h
theorem weigh_all {P : Program} {e : TypeId} {d : DataW H} {n : Nat} (hn : n ∈ d.weights P e) : ∀ {l : List (DataW H)}, d ∈ l → n ∈ DataW.weightsAll P e l
  | x :: l, h => by
    simp only [DataW.weightsAll, List.mem_append]
    rcases List.mem_cons.1 h with rfl | h
    · exact .inl hn
    · exact .inr (weigh_all hn h)
theorem weigh_slice {P : Program} {t e : TypeId} (ht : P.underlying t = some (.slice e)) {d : DataW H} {a b : List (DataW H)} {n : Nat} (hd : d ∈ a) (hn : n ∈ d.weights P e) : n ∈ DataW.weights P t (.slice a b) := by
  simp only [DataW.weights, ht, List.mem_cons, List.mem_append]
  exact .inr (.inl (weigh_all hn hd))
theorem ps_in {fuel : Nat} {v : Value} {y : DataW H × List MemPlace} {r : Reach} {b0 : Nat} (hok : Cell.okWide Tryz.prog w r b0 34 v) (h : DataW.trod enc Tryz.prog w base spare held fuel 34 [v] = some y) (hwt : ∀ n ∈ y.1.weights Tryz.prog 34, n ≤ reachBytes) :
    ∃ Q, PS w v Q ∧ (∀ q ∈ Q, q.1.length ≤ reachBytes ∧ q.2.length ≤ reachBytes) ∧ Q.length ≤ maxLen := by
  rcases DataW.trod_slice Tryz.underlying34 h with ⟨hcs, _⟩ | ⟨a, len, cap, elems, rest, n, _, hcs, hyd, hb, hl, hm, hlen, hel, _, _⟩
  · cases hcs
    exact ⟨[], .inl ⟨rfl, rfl⟩, fun p hp => (List.not_mem_nil hp).elim, by simp⟩
  · simp only [List.cons.injEq, and_true] at hcs
    subst hcs
    obtain ⟨b, off, spot⟩ := a
    have hsp : spot = none := by
      simp only [Tryz.underlying34, Cell.okWide, Cell.ok] at hok
      exact hok.2.2.2.1
    subst hsp
    have hc2 : Tryz.prog.cellsOf 93 = 2 := by kernel_rfl
    have each : ∀ j, j < len → ∃ k v : ByteArray, w.cell? ⟨b, off + j * 2, none⟩ = some (.string k) ∧ w.cell? ⟨b, off + j * 2 + 1, none⟩ = some (.string v) ∧ k.size ≤ reachBytes ∧ v.size ≤ reachBytes := by
      intro j hj
      have h1 := hel j hj
      rw [List.getElem?_eq_getElem (by omega), Option.bind_eq_some_iff] at h1
      obtain ⟨cs, h2, h3⟩ := h1
      have h6 := (World.cells?_some h2).2
      match cs, h6.1, h3, h6.2 with
      | [c0, c1], _, h3, h6 =>
        obtain ⟨y0, y1, n', hx, _, h4, h5⟩ := trod_struct2 Tryz.underlying93 h3
        have hc1 : Tryz.prog.cellsOf 9 = 1 := by kernel_rfl
        have h7 := h6 0 (by rw [hc2]; omega)
        have h8 := h6 1 (by rw [hc2]; omega)
        simp only [hc2, Lib.add_plain, List.getElem?_cons_zero, List.getElem?_cons_succ, Nat.add_zero] at h7 h8
        simp [hc1] at h4 h5
        obtain ⟨k, hk, hy0, hks⟩ := DataW.trod_string Tryz.underlying9 h4
        obtain ⟨u, hu, hy1, hus⟩ := DataW.trod_string Tryz.underlying9 h5
        simp only [List.cons.injEq, and_true] at hk hu
        subst hk
        subst hu
        have hin : (elems[j]'(by omega)).1 ∈ elems.map (·.1) := List.mem_map_of_mem (List.getElem_mem _)
        have hle : ∀ n ∈ (elems[j]'(by omega)).1.weights Tryz.prog 93, n ≤ reachBytes := fun n hn => hwt n (by rw [hyd]; exact weigh_slice Tryz.underlying34 hin hn)
        rw [hx, hy0, hy1] at hle
        exact ⟨k, u, h7, h8, hle _ (weigh_two Tryz.underlying93 _ _ (.inl (weigh_lit k.data.toList))), hle _ (weigh_two Tryz.underlying93 _ _ (.inr (weigh_lit u.data.toList)))⟩
    refine ⟨(List.range len).map fun j => (bsOf (w.cell? ⟨b, off + j * 2, none⟩), bsOf (w.cell? ⟨b, off + j * 2 + 1, none⟩)), .inr ⟨b, off, cap, by simp, fun j hj => ?_⟩, fun q hq => ?_, by simp; omega⟩
    · simp only [List.length_map, List.length_range] at hj
      obtain ⟨k, u, h1, h2, _⟩ := each j hj
      have e : (((List.range len).map fun j => (bsOf (w.cell? ⟨b, off + j * 2, none⟩), bsOf (w.cell? ⟨b, off + j * 2 + 1, none⟩))).getD j ([], [])) = (k.data.toList, u.data.toList) := by
        rw [List.getD_eq_getElem?_getD, List.getElem?_map, List.getElem?_range hj]
        simp only [Option.map_some, Option.getD_some, h1, h2, bsOf]
      rw [e]
      unfold tx
      rw [ba_back, ba_back]
      exact ⟨h1, h2⟩
    · obtain ⟨j, hj, rfl⟩ := List.mem_map.1 hq
      obtain ⟨k, u, h1, h2, h3, h4⟩ := each j (List.mem_range.1 hj)
      simp only [h1, h2, bsOf]
      exact ⟨h3, h4⟩
end
end Go.Proofs.YtfacmnooklljnaaGreatDoor

/- The law's few: a target that is looked at is small. -/
namespace Go.Proofs.YtfacmnooklljnaaGreatDoor
set_option linter.unusedVariables false
set_option linter.unusedSimpArgs false
open Go.RowKit Go.Shelf
set_option maxHeartbeats 8000000
set_option maxRecDepth 100000
end Go.Proofs.YtfacmnooklljnaaGreatDoor

/- TargetHolds returns true for any target and any text: the walk. -/
namespace Go.Proofs.YtfacmnooklljnaaGreatDoor
set_option linter.unusedVariables false
set_option linter.unusedSimpArgs false
open Go.RowKit Go.Shelf
set_option maxHeartbeats 8000000
set_option maxRecDepth 100000
theorem TS.sr {w : World} {v : Value} {L : List (List UInt8)} (h : TS w v L) : SR w v (L.map fun l => ⟨l.toArray⟩) := by
  rcases h with ⟨p, c, rfl, rfl⟩ | ⟨b, off, cap, rfl, h3⟩
  · exact .inl ⟨p, c, rfl, rfl⟩
  · cases L with
    | nil => exact .inl ⟨some ⟨b, off, none⟩, cap, rfl, rfl⟩
    | cons x L =>
      have h0 := h3 0 (by simp)
      refine .inr ⟨b, off, cap, by simp, lt_of_cell h0, fun j hj => ?_⟩
      rw [List.length_map] at hj
      rw [h3 j hj, List.getElem_map]
      simp only [tx, List.getD_eq_getElem?_getD, List.getElem?_eq_getElem hj, Option.getD_some]
end Go.Proofs.YtfacmnooklljnaaGreatDoor

/- target.Path of parts. -/
namespace Go.Proofs.YtfacmnooklljnaaGreatDoor
set_option linter.unusedVariables false
set_option linter.unusedSimpArgs false
open Go.RowKit Go.Shelf
set_option maxHeartbeats 8000000
set_option maxRecDepth 100000
theorem tg_madeO (f : FuncId) (g : List UInt8 → Option (List UInt8)) (v : Value) (L : List ByteArray) (w : World) (hv : SR w v L) (hL : L.length ≤ 100000)
    (hce : ∀ args W, (callFunc f args).run Tryz.prog W = .ok (.enter f args) W)
    (hf : ∀ s ∈ L, ∀ W, Calls Tryz.prog f #[.string s] W fun e w' => e = decEnd (g s.data.toList) ∧ Below W.heap.size W w') :
    Calls Tryz.prog 49 #[.func (.func f) #[] #[], v] w fun e w' =>
      ((∃ R r, Gt.all? g (L.map (·.data.toList)) = some R ∧ e = .returned r ∧ ∃ B, w'.ownsRow B 9 1 r R.length (R.map tx)) ∨ (Gt.all? g (L.map (·.data.toList)) = none ∧ e = .panicked [{ v := errno 210, recovered := false }])) ∧ Below w.heap.size w w' := by
  obtain ⟨i0, hi, hz0, hz1, hz2⟩ := info_parts (show (Tryz.prog.info? 9).map (fun i => (i.zero, i.size, i.bytes)) = some (some (.string ByteArray.empty), 1, 16) by kernel_rfl)
  obtain ⟨B, hB⟩ : ∃ B, w.heap.size = B := ⟨_, rfl⟩
  rw [hB]
  rcases hv with ⟨p0, c0, rfl, rfl⟩ | ⟨b, off, cap, rfl, hb, hc⟩
  · go_enter Tryz.func49, Tryz.ntmps49
    go_wp2_with fail
    go_loopw [4, 9] (fun v i wr => v = .slice none 0 0 ∧ i = .int .i64 0 ∧ wr = w) (fun _ _ _ => 0)
    case atStart => exact ⟨rfl, rfl, rfl⟩
    case round =>
      obtain ⟨rfl, rfl, rfl⟩ := hrel
      go_wp2_with fail
      go_ret
      exact ⟨.inl ⟨[], _, rfl, rfl, ⟨0, World.ownsRow_nil _ _ _ _⟩⟩, Below.refl _ _⟩
  · have HC := Lib.hid hc
    have HF := Lib.hid hf
    obtain ⟨N, hN⟩ : ∃ N, L.length = N := ⟨_, rfl⟩
    have HNL := Lib.hid hN
    have HBB := Lib.hid hb
    rw [hN] at hL ⊢
    obtain ⟨M, hM⟩ : ∃ M, L.map (·.data.toList) = M := ⟨_, rfl⟩
    rw [hM]
    have HML := Lib.hid (show M.length = N by rw [← hM, List.length_map, hN])
    have HM := Lib.hid hM
    clear hc hf hM hN hb
    go_enter Tryz.func49, Tryz.ntmps49
    go_wp2_with fail
    go_loopw [4, 9] (fun v i wr => ∃ (k : Nat) (acc : List (List UInt8)), k ≤ N ∧ i = .int .i64 k ∧ Gt.AAt g M acc k ∧ wr.ownsRow B 9 1 v acc.length (acc.map tx) ∧ Below B w wr)
      (fun _ i _ => N - (intOf i).toNat)
    case atStart => exact ⟨0, [], Nat.zero_le _, rfl, Gt.aAt_start _ _, World.ownsRow_nil _ _ _ _, Below.refl _ _⟩
    case round =>
      obtain ⟨k, acc, hk, rfl, hat, hown, hbl⟩ := hrel
      have HA := Lib.hid hat
      have HO := Lib.hid hown
      have HBL := Lib.hid hbl
      clear hat hown hbl
      by_cases hlt : k < N
      · have hkl : k < L.length := by have := HNL.out; omega
        have HBW := Lib.hid (show b < B by rw [← hB]; exact HBB.out)
        have hck : wr.cell? ⟨b, off + k, none⟩ = some (.string L[k]) := (HBL.out.cell (p := ⟨b, off + k, none⟩) HBW.out).trans (HC.out k hkl)
        obtain ⟨S, hS⟩ : ∃ S, L[k] = S := ⟨_, rfl⟩
        rw [hS] at hck
        have HKM := Lib.hid (show k < M.length by rw [HML.out]; exact hlt)
        have HMK := Lib.hid (show M[k]'HKM.out = S.data.toList by
          have : M[k]? = some S.data.toList := by rw [← HM.out, List.getElem?_map, List.getElem?_eq_getElem hkl, hS]; rfl
          exact (List.getElem?_eq_some_iff.1 this).2)
        have K := Lib.hid (HF.out S (by rw [← hS]; exact List.getElem_mem _) wr)
        clear hS hkl
        cases hg : g S.data.toList with
        | none =>
          rw [hg] at K
          have HN := Lib.hid (Gt.aAt_bad HA.out HKM.out (by rw [HMK.out]; exact hg))
          clear hg
          go_wp2_with fail
          refine K.out.mono ?_
          rintro e w2 ⟨rfl, hb2⟩
          exact ⟨rfl, .inr ⟨HN.out, rfl⟩, HBL.out.trans (hb2.mono (hB ▸ HBL.out.size))⟩
        | some q =>
          rw [hg] at K
          have HN := Lib.hid (Gt.aAt_next HA.out HKM.out (by rw [HMK.out]; exact hg))
          clear hg
          go_wp2_with fail
          refine K.out.mono ?_
          rintro e w2 ⟨rfl, hb2⟩
          have HB2 := Lib.hid (HBL.out.trans (hb2.mono (hB ▸ HBL.out.size)))
          have HO2 := Lib.hid (show w2.ownsRow B 9 1 _ acc.length (acc.map tx) from HO.out.belowed hb2)
          simp only [decEnd]
          obtain ⟨qb, hqb⟩ : ∃ z : ByteArray, (⟨q.toArray⟩ : ByteArray) = z := ⟨_, rfl⟩
          rw [hqb]
          have HTQ := Lib.hid (show tx q = .string qb by unfold tx; rw [hqb])
          clear hb2 hqb K
          go_wp2_with (at_builtin; refine wpList_append_own _ rfl _ _ 33 rfl B 9 i0 (.string ByteArray.empty) 1 16 Tryz.underlying33 hi hz0 hz1 hz2 rfl (by decide) _ _ _ rfl (HO2.out.alloc _) ⟨w2.heap.size, 0, none⟩ 1 1 [.string qb] rfl rfl ?c1 ?c2 ?c3 ?c4 ?c5 ?_)
          case c1 =>
            intro j u hj
            match j, hj with
            | 0, hj => simp at hj; subst hj; simp [Addr.add]
          case c2 => intro u hu; simp at hu; subst hu; rfl
          case c3 => have := HA.out.2.1; unfold maxLen; omega
          case c4 => have := HA.out.2.1; omega
          case c5 => have := HB2.out.size; simp; omega
          intro v' w3 hown' hgrow _
          have HB3 := Lib.hid (show Below B w w3 from Below.grown (HB2.out.alloc (by have := HB2.out.size; omega) _) hgrow (by have := HB2.out.size; simp; omega) (own_ge HO2.out))
          have HO3 := Lib.hid (show w3.ownsRow B 9 1 v' (acc ++ [q]).length ((acc ++ [q]).map tx) by
            rw [List.map_append, List.length_append]
            show w3.ownsRow B 9 1 v' _ (_ ++ [tx q])
            rw [HTQ.out]
            exact hown')
          clear hgrow hown'
          go_wp2
          go_roundw
          case rel => exact ⟨k + 1, acc ++ [q], hlt, by go_num, HN.out, HO3.out, HB3.out⟩
          case measure => simp [intOf]; omega
      · have HE := Lib.hid (Gt.aAt_end HA.out (by rw [HML.out]; omega))
        go_wp2_with fail
        go_ret
        exact ⟨.inl ⟨acc, _, HE.out, rfl, ⟨_, HO.out⟩⟩, HBL.out⟩
theorem tg_path1 (s : ByteArray) (w : World) (hs : s.size ≤ 100000) :
    Calls Tryz.prog 138 #[.string s] w fun e w' => e = decEnd (some (47 :: s.data.toList)) ∧ Below w.heap.size w w' := by
  have HQ := Lib.hid (show (⟨#[47]⟩ ++ s : ByteArray) = ⟨(47 :: s.data.toList).toArray⟩ from ba_of _ _ (by simp [ByteArray.data_append]))
  go_enter Tryz.func138, Tryz.ntmps138
  go_wp2_with fail
  go_ret
  refine ⟨?_, Below.refl _ _⟩
  show Ending.returned (.string (⟨#[47]⟩ ++ s)) = Ending.returned (.string ⟨(47 :: s.data.toList).toArray⟩)
  rw [HQ.out]
theorem path1_enter (args : Array Value) (W : World) : (callFunc 138 args).run Tryz.prog W = .ok (.enter 138 args) W := by
  simp [callFunc, go_sem, Tryz.func138]
  rw [if_neg (by decide), if_neg (by decide)]
namespace Gt
theorem join_none : ∀ L : List (List UInt8), Lib.join L [] = L.flatten
  | [] => rfl
  | [x] => by simp [Lib.join]
  | x :: y :: L => by
    have h := join_none (y :: L)
    unfold Lib.join at h ⊢
    rw [List.intercalate_cons_cons, h]; simp
theorem join_path (P : List (List UInt8)) : Lib.join (P.map fun p => 47 :: p) [] = jpath P := by
  rw [join_none]; unfold jpath; rw [List.flatMap_def]
theorem all_const {α β : Type} (f : α → β) : ∀ L : List α, all? (fun x => some (f x)) L = some (L.map f)
  | [] => rfl
  | x :: L => by unfold all?; simp [all_const f L]
end Gt
theorem join_path_own {w : World} {B : Nat} {v : Value} (L : List (List UInt8)) (h : w.ownsRow B 9 1 v L.length (L.map tx)) (hj : (Lib.join L []).length ≤ 140737488355328) (hl : L.length ≤ 100000) :
    Calls Tryz.prog 115 #[v, .string ⟨#[]⟩] w fun e w' => e = .returned (.string ⟨(Lib.join L []).toArray⟩) ∧ Below w.heap.size w w' := by
  cases L with
  | nil =>
    rcases h.2 with ⟨rfl, h0⟩ | ⟨g, cap, cur, rfl, hBg, hg, hnc, _, hcs, htk⟩
    · exact (Tryz.strings_Join_none none 0 ⟨#[]⟩ w).mono (fun e w' h => ⟨h.1, by rw [h.2]; exact Below.refl _ _⟩)
    · exact (Tryz.strings_Join_none _ _ ⟨#[]⟩ w).mono (fun e w' h => ⟨h.1, by rw [h.2]; exact Below.refl _ _⟩)
  | cons x L' =>
    obtain ⟨L, hL⟩ : ∃ L, x :: L' = L := ⟨_, rfl⟩
    have hp : 0 < L.length := by rw [← hL]; simp
    rw [hL] at h hj hl ⊢
    rcases h.2 with ⟨rfl, h0⟩ | ⟨g, cap, cur, rfl, hBg, hg, hnc, _, hcs, htk⟩
    · omega
    · have hlt : g < w.heap.size := (Array.getElem?_eq_some_iff.1 hg).1
      have hm : (L.map fun l => (⟨l.toArray⟩ : ByteArray)).map (·.data.toList) = L := by
        rw [List.map_map]
        conv => rhs; rw [← List.map_id L]
        refine List.map_congr_left (fun l _ => ?_)
        simp
      have K := Tryz.strings_Join g 0 cap (L.map fun l => (⟨l.toArray⟩ : ByteArray)) ⟨#[]⟩ w (fun j x hx => by
        rw [List.getElem?_map] at hx
        cases hLj : L[j]? with
        | none => rw [hLj] at hx; cases hx
        | some l =>
          rw [hLj] at hx
          cases hx
          have hjl : j < L.length := (List.getElem?_eq_some_iff.1 hLj).1
          have h1 : cur.toList[j]? = some (tx l) := by
            have h2 : (cur.toList.take (L.length * 1))[j]? = some (tx l) := by rw [htk, List.getElem?_map, hLj]; rfl
            rwa [List.getElem?_take_of_lt (by omega)] at h2
          rw [Nat.zero_add]
          simp only [World.cell?, hg, Option.isSome_none, Bool.false_eq_true, if_false]
          rw [Array.getElem?_toList] at h1
          exact h1) hlt (by rw [List.length_map]; omega) (by rw [List.length_map]; exact hnc) (by rw [hm]; exact hj)
      rw [hm, List.length_map] at K
      exact K
theorem tg_Path (v1 : Value) (P : List (List UInt8)) (w : World) (h1 : TS w v1 P) (hP : P.length ≤ 300) (hs : ∀ p ∈ P, p.length ≤ 300) (p2 : Option Addr) (n2 c2 : Nat) :
    Calls Tryz.prog 113 #[.agg #[v1, .slice p2 n2 c2]] w fun e w' => e = .returned (.string ⟨(Gt.jpath P).toArray⟩) ∧ Below w.heap.size w w' := by
  obtain ⟨p1, c1, rfl⟩ := h1.slice
  obtain ⟨n1, hn1⟩ : ∃ n, P.length = n := ⟨_, rfl⟩
  have hJL : (Gt.jpath P).length ≤ 140737488355328 := by
    have h1 := Gt.jpath_len P hs
    have h3 := Nat.mul_le_mul_right 301 hP
    omega
  obtain ⟨W1, hW1⟩ : ∃ Z, w.alloc (.cells #[.slice p1 n1 c1, .slice p2 n2 c2] 36) = Z := ⟨_, rfl⟩
  have hb1 : Below w.heap.size w W1 := by rw [← hW1]; exact (Below.refl _ _).alloc (Nat.le_refl _) _
  have KM := tg_madeO 138 (fun l => some (47 :: l)) _ _ W1 (h1.below hb1).sr (by simp; omega) path1_enter (fun s hs' W => tg_path1 s W (by
    obtain ⟨p, hp, rfl⟩ := List.mem_map.1 hs'
    have := hs p hp
    simp [ByteArray.size]; omega))
  rw [Gt.all_const, List.map_map, List.map_map, show ((List.cons 47 ∘ fun x : ByteArray => x.data.toList) ∘ fun l : List UInt8 => (⟨l.toArray⟩ : ByteArray)) = (fun p => 47 :: p) from by funext l; simp, hn1] at KM
  rw [hn1] at h1 ⊢
  have hA : W1.heap[w.heap.size]? = some (.cells #[.slice p1 n1 c1, .slice p2 n2 c2] 36 (0, 0)) := by
    rw [← hW1]; exact World.alloc_heap_new _ _
  have a0 : W1.cell? ⟨w.heap.size, 0, none⟩ = some (.slice p1 n1 c1) := by simp [World.cell?, hA]
  have HB := Lib.hid hb1
  have HK := Lib.hid KM
  have HW := Lib.hid hW1
  have HN1 := Lib.hid hn1
  have HJL := Lib.hid hJL
  clear h1 hb1 KM hA hW1 hs hn1 hJL
  go_enter Tryz.func113, Tryz.ntmps113
  go_wp2_with fail
  rw [HW.out]
  refine HK.out.mono ?_
  rintro e w2 ⟨⟨R, r, hR, rfl, hrow⟩ | ⟨hR, _⟩, hb2⟩
  · cases hR
    obtain ⟨B, hrow⟩ := hrow
    have KJ := Lib.hid (join_path_own _ hrow (by rw [Gt.join_path]; exact HJL.out) (by have := HN1.out; rw [List.length_map]; omega))
    have HB2 := Lib.hid (HB.out.trans (hb2.mono HB.out.size))
    obtain ⟨pr, cr, hr⟩ := own_slice hrow
    rw [List.length_map, HN1.out] at hr
    subst hr
    rw [Gt.join_path] at KJ
    clear hrow hb2 a0
    go_wp2_with fail
    refine KJ.out.mono ?_
    rintro e w3 ⟨rfl, hb3⟩
    have HB3 := Lib.hid (HB2.out.trans (hb3.mono HB2.out.size))
    clear hb3
    go_wp2_with fail
    go_ret
    exact ⟨rfl, HB3.out⟩
  · cases hR
end Go.Proofs.YtfacmnooklljnaaGreatDoor

/- request: the rule that asks what is taken. No conditions but those that each law states. -/
namespace Go.Proofs.YtfacmnooklljnaaGreatDoor
set_option linter.unusedVariables false
set_option linter.unusedSimpArgs false
open Go.RowKit Go.Shelf
attribute [local go_sem] Oper.semAt_some
set_option maxHeartbeats 8000000
set_option maxRecDepth 100000
theorem rq_r6 (A : Nat) (F : ByteArray) (V : Value) (fs : List Hp.Hd) (m v : ByteArray) (P : Value) (L : List (List UInt8)) (p2 : Option Addr) (n2 c2 : Nat) (w : World) (h : LkW w A F V fs m v P (.slice p2 n2 c2))
    (hT : TS w P L) (hL : L.length ≤ 300) (hs : ∀ p ∈ L, p.length ≤ 300) (hj : (Rq.joined Rq.nAcc fs).length ≤ 100000) :
    Calls Tryz.prog 111 #[.pointer (some ⟨A, 0, none⟩)] w fun e w' => e = .returned (.bool (takesB (Ap.qual (Rq.joined Rq.nAcc fs) Rq.tTx Rq.tEv) || (Gt.jpath L == Rq.pHealth))) ∧ Below w.heap.size w w' := by
  have KG := Lib.hid (rq_get A F ⟨#[97, 99, 99, 101, 112, 116]⟩ V fs m v P (.slice p2 n2 c2) w h (by decide))
  unfold getV at KG
  have KT := fun W => ac_Takes ⟨(Rq.joined Rq.nAcc fs).toArray⟩ ⟨#[116, 101, 120, 116]⟩ ⟨#[101, 118, 101, 110, 116, 45, 115, 116, 114, 101, 97, 109]⟩ W (by rw [ba_size]; exact hj)
  rw [show (⟨#[116, 101, 120, 116]⟩ : ByteArray).toList = Rq.tTx from ba_list Rq.tTx, show (⟨#[101, 118, 101, 110, 116, 45, 115, 116, 114, 101, 97, 109]⟩ : ByteArray).toList = Rq.tEv from ba_list Rq.tEv] at KT
  simp only at KT
  obtain ⟨jb, hjb⟩ : ∃ y : ByteArray, (⟨(Rq.joined Rq.nAcc fs).toArray⟩ : ByteArray) = y := ⟨_, rfl⟩
  obtain ⟨k, hk⟩ : ∃ k, Rq.many Rq.nAcc fs = k := ⟨_, rfl⟩
  obtain ⟨x, hx⟩ : ∃ x, takesB (Ap.qual (Rq.joined Rq.nAcc fs) Rq.tTx Rq.tEv) = x := ⟨_, rfl⟩
  obtain ⟨y, hy⟩ : ∃ x, (Gt.jpath L == Rq.pHealth) = x := ⟨_, rfl⟩
  obtain ⟨pb, hpb⟩ : ∃ z : ByteArray, (⟨(Gt.jpath L).toArray⟩ : ByteArray) = z := ⟨_, rfl⟩
  have KP := Lib.hid (fun W (hb : Below w.heap.size w W) => tg_Path P L W (hT.below hb) hL hs p2 n2 c2)
  rw [hpb] at KP
  have e1 : (pb.toList == ([47, 104, 101, 97, 108, 116, 104] : List UInt8)) = y := by rw [← hpb, ba_list]; exact hy
  rw [show (⟨#[97, 99, 99, 101, 112, 116]⟩ : ByteArray).data.toList = Rq.nAcc from rfl, hjb, hk] at KG
  rw [hjb, hx] at KT
  have HKT := Lib.hid KT
  have HH := Lib.hid h
  obtain ⟨pp, pc, rfl⟩ := hT.slice
  rw [hx, hy]
  clear hjb hk hx hy hpb KT h hT
  go_enter Tryz.func111, Tryz.ntmps111
  go_wp2_with fail
  refine KG.out.mono ?_
  rintro e w2 ⟨rfl, hb⟩
  have HB := Lib.hid hb
  clear hb KG
  go_wp2_with fail
  refine (HKT.out _).mono ?_
  rintro e w3 ⟨rfl, hb⟩
  have HB3 := Lib.hid (HB.out.trans (hb.mono HB.out.size))
  clear hb
  obtain ⟨c0, c1, c2, c3, c4, c5⟩ := lk_cells (HH.out.below HB3.out).c
  cases x with
  | true =>
    go_wp2_with fail
    exact bodyPost_ret (v := .bool true) (by simp [results, Tryz.results111, go_sem]) rfl ⟨by simp, HB3.out⟩
  | false =>
    go_wp2_with fail
    refine (KP.out _ HB3.out).mono ?_
    rintro e w4 ⟨rfl, hb⟩
    have HB4 := Lib.hid (HB3.out.trans (hb.mono HB3.out.size))
    clear hb
    go_wp2_with fail
    exact bodyPost_ret (v := .bool y) (by simp [results, Tryz.results111, go_sem]) rfl ⟨by simp, HB4.out⟩
end Go.Proofs.YtfacmnooklljnaaGreatDoor

/- response: a prefix cut off, must, caught, valid, get, status, lone. No conditions but those that each law states. -/
namespace Go.Proofs.YtfacmnooklljnaaGreatDoor
set_option linter.unusedVariables false
set_option linter.unusedSimpArgs false
open Go.RowKit Go.Shelf
set_option maxHeartbeats 4000000
set_option maxRecDepth 100000
namespace Rs
def pre0 : List UInt8 := [72, 84, 84, 80, 47, 49, 46, 48, 32]
/-- what stands behind the version -/
def rest (F : List UInt8) : Option (List UInt8) := if F.take 9 = pre0 then some (F.drop 9) else if F.take 9 = Hp.http then some (F.drop 9) else none
def code (r : List UInt8) : List UInt8 := (Lib.cut r [32]).1
/-- a first line's status -/
def status (F : List UInt8) : Option Int := match rest F with
  | none => none
  | some r => if (code r).length = 3 ∧ Dp.numE 10 (code r) = 0 ∧ 100 ≤ Dp.numN 10 (code r) ∧ Dp.numN 10 (code r) ≤ 599 then some (Dp.numN 10 (code r)) else none
end Rs
/-- the cells that strings.Cut asks for -/
structure KR (w : World) : Prop where
  mx : ∃ m, w.cell? ⟨0, 0, none⟩ = some (.int .i64 m)
  pos : 0 < w.heap.size
theorem KR.below {w w' : World} (h : KR w) (hb : Below w.heap.size w w') : KR w' := by
  obtain ⟨⟨m, hm⟩, hp⟩ := h
  exact ⟨⟨m, (hb.cell (p := ⟨0, 0, none⟩) hp).trans hm⟩, Nat.lt_of_lt_of_le hp hb.size⟩
theorem sl_hasprefix (s t : ByteArray) (w : World) (hs : s.size ≤ 9223372036854775807) (ht : t.size ≤ 100000) :
    Calls Tryz.prog 118 #[.string s, .string t] w fun e w' => e = .returned (.bool (decide (s.data.toList.take t.size = t.data.toList))) ∧ w' = w := by
  by_cases h : t.size ≤ s.size
  · have hI : ((t.size : Int) ≤ (s.size : Int)) := by omega
    have hsl := fun W => slice_to s W t.size h hs
    have hd : ((s.extract 0 t.size).toList == t.toList) = decide (s.data.toList.take t.size = t.data.toList) := by
      rw [ByteArray.toList_eq, ByteArray.toList_eq, Lib.extract_data]
      simp
      by_cases e : List.take t.size s.data.toList = t.data.toList
      · rw [e]; simp
      · simp [e]
    obtain ⟨x, hx⟩ : ∃ z : ByteArray, s.extract 0 t.size = z := ⟨_, rfl⟩
    rw [hx] at hd
    simp only [hx] at hsl
    obtain ⟨d, hdd⟩ : ∃ d, decide (s.data.toList.take t.size = t.data.toList) = d := ⟨_, rfl⟩
    rw [hdd] at hd ⊢
    clear hx hdd
    go_enter Tryz.func118, Tryz.ntmps118
    go_wp2_with fail
    go_ret
    exact ⟨rfl, rfl⟩
  · have hI : ¬ ((t.size : Int) ≤ (s.size : Int)) := by omega
    have hd : decide (s.data.toList.take t.size = t.data.toList) = false := decide_eq_false (fun e => h (by
      have h1 := congrArg List.length e
      rw [List.length_take] at h1
      have h2 : s.data.toList.length = s.size := rfl
      have h3 : t.data.toList.length = t.size := rfl
      omega))
    rw [hd]
    clear hd
    go_enter Tryz.func118, Tryz.ntmps118
    go_wp2_with fail
    go_ret
    exact ⟨rfl, rfl⟩
theorem sl_cutprefix (s t : ByteArray) (w : World) (hs : s.size ≤ 9223372036854775807) (ht : t.size ≤ 100000) :
    Calls Tryz.prog 103 #[.string s, .string t] w fun e w' => e = .returned (.tuple #[.string (if s.data.toList.take t.size = t.data.toList then s.extract t.size s.size else s), .bool (decide (s.data.toList.take t.size = t.data.toList))]) ∧ w' = w := by
  have K := Lib.hid (sl_hasprefix s t w hs ht)
  have K2 : Hid (Calls Tryz.prog 135 #[.string s, .string t] w fun e w' => e = .returned (.tuple #[.string (if s.data.toList.take t.size = t.data.toList then s.extract t.size s.size else s), .bool (decide (s.data.toList.take t.size = t.data.toList))]) ∧ w' = w) := by
    refine Lib.hid ?_
    by_cases e : s.data.toList.take t.size = t.data.toList
    · rw [decide_eq_true e] at K ⊢
      rw [if_pos e]
      have hle : t.size ≤ s.size := by
        have h1 := congrArg List.length e
        rw [List.length_take] at h1
        have h2 : s.data.toList.length = s.size := rfl
        have h3 : t.data.toList.length = t.size := rfl
        omega
      have hsl : ∀ W, (Instr.slice 9 (.string s) (some (.int .i64 (t.size : Int))) none none).run Tryz.prog W = .ok (.string (s.extract t.size s.size)) W := fun W => by
        have h2 : (t.size : Int) ≤ s.size := by omega
        simp [go_sem, Tryz.underlying9, h2]
      clear e
      go_enter Tryz.func135, Tryz.ntmps135
      go_wp2_with fail
      refine K.out.mono ?_
      rintro e w2 ⟨rfl, hw⟩
      subst hw
      go_wp2_with fail
      simp [bodyPost, results, Tryz.results135, go_sem]
    · rw [decide_eq_false e] at K ⊢
      rw [if_neg e]
      clear e
      go_enter Tryz.func135, Tryz.ntmps135
      go_wp2_with fail
      refine K.out.mono ?_
      rintro e w2 ⟨rfl, hw⟩
      subst hw
      go_wp2_with fail
      simp [bodyPost, results, Tryz.results135, go_sem]
  obtain ⟨x, hx⟩ : ∃ z : ByteArray, (if s.data.toList.take t.size = t.data.toList then s.extract t.size s.size else s) = z := ⟨_, rfl⟩
  obtain ⟨d, hd⟩ : ∃ d, decide (s.data.toList.take t.size = t.data.toList) = d := ⟨_, rfl⟩
  rw [hx, hd] at K2 ⊢
  clear hx hd K
  go_enter Tryz.func103, Tryz.ntmps103
  go_wp2_with fail
  refine K2.out.mono ?_
  rintro e w2 ⟨rfl, hw⟩
  subst hw
  go_wp2_with fail
  simp [bodyPost, results, Tryz.results103, go_sem]
end Go.Proofs.YtfacmnooklljnaaGreatDoor

/- A drawn region by what its slots hold (which may hang on what is done), where some operations fill no slot: such a one names a slot of none of the others. -/
namespace Go.Proofs.YtfacmnooklljnaaGreatDoor
set_option linter.unusedVariables false
set_option linter.unusedSimpArgs false
open Go.RowKit
section
variable {P : Program} {ops : Array Oper} {Q : Exit → Act → World → Prop}
theorem region_slots4 {id : Nat} {a0 : Act} {w0 : World} (slot : Nat → Nat) (F : (Nat → Bool) → Nat → World → Value → Prop) (T : (Nat → Bool) → World → Prop) (hm : P.follows .mixedOrders = true) (hb : backB .any ops = true)
    (hs : ∀ i, slot i < a0.tmps.size) (hinj : ∀ i j, i < ops.size → j < ops.size → slot i = slot j → i = j) (h0 : T (fun _ => false) w0.drew)
    (hdst : ∀ i o, ops[i]? = some o → o.dst = some (slot i) ∨ o.dst = none)
    (hstep : ∀ (f : Nat → Bool) (a : Act) (w : World) (i : Nat) (o : Oper), ops[i]? = some o → f i = false → (∀ e ∈ o.after, Region.binds .any e = true → f e.on = true ∧ F f e.on w (a.tmps.getD (slot e.on) undef)) → T f w →
      (∀ j, (∀ i, i < ops.size → slot i ≠ j) → a.tmps.getD j undef = a0.tmps.getD j undef) →
      o.wp P a w (fun a' w' => ∃ v, a' = a.put o.dst v ∧ (o.dst = none → v = a0.tmps.getD (slot i) undef) ∧ F (fun j => if j = i then true else f j) i w' v ∧ T (fun j => if j = i then true else f j) w' ∧ ∀ j, f j = true → F f j w (a.tmps.getD (slot j) undef) → F (fun j => if j = i then true else f j) j w' (a.tmps.getD (slot j) undef)) Q)
    (hdone : ∀ (f : Nat → Bool) (vs : Nat → Value) (w : World), (∀ i, i < ops.size → f i = true) → T f w → (∀ i, i < ops.size → F f i w (vs i)) → Q .normal { a0 with tmps := fillN slot vs ops.size a0.tmps } w) : (Code.region id ops true).wp P Q a0 w0 := by
  refine region_inv hm hb (Stand3 a0 ops.size slot F T) ⟨rfl, rfl, fun _ _ => rfl, fun _ _ _ => rfl, h0, fun _ _ h => by cases h⟩ ?_ ?_
  · intro f a w i o ho hf hpre hI
    have hi := (Array.getElem?_eq_some_iff.1 ho).1
    refine Oper.wp_mono ?_ (hstep f a w i o ho hf (fun e he hbd => ⟨hpre e he hbd, hI.have_ e.on (by have := (back_of hb ho).2 e he hbd; omega) (hpre e he hbd)⟩) hI.told hI.rest)
    rintro a' w' ⟨v, rfl, hno, hv, ht, hst⟩
    rcases hdst i o ho with hd | hd
    · rw [hd]
      have hsl : slot i < a.tmps.size := by rw [hI.size]; exact hs i
      refine ⟨hI.defers, by rw [← hI.size]; exact Array.size_setIfInBounds .., fun j hj => ?_, fun j hj hfj => ?_, ht, fun j hj hfj => ?_⟩
      · show (a.tmps.setIfInBounds (slot i) v).getD j undef = _
        rw [getD_set _ _ _ _ hsl, if_neg (Ne.symm (hj i hi))]
        exact hI.rest j hj
      · show (a.tmps.setIfInBounds (slot i) v).getD (slot j) undef = _
        have hji : j ≠ i := fun e => by simp [e] at hfj
        rw [getD_set _ _ _ _ hsl, if_neg (fun e => hji (hinj j i hj hi e))]
        exact hI.yet j hj (by simpa [hji] using hfj)
      · show F (fun j => if j = i then true else f j) j w' ((a.tmps.setIfInBounds (slot i) v).getD (slot j) undef)
        rw [getD_set _ _ _ _ hsl]
        by_cases hji : j = i
        · subst hji; rw [if_pos rfl]; exact hv
        · rw [if_neg (fun e => hji (hinj j i hj hi e))]
          have h2 : f j = true := by simpa [hji] using hfj
          exact hst j h2 (hI.have_ j hj h2)
    · rw [hd]
      refine ⟨hI.defers, hI.size, hI.rest, fun j hj hfj => ?_, ht, fun j hj hfj => ?_⟩
      · have hji : j ≠ i := fun e => by simp [e] at hfj
        exact hI.yet j hj (by simpa [hji] using hfj)
      · show F (fun j => if j = i then true else f j) j w' (a.tmps.getD (slot j) undef)
        by_cases hji : j = i
        · subst hji
          rw [hI.yet j hj hf, ← hno hd]
          exact hv
        · have h2 : f j = true := by simpa [hji] using hfj
          exact hst j h2 (hI.have_ j hj h2)
  · intro f a w hall hI
    have e : a = { a0 with tmps := fillN slot (fun i => a.tmps.getD (slot i) undef) ops.size a0.tmps } := by
      have h1 : a.tmps = fillN slot (fun i => a.tmps.getD (slot i) undef) ops.size a0.tmps := by
        refine ext_getD (by rw [fillN_size, hI.size]) (fun j => ?_)
        by_cases hj : ∃ i, i < ops.size ∧ slot i = j
        · obtain ⟨i, hi, rfl⟩ := hj
          rw [fillN_at slot _ _ hs _ hinj i hi]
        · rw [fillN_get slot _ _ hs _ j (fun i hi e => hj ⟨i, hi, e⟩), hI.rest j (fun i hi e => hj ⟨i, hi, e⟩)]
      obtain ⟨t, d⟩ := a
      have h2 := hI.defers
      simp only at h1 h2
      rw [← h1, h2]
    rw [e]
    exact hdone f _ w hall hI.told (fun i hi => hI.have_ i hi (hall i hi))
theorem rg_same4 {o : Oper} {a a0 : Act} {w : World} {slot : Nat → Nat} {F : (Nat → Bool) → Nat → World → Value → Prop} {T : (Nat → Bool) → World → Prop} {f : Nat → Bool} {i : Nat} (v : Value)
    (h : o.wp P a w (fun a' w' => a' = a.put o.dst v ∧ w' = w) Q) (hd : o.dst ≠ none) (hF : F (fun j => if j = i then true else f j) i w v) (hT : T (fun j => if j = i then true else f j) w) (hM : ∀ j v', F f j w v' → F (fun j => if j = i then true else f j) j w v') :
    o.wp P a w (fun a' w' => ∃ v, a' = a.put o.dst v ∧ (o.dst = none → v = a0.tmps.getD (slot i) undef) ∧ F (fun j => if j = i then true else f j) i w' v ∧ T (fun j => if j = i then true else f j) w' ∧ ∀ j, f j = true → F f j w (a.tmps.getD (slot j) undef) → F (fun j => if j = i then true else f j) j w' (a.tmps.getD (slot j) undef)) Q := by
  refine Oper.wp_mono ?_ h
  rintro a' w' ⟨rfl, rfl⟩
  exact ⟨v, rfl, fun h => absurd h hd, hF, hT, fun j _ h => hM j _ h⟩
end
end Go.Proofs.YtfacmnooklljnaaGreatDoor

/- target: Parse, with more told of its path: its row is one of texts alone. No conditions but those that each law states. Printed by genZs.py from XGE, XGK. -/
namespace Go.Proofs.YtfacmnooklljnaaGreatDoor
set_option linter.unusedVariables false
set_option linter.unusedSimpArgs false
open Go.RowKit Go.Shelf
set_option maxHeartbeats 4000000
set_option maxRecDepth 100000
/-- a slice of texts in a block of texts alone -/
def SwRow (w : World) (v : Value) (L : List (List UInt8)) : Prop := ∃ B, w.ownsRow B 9 1 v L.length (L.map tx)
theorem SwRow.str {w : World} {v : Value} {L : List (List UInt8)} (h : SwRow w v L) : StrRow w v L := by
  obtain ⟨B, h⟩ := h
  exact strRow_own h
theorem SwRow.slice {w : World} {v : Value} {L : List (List UInt8)} (h : SwRow w v L) : ∃ p c, v = .slice p L.length c := by
  obtain ⟨p, c, h, _⟩ := h.str
  exact ⟨p, c, h⟩
theorem SwRow.below {w w' : World} {v : Value} {L : List (List UInt8)} (h : SwRow w v L) (k : Below w.heap.size w w') : SwRow w' v L := by
  obtain ⟨B, h⟩ := h
  exact ⟨B, h.belowed k⟩
theorem SwRow.keep {w w' : World} {v : Value} {L : List (List UInt8)} {T : Nat} {cs : Array Value} {t : TypeId} (h : SwRow w v L) (hT : w.heap[T]? = some (.cells cs t (0, 0))) (ht : t ≠ 9) (ho : ∀ j, j ≠ T → w'.heap[j]? = w.heap[j]?) : SwRow w' v L := by
  obtain ⟨B, hl, h⟩ := h
  refine ⟨B, hl, h.imp id ?_⟩
  rintro ⟨g, cap, cur, rfl, h1, h2, h3⟩
  refine ⟨g, cap, cur, rfl, h1, ?_, h3⟩
  rw [ho g (by
    intro e
    subst e
    rw [h2] at hT
    simp at hT
    exact ht hT.2.symm)]
  exact h2
theorem PrRow.keep {w w' : World} {v : Value} {L : List (List UInt8 × List UInt8)} {T : Nat} {cs : Array Value} {t : TypeId} (h : PrRow w v L) (hT : w.heap[T]? = some (.cells cs t (0, 0))) (ht : t ≠ 93) (ho : ∀ j, j ≠ T → w'.heap[j]? = w.heap[j]?) : PrRow w' v L := by
  obtain ⟨B, hl, h⟩ := h
  refine ⟨B, hl, h.imp id ?_⟩
  rintro ⟨g, cap, cur, rfl, h1, h2, h3⟩
  refine ⟨g, cap, cur, rfl, h1, ?_, h3⟩
  rw [ho g (by
    intro e
    subst e
    rw [h2] at hT
    simp at hT
    exact ht hT.2.symm)]
  exact h2
theorem PrRow.belowW {w w' : World} {v : Value} {L : List (List UInt8 × List UInt8)} (h : PrRow w v L) (k : Below w.heap.size w w') : PrRow w' v L := by
  obtain ⟨B, h⟩ := h
  exact ⟨B, h.belowed k⟩
theorem SwRow.setT {w : World} {v : Value} {L : List (List UInt8)} {T : Nat} {cs : Array Value} {t : TypeId} (h : SwRow w v L) (hT : w.heap[T]? = some (.cells cs t (0, 0))) (ht : t ≠ 9) (i : Nat) (x : Value) : SwRow (w.setCell ⟨T, i, none⟩ x) v L :=
  h.keep hT ht fun j hj => Below.heap_setCell _ _ _ _ (by show j ≠ T; exact hj)
theorem tg_madeW (f : FuncId) (g : List UInt8 → Option (List UInt8)) (v : Value) (L : List ByteArray) (w : World) (hv : SR w v L) (hL : L.length ≤ 100000)
    (hce : ∀ args W, (callFunc f args).run Tryz.prog W = .ok (.enter f args) W)
    (hf : ∀ s ∈ L, ∀ W, Calls Tryz.prog f #[.string s] W fun e w' => e = decEnd (g s.data.toList) ∧ Below W.heap.size W w') :
    Calls Tryz.prog 49 #[.func (.func f) #[] #[], v] w fun e w' =>
      ((∃ R r, Gt.all? g (L.map (·.data.toList)) = some R ∧ e = .returned r ∧ SwRow w' r R) ∨ (Gt.all? g (L.map (·.data.toList)) = none ∧ e = .panicked [{ v := errno 210, recovered := false }])) ∧ Below w.heap.size w w' := by
  obtain ⟨i0, hi, hz0, hz1, hz2⟩ := info_parts (show (Tryz.prog.info? 9).map (fun i => (i.zero, i.size, i.bytes)) = some (some (.string ByteArray.empty), 1, 16) by kernel_rfl)
  obtain ⟨B, hB⟩ : ∃ B, w.heap.size = B := ⟨_, rfl⟩
  rw [hB]
  rcases hv with ⟨p0, c0, rfl, rfl⟩ | ⟨b, off, cap, rfl, hb, hc⟩
  · go_enter Tryz.func49, Tryz.ntmps49
    go_wp2_with fail
    go_loopw [4, 9] (fun v i wr => v = .slice none 0 0 ∧ i = .int .i64 0 ∧ wr = w) (fun _ _ _ => 0)
    case atStart => exact ⟨rfl, rfl, rfl⟩
    case round =>
      obtain ⟨rfl, rfl, rfl⟩ := hrel
      go_wp2_with fail
      go_ret
      exact ⟨.inl ⟨[], _, rfl, rfl, ⟨0, World.ownsRow_nil _ _ _ _⟩⟩, Below.refl _ _⟩
  · have HC := Lib.hid hc
    have HF := Lib.hid hf
    obtain ⟨N, hN⟩ : ∃ N, L.length = N := ⟨_, rfl⟩
    have HNL := Lib.hid hN
    have HBB := Lib.hid hb
    rw [hN] at hL ⊢
    obtain ⟨M, hM⟩ : ∃ M, L.map (·.data.toList) = M := ⟨_, rfl⟩
    rw [hM]
    have HML := Lib.hid (show M.length = N by rw [← hM, List.length_map, hN])
    have HM := Lib.hid hM
    clear hc hf hM hN hb
    go_enter Tryz.func49, Tryz.ntmps49
    go_wp2_with fail
    go_loopw [4, 9] (fun v i wr => ∃ (k : Nat) (acc : List (List UInt8)), k ≤ N ∧ i = .int .i64 k ∧ Gt.AAt g M acc k ∧ wr.ownsRow B 9 1 v acc.length (acc.map tx) ∧ Below B w wr)
      (fun _ i _ => N - (intOf i).toNat)
    case atStart => exact ⟨0, [], Nat.zero_le _, rfl, Gt.aAt_start _ _, World.ownsRow_nil _ _ _ _, Below.refl _ _⟩
    case round =>
      obtain ⟨k, acc, hk, rfl, hat, hown, hbl⟩ := hrel
      have HA := Lib.hid hat
      have HO := Lib.hid hown
      have HBL := Lib.hid hbl
      clear hat hown hbl
      by_cases hlt : k < N
      · have hkl : k < L.length := by have := HNL.out; omega
        have HBW := Lib.hid (show b < B by rw [← hB]; exact HBB.out)
        have hck : wr.cell? ⟨b, off + k, none⟩ = some (.string L[k]) := (HBL.out.cell (p := ⟨b, off + k, none⟩) HBW.out).trans (HC.out k hkl)
        obtain ⟨S, hS⟩ : ∃ S, L[k] = S := ⟨_, rfl⟩
        rw [hS] at hck
        have HKM := Lib.hid (show k < M.length by rw [HML.out]; exact hlt)
        have HMK := Lib.hid (show M[k]'HKM.out = S.data.toList by
          have : M[k]? = some S.data.toList := by rw [← HM.out, List.getElem?_map, List.getElem?_eq_getElem hkl, hS]; rfl
          exact (List.getElem?_eq_some_iff.1 this).2)
        have K := Lib.hid (HF.out S (by rw [← hS]; exact List.getElem_mem _) wr)
        clear hS hkl
        cases hg : g S.data.toList with
        | none =>
          rw [hg] at K
          have HN := Lib.hid (Gt.aAt_bad HA.out HKM.out (by rw [HMK.out]; exact hg))
          clear hg
          go_wp2_with fail
          refine K.out.mono ?_
          rintro e w2 ⟨rfl, hb2⟩
          exact ⟨rfl, .inr ⟨HN.out, rfl⟩, HBL.out.trans (hb2.mono (hB ▸ HBL.out.size))⟩
        | some q =>
          rw [hg] at K
          have HN := Lib.hid (Gt.aAt_next HA.out HKM.out (by rw [HMK.out]; exact hg))
          clear hg
          go_wp2_with fail
          refine K.out.mono ?_
          rintro e w2 ⟨rfl, hb2⟩
          have HB2 := Lib.hid (HBL.out.trans (hb2.mono (hB ▸ HBL.out.size)))
          have HO2 := Lib.hid (show w2.ownsRow B 9 1 _ acc.length (acc.map tx) from HO.out.belowed hb2)
          simp only [decEnd]
          obtain ⟨qb, hqb⟩ : ∃ z : ByteArray, (⟨q.toArray⟩ : ByteArray) = z := ⟨_, rfl⟩
          rw [hqb]
          have HTQ := Lib.hid (show tx q = .string qb by unfold tx; rw [hqb])
          clear hb2 hqb K
          go_wp2_with (at_builtin; refine wpList_append_own _ rfl _ _ 33 rfl B 9 i0 (.string ByteArray.empty) 1 16 Tryz.underlying33 hi hz0 hz1 hz2 rfl (by decide) _ _ _ rfl (HO2.out.alloc _) ⟨w2.heap.size, 0, none⟩ 1 1 [.string qb] rfl rfl ?c1 ?c2 ?c3 ?c4 ?c5 ?_)
          case c1 =>
            intro j u hj
            match j, hj with
            | 0, hj => simp at hj; subst hj; simp [Addr.add]
          case c2 => intro u hu; simp at hu; subst hu; rfl
          case c3 => have := HA.out.2.1; unfold maxLen; omega
          case c4 => have := HA.out.2.1; omega
          case c5 => have := HB2.out.size; simp; omega
          intro v' w3 hown' hgrow _
          have HB3 := Lib.hid (show Below B w w3 from Below.grown (HB2.out.alloc (by have := HB2.out.size; omega) _) hgrow (by have := HB2.out.size; simp; omega) (own_ge HO2.out))
          have HO3 := Lib.hid (show w3.ownsRow B 9 1 v' (acc ++ [q]).length ((acc ++ [q]).map tx) by
            rw [List.map_append, List.length_append]
            show w3.ownsRow B 9 1 v' _ (_ ++ [tx q])
            rw [HTQ.out]
            exact hown')
          clear hgrow hown'
          go_wp2
          go_roundw
          case rel => exact ⟨k + 1, acc ++ [q], hlt, by go_num, HN.out, HO3.out, HB3.out⟩
          case measure => simp [intOf]; omega
      · have HE := Lib.hid (Gt.aAt_end HA.out (by rw [HML.out]; omega))
        go_wp2_with fail
        go_ret
        exact ⟨.inl ⟨acc, _, HE.out, rfl, ⟨_, HO.out⟩⟩, HBL.out⟩
def ParseOutW (w : World) (o : Option (List (List UInt8) × List (List UInt8 × List UInt8))) (e : Ending) : Prop := match o with
  | some (P, Q) => ∃ vp vq, e = .returned (.tuple #[.agg #[vp, vq], .int .i64 0]) ∧ SwRow w vp P ∧ PrRow w vq Q
  | none => e = .returned (.tuple #[.agg #[.slice none 0 0, .slice none 0 0], .int .i64 210])
theorem parse_doorW (s : ByteArray) (w W : World) (hB : Below w.heap.size w W) (u v : Value) (hT : W.heap[w.heap.size]? = some (.cells #[u, v] 36 (0, 0))) (hE : W.heap[w.heap.size + 1]? = some (.cells #[.int .i64 0] 26 (0, 0)))
    (hp : Gt.parse s.data.toList = none) (x1 x4 x5 x6 x7 x8 x9 x10 x11 x12 x13 x14 x15 x16 x17 x18 x19 x20 x21 x22 x23 x24 x25 x26 x27 x28 x29 x30 x31 x32 x33 x34 x35 : Value) :
    bodyPostD Tryz.prog Tryz.f21 (fun e w' => ParseOutW w' (Gt.parse s.data.toList) e ∧ Below w.heap.size w w') (.panic [{ v := errno 210, recovered := false }])
      { tmps := #[.string s, x1, .pointer (some ⟨w.heap.size, 0, none⟩), .pointer (some ⟨w.heap.size + 1, 0, none⟩), x4, x5, x6, x7, x8, x9, x10, x11, x12, x13, x14, x15, x16, x17, x18, x19, x20, x21, x22, x23, x24, x25, x26, x27, x28, x29, x30, x31, x32, x33, x34, x35], defers := [{ target := Target.fn (Fn.func 44) #[], args := #[.pointer (some ⟨w.heap.size + 1, 0, none⟩), .func (.func 45) #[] #[.pointer (some ⟨w.heap.size, 0, none⟩)]] }] } W := by
  rw [hp]
  have c1 : W.cell? ⟨w.heap.size + 1, 0, none⟩ = some (.int .i64 0) := by simp [World.cell?, hE]
  have z1 : W.frozen? ⟨w.heap.size + 1, 0, none⟩ = false := frozen_of_row _ _ _ _ _ hE
  have t1 := heap_setCell_same _ _ 0 _ _ (.slice none 0 0) hT
  have t2 : ((W.setCell ⟨w.heap.size, 0, none⟩ (.slice none 0 0)).setCell ⟨w.heap.size, 1, none⟩ (.slice none 0 0)).heap[w.heap.size]? = some (.cells #[.slice none 0 0, .slice none 0 0] 36 (0, 0)) := heap_setCell_same _ _ 1 _ _ (.slice none 0 0) t1
  obtain ⟨W2, hW2⟩ : ∃ Z, (W.setCell ⟨w.heap.size, 0, none⟩ (.slice none 0 0)).setCell ⟨w.heap.size, 1, none⟩ (.slice none 0 0) = Z := ⟨_, rfl⟩
  have HB2 := Lib.hid (show Below w.heap.size w W2 by rw [← hW2]; exact (hB.setCell (Nat.le_refl _) _).setCell (Nat.le_refl _) _)
  have c2 : W2.cell? ⟨w.heap.size + 1, 0, none⟩ = some (.int .i64 0) := by
    rw [← hW2, World.cell?_setCell_other, World.cell?_setCell_other]; exact c1; simp; simp
  have z2 : W2.frozen? ⟨w.heap.size + 1, 0, none⟩ = false := by rw [← hW2]; simpa using z1
  have K := tg_clearT w.heap.size u v W hT
  rw [hW2] at t2 K
  refine leaves_cons (f := 44) (args := #[.pointer (some ⟨w.heap.size + 1, 0, none⟩), .func (.func 45) #[] #[.pointer (some ⟨w.heap.size, 0, none⟩)]]) (by simp) (by simp [go_sem]) ?_
  refine (tg_caught ⟨w.heap.size + 1, 0, none⟩ 45 #[.pointer (some ⟨w.heap.size, 0, none⟩)] 210 [] W W2 (clearT_enter _) K (.int .i64 0) c2 z2).mono ?_
  rintro e u' w'' ⟨rfl, rfl, rfl⟩
  have d0 : W2.cell? ⟨w.heap.size, 0, none⟩ = some (.slice none 0 0) := by simp [World.cell?, t2]
  have d1 : W2.cell? ⟨w.heap.size, 1, none⟩ = some (.slice none 0 0) := by simp [World.cell?, t2]
  simp [Leaves, settle, results, Tryz.results21, go_sem, d0, d1, c2]
  exact ⟨rfl, HB2.out.setCell (Nat.le_succ _) _⟩
theorem tg_ParseW (s : ByteArray) (w : World) (hs : s.size ≤ 90000) (hm : Mx w) (h0 : 0 < w.heap.size) :
    Calls Tryz.prog 21 #[.string s] w fun e w' => ParseOutW w' (Gt.parse s.data.toList) e ∧ Below w.heap.size w w' := by
  have hce1 := ask1_enter
  have hce2 := ask2_enter
  have hmf : ∀ (fn : Fn) (first cap : Array Value) (w : World), (Instr.makeFunc fn first cap).run Tryz.prog w = .ok (.func fn first cap) w := fun _ _ _ _ => rfl
  have hi0 : ∀ (x y : Value) (w : World), (Instr.index 84 (.agg #[x, y]) (.int .i64 0)).run Tryz.prog w = .ok x w := fun _ _ _ => by kernel_rfl
  have hi1 : ∀ (x y : Value) (w : World), (Instr.index 84 (.agg #[x, y]) (.int .i64 1)).run Tryz.prog w = .ok y w := fun _ _ _ => by kernel_rfl
  obtain ⟨W1, hW1⟩ : ∃ W, (w.alloc (.cells #[.slice none 0 0, .slice none 0 0] 36)).alloc (.cells #[.int .i64 0] 26) = W := ⟨_, rfl⟩
  have HSZ := Lib.hid (show W1.heap.size = w.heap.size + 2 by rw [← hW1]; simp)
  have HB := Lib.hid (show Below w.heap.size w W1 by
    rw [← hW1]
    exact ((Below.refl _ _).alloc (Nat.le_refl _) _).alloc (by simp) _)
  have HC0 := Lib.hid (show W1.heap[w.heap.size]? = some (.cells #[.slice none 0 0, .slice none 0 0] 36 (0, 0)) by
    rw [← hW1, Below.heap_alloc _ _ _ (by simp)]
    exact World.alloc_heap_new _ _)
  have HC1 := Lib.hid (show W1.heap[w.heap.size + 1]? = some (.cells #[.int .i64 0] 26 (0, 0)) by
    rw [← hW1]
    have := World.alloc_heap_new (w.alloc (.cells #[.slice none 0 0, .slice none 0 0] 36)) (.cells #[.int .i64 0] 26)
    simpa using this)
  have HW1 := Lib.hid hW1
  have HM := Lib.hid hm
  clear hW1 hm
  have KA := Lib.hid (tg_asks W1)
  have K1 := Lib.hid (fun W => tg_ask1 s W)
  have K2 := Lib.hid (fun W => tg_ask2 s W)
  obtain ⟨a1, ha1⟩ : ∃ o, (s.data.toList.head? == some 47) = o := ⟨_, rfl⟩
  obtain ⟨a2, ha2⟩ : ∃ o, s.data.toList.all Gt.okB = o := ⟨_, rfl⟩
  rw [ha1] at K1
  rw [ha2] at K2
  have HA1 := Lib.hid ha1
  have HA2 := Lib.hid ha2
  clear ha1 ha2
  go_enter_defers Tryz.func21, Tryz.ntmps21
  go_wp2_with fail
  rw [HW1.out]
  refine KA.out.mono ?_
  rintro e w2 ⟨rfl, hb⟩
  have HB2 := Lib.hid hb
  clear hb
  go_wp2_with fail
  go_loopw [11] (fun i wr => AskAt s.data.toList w2 i wr) (fun i _ => (2 - intOf i).toNat)
  case atStart => exact .inl ⟨rfl, rfl⟩
  case round =>
    rcases hrel with ⟨rfl, rfl⟩ | ⟨rfl, rfl, hh⟩ | ⟨rfl, hb3, hok⟩
    · cases a1 with
      | true =>
        go_wp2_with fail
        refine (K1.out wr).mono ?_
        rintro e w3 ⟨rfl, hw3⟩
        subst w3
        go_wp2_with fail
        refine (tg_must 210 wr).mono ?_
        rintro e w4 ⟨rfl, hw4⟩
        subst w4
        go_wp2
        go_roundw
        case rel => exact .inr (.inl ⟨rfl, rfl, HA1.out⟩)
        case measure => simp [intOf]
      | false =>
        go_wp2_with fail
        refine (K1.out wr).mono ?_
        rintro e w3 ⟨rfl, hw3⟩
        subst w3
        go_wp2_with fail
        refine (tg_must_no 210 wr).mono ?_
        rintro e w4 ⟨rfl, hw4⟩
        subst w4
        exact parse_doorW s w wr (HB.out.trans (HB2.out.mono HB.out.size)) (.slice none 0 0) (.slice none 0 0) ((HB2.out.block _ (by rw [HSZ.out]; omega)).trans HC0.out) ((HB2.out.block _ (by rw [HSZ.out]; omega)).trans HC1.out) (Gt.parse_bad (by unfold Gt.ok; rw [HA1.out]; rfl)) _ _ _ _ _ _ _ _ _ _ _ _ _ _ _ _ _ _ _ _ _ _ _ _ _ _ _ _ _ _ _ _ _
    · cases a2 with
      | true =>
        go_wp2_with fail
        refine (K2.out wr).mono ?_
        rintro e w3 ⟨rfl, hb3⟩
        have HB3 := Lib.hid hb3
        clear hb3
        go_wp2_with fail
        refine (tg_must 210 w3).mono ?_
        rintro e w4 ⟨rfl, hw4⟩
        subst w4
        go_wp2
        go_roundw
        case rel => exact .inr (.inr ⟨rfl, HB3.out, by unfold Gt.ok; rw [hh, HA2.out]; rfl⟩)
        case measure => simp [intOf]
      | false =>
        go_wp2_with fail
        refine (K2.out wr).mono ?_
        rintro e w3 ⟨rfl, hb3⟩
        have HB3 := Lib.hid (HB2.out.trans (hb3.mono HB2.out.size))
        clear hb3
        go_wp2_with fail
        refine (tg_must_no 210 w3).mono ?_
        rintro e w4 ⟨rfl, hw4⟩
        subst w4
        exact parse_doorW s w w3 (HB.out.trans (HB3.out.mono HB.out.size)) (.slice none 0 0) (.slice none 0 0) ((HB3.out.block _ (by rw [HSZ.out]; omega)).trans HC0.out) ((HB3.out.block _ (by rw [HSZ.out]; omega)).trans HC1.out) (Gt.parse_bad (by unfold Gt.ok; rw [HA2.out, Bool.and_false])) _ _ _ _ _ _ _ _ _ _ _ _ _ _ _ _ _ _ _ _ _ _ _ _ _ _ _ _ _ _ _ _ _
    · have HBR := Lib.hid (HB2.out.trans (hb3.mono HB2.out.size))
      have HOK := Lib.hid hok
      obtain ⟨m, hm'⟩ := HM.out.below (HB.out.trans (HBR.out.mono HB.out.size)) h0
      have KC := Lib.hid (Tryz.strings_Cut s ⟨#[63]⟩ m wr (by omega) hm')
      rw [show (⟨#[63]⟩ : ByteArray).data.toList = [63] from rfl, Gs.cut_is] at KC
      obtain ⟨pb, hpb⟩ : ∃ z : ByteArray, (⟨(s.data.toList.take (Gs.pos 63 s.data.toList)).toArray⟩ : ByteArray) = z := ⟨_, rfl⟩
      obtain ⟨qb, hqb⟩ : ∃ z : ByteArray, (⟨(s.data.toList.drop (Gs.pos 63 s.data.toList + 1)).toArray⟩ : ByteArray) = z := ⟨_, rfl⟩
      obtain ⟨is, his⟩ : ∃ b, decide (Gs.pos 63 s.data.toList < s.data.toList.length) = b := ⟨_, rfl⟩
      simp only [hpb, hqb, his] at KC
      have HPL := Lib.hid (show pb.data.toList = s.data.toList.take (Gs.pos 63 s.data.toList) by rw [← hpb])
      have HQL := Lib.hid (show qb.data.toList = s.data.toList.drop (Gs.pos 63 s.data.toList + 1) by rw [← hqb])
      have hp1 : 1 ≤ pb.size := by
        have h1 := ok_pos hok
        have h2 : pb.data.toList.length = pb.size := rfl
        have h3 := Gs.pos_le 63 s.data.toList
        rw [HPL.out, List.length_take] at h2
        omega
      have HPS := Lib.hid (show pb.size ≤ 100000 by
        have h1 : pb.data.toList.length = pb.size := rfl
        have h2 : s.data.toList.length = s.size := rfl
        rw [HPL.out, List.length_take] at h1; omega)
      have HQS := Lib.hid (show qb.size ≤ 90000 by
        have h1 : qb.data.toList.length = qb.size := rfl
        have h2 : s.data.toList.length = s.size := rfl
        rw [HQL.out, List.length_drop] at h1; omega)
      clear hpb hqb his hm' hb3 hok
      go_wp2_with fail
      refine KC.out.mono ?_
      rintro e w5 ⟨rfl, n, hw5⟩
      have HB5 := Lib.hid (show Below W1.heap.size W1 w5 by rw [hw5]; exact below_drewN HBR.out n)
      clear hw5
      go_wp2_with fail
      obtain ⟨p1, hp⟩ : ∃ z, pb.extract 1 pb.size = z := ⟨_, rfl⟩
      rw [hp]
      have HSEG := Lib.hid (show Gt.segs s.data.toList = Gs.parts 47 [] p1.data.toList by
        unfold Gt.segs
        rw [← HPL.out, ← hp, Lib.extract_data, List.take_of_length_le]
        rw [List.length_drop]; exact Nat.le_refl _)
      have HP1P := Lib.hid (show p1.size + 1 ≤ pb.size by
        have h1 : (pb.extract 1 pb.size).data.toList.length = p1.size := by rw [hp]; rfl
        have h2 : pb.data.toList.length = pb.size := rfl
        rw [Lib.extract_data, List.length_take, List.length_drop] at h1; omega)
      have HP1S := Lib.hid (show p1.size ≤ 100000 by
        have h1 : (pb.extract 1 pb.size).data.toList.length = p1.size := by rw [hp]; rfl
        have h2 : pb.data.toList.length = pb.size := rfl
        have h3 := HPS.out
        rw [Lib.extract_data, List.length_take, List.length_drop] at h1; omega)
      have HT5 := Lib.hid ((HB5.out.block _ (by rw [HSZ.out]; omega)).trans HC0.out)
      have HE5 := Lib.hid ((HB5.out.block _ (by rw [HSZ.out]; omega)).trans HC1.out)
      have HBW5 := Lib.hid (HB.out.trans (HB5.out.mono HB.out.size))
      have HZ5 := Lib.hid (show w.heap.size + 2 ≤ w5.heap.size by have := HB5.out.size; rw [HSZ.out] at this; exact this)
      clear hp hp1 KC KA K1 K2 HB5 HBR HB2 HB HC0 HC1 HW1
      refine (tg_split p1 47 w5 (by have := HP1S.out; omega) (HM.out.below HBW5.out h0)).mono ?_
      rintro e w6 ⟨D, hD, rfl, hw6⟩
      have HB6 := Lib.hid (show Below w5.heap.size w5 w6 by rw [hw6]; exact (Below.refl _ _).alloc (Nat.le_refl _) _)
      have HSR := Lib.hid (show SR w6 (.slice (some ⟨w5.heap.size, 0, none⟩) D.length D.length) D from .inr ⟨w5.heap.size, 0, D.length, rfl, by rw [hw6]; simp, fun j hj => by
        have hnew : w6.heap[w5.heap.size]? = some (.cells (D.map Value.string).toArray 9 (0, 0)) := by rw [hw6]; exact World.alloc_heap_new _ _
        simp [World.cell?, hnew, List.getElem?_eq_getElem hj]⟩)
      have HD := Lib.hid hD
      have HDL := Lib.hid (show D.length ≤ 100000 by
        have h1 := Gs.parts_many 47 p1.data.toList []
        rw [← hD, List.length_map] at h1
        have h2 : p1.data.toList.length = p1.size := rfl
        have h3 := ok_pos HOK.out
        have h4 : pb.data.toList.length = pb.size := rfl
        have h5 := HPS.out
        have h6 := HP1S.out
        have h7 := HP1P.out
        omega)
      have HDS := Lib.hid (fun z (hz : z ∈ D) => show z.size ≤ 1000000 by
        have h1 := Gs.parts_len 47 p1.data.toList [] z.data.toList (by rw [← hD]; exact List.mem_map.2 ⟨z, hz, rfl⟩)
        have h2 : p1.data.toList.length = p1.size := rfl
        have h3 : z.data.toList.length = z.size := rfl
        have h4 := HP1S.out
        simp at h1
        omega)
      clear hw6 hD
      go_wp2_with fail
      refine (tg_madeW 50 Gt.seg _ D w6 HSR.out HDL.out part_enter (fun z hz W => tg_part z W (HDS.out z hz))).mono ?_
      rintro e w7 ⟨hor, hb7⟩
      have HB7 := Lib.hid (show Below w5.heap.size w5 w7 from HB6.out.trans (hb7.mono HB6.out.size))
      clear hb7
      rw [HD.out, ← HSEG.out] at hor
      have HT7 := Lib.hid ((HB7.out.block _ (by have := HZ5.out; omega)).trans HT5.out)
      have HE7 := Lib.hid ((HB7.out.block _ (by have := HZ5.out; omega)).trans HE5.out)
      have HBW7 := Lib.hid (HBW5.out.trans (HB7.out.mono HBW5.out.size))
      have HZ7 := Lib.hid (show w.heap.size + 2 ≤ w7.heap.size from Nat.le_trans HZ5.out HB7.out.size)
      clear HB7 HB6 HSR HDS HT5 HE5 HBW5
      rcases hor with ⟨R, r, h1, rfl, hrow⟩ | ⟨h1, rfl⟩
      · have HP1 := Lib.hid h1
        have HROW := Lib.hid hrow
        obtain ⟨pr, cr, hr⟩ := hrow.slice
        obtain ⟨nr, hnr⟩ : ∃ z, R.length = z := ⟨_, rfl⟩
        rw [hnr] at hr
        subst hr
        have c0 : w7.cell? ⟨w.heap.size, 0, none⟩ = some (.slice none 0 0) := by simp [World.cell?, HT7.out]
        have z0 : w7.frozen? ⟨w.heap.size, 0, none⟩ = false := frozen_of_row _ _ _ _ _ HT7.out
        clear h1 hnr
        go_wp2_with fail
        obtain ⟨w8, hw8⟩ : ∃ Z, w7.setCell ⟨w.heap.size, 0, none⟩ (.slice pr nr cr) = Z := ⟨_, rfl⟩
        rw [hw8]
        have HT8 := Lib.hid (show w8.heap[w.heap.size]? = some (.cells #[.slice pr nr cr, .slice none 0 0] 36 (0, 0)) by
          rw [← hw8]; exact heap_setCell_same _ _ 0 _ _ (.slice pr nr cr) HT7.out)
        have HE8 := Lib.hid (show w8.heap[w.heap.size + 1]? = some (.cells #[.int .i64 0] 26 (0, 0)) by
          rw [← hw8, Below.heap_setCell _ _ _ _ (by simp)]; exact HE7.out)
        have HR8 := Lib.hid (show SwRow w8 (.slice pr nr cr) R by rw [← hw8]; exact HROW.out.setT HT7.out (by decide) 0 _)
        have HBW8 := Lib.hid (show Below w.heap.size w w8 by rw [← hw8]; exact HBW7.out.setCell (Nat.le_refl _) _)
        have HZ8 := Lib.hid (show w.heap.size + 2 ≤ w8.heap.size by rw [← hw8]; simpa using HZ7.out)
        clear hw8 c0 z0 HT7 HE7 HROW HBW7 HZ7
        refine (tg_split qb 38 w8 (by have := HQS.out; omega) (HM.out.below HBW8.out h0)).mono ?_
        rintro e w9 ⟨D2, hD2, rfl, hw9⟩
        have hnew : w9.heap[w8.heap.size]? = some (.cells (D2.map Value.string).toArray 9 (0, 0)) := by rw [hw9]; exact World.alloc_heap_new _ _
        have HB9 := Lib.hid (show Below w8.heap.size w8 w9 by rw [hw9]; exact (Below.refl _ _).alloc (Nat.le_refl _) _)
        have HD2L := Lib.hid (show D2.length ≤ 100000 by
          have h1 := Gs.parts_many 38 qb.data.toList []
          rw [← hD2, List.length_map] at h1
          have h2 : qb.data.toList.length = qb.size := rfl
          have h3 := HQS.out
          omega)
        have HD2S := Lib.hid (fun z (hz : z ∈ D2) => show z.size ≤ 1000000 by
          have h1 := Gs.parts_len 38 qb.data.toList [] z.data.toList (by rw [← hD2]; exact List.mem_map.2 ⟨z, hz, rfl⟩)
          have h2 : qb.data.toList.length = qb.size := rfl
          have h3 : z.data.toList.length = z.size := rfl
          have h4 := HQS.out
          simp at h1
          omega)
        have HQR := Lib.hid (show (D2.filter fun s => !s.data.toList.isEmpty).map (·.data.toList) = Gt.qrys s.data.toList by
          unfold Gt.qrys
          rw [← HQL.out, ← hD2, List.filter_map]; rfl)
        have KST := Lib.hid (tg_strike w8.heap.size D2.length D2 w9 hnew (Nat.le_refl _) (by have := HD2L.out; omega))
        clear hD2 hnew hw9
        go_wp2_with fail
        refine KST.out.mono ?_
        rintro e w10 ⟨v, rfl, hsr, hb10⟩
        have HB10 := Lib.hid (show Below w8.heap.size w8 w10 from HB9.out.trans hb10)
        have HSR := Lib.hid hsr
        have HFL := Lib.hid (show (D2.filter fun s => !s.data.toList.isEmpty).length ≤ 100000 from Nat.le_trans (List.length_filter_le _ _) HD2L.out)
        have HFS := Lib.hid (fun z (hz : z ∈ D2.filter fun s => !s.data.toList.isEmpty) => HD2S.out z (List.mem_filter.1 hz).1)
        obtain ⟨F, hF⟩ : ∃ z, (D2.filter fun s => !s.data.toList.isEmpty) = z := ⟨_, rfl⟩
        rw [hF] at HSR HQR HFL HFS
        clear hb10 hsr KST HB9 HD2S HD2L hF
        go_wp2_with fail
        refine (tg_madeP 53 Gt.pairOf v F w10 HSR.out HFL.out pair_enter (fun z hz W hbW => tg_pair z W (HFS.out z hz)
          (HM.out.below (HBW8.out.trans ((HB10.out.trans (hbW.mono HB10.out.size)).mono (by have := HZ8.out; omega))) h0) (by have := hbW.size; have := HB10.out.size; have := HZ8.out; omega))).mono ?_
        rintro e w11 ⟨hor, hb11⟩
        have HB11 := Lib.hid (show Below w8.heap.size w8 w11 from HB10.out.trans (hb11.mono HB10.out.size))
        clear hb11
        rw [HQR.out] at hor
        have HT11 := Lib.hid ((HB11.out.block _ (by have := HZ8.out; omega)).trans HT8.out)
        have HE11 := Lib.hid ((HB11.out.block _ (by have := HZ8.out; omega)).trans HE8.out)
        have HBW11 := Lib.hid (HBW8.out.trans (HB11.out.mono HBW8.out.size))
        have HR11 := Lib.hid (HR8.out.below HB11.out)
        clear HB11 HB10 HSR HFS HT8 HE8 HBW8 HR8
        rcases hor with ⟨Q, q, h1, rfl, hrow⟩ | ⟨h1, rfl⟩
        · have HPQ := Lib.hid (show Gt.parse s.data.toList = some (R, Q) by rw [Gt.parse_is HOK.out HP1.out, h1]; rfl)
          have HROW := Lib.hid hrow
          obtain ⟨pq, nq, cq, hq⟩ := hrow.slice
          subst hq
          have c1 : w11.cell? ⟨w.heap.size, 1, none⟩ = some (.slice none 0 0) := by simp [World.cell?, HT11.out]
          have z1 : w11.frozen? ⟨w.heap.size, 1, none⟩ = false := frozen_of_row _ _ _ _ _ HT11.out
          have c0 : w11.cell? ⟨w.heap.size, 0, none⟩ = some (.slice pr nr cr) := by simp [World.cell?, HT11.out]
          have z0 : w11.frozen? ⟨w.heap.size, 0, none⟩ = false := frozen_of_row _ _ _ _ _ HT11.out
          have c2 : w11.cell? ⟨w.heap.size + 1, 0, none⟩ = some (.int .i64 0) := by simp [World.cell?, HE11.out]
          have z2 : w11.frozen? ⟨w.heap.size + 1, 0, none⟩ = false := frozen_of_row _ _ _ _ _ HE11.out
          clear h1 hrow
          go_wp2_with fail
          obtain ⟨w12, hw12⟩ : ∃ Z, ((((w11.setCell ⟨w.heap.size, 1, none⟩ (.slice pq nq cq)).setCell ⟨w.heap.size, 0, none⟩ (.slice pr nr cr)).setCell ⟨w.heap.size, 1, none⟩ (.slice pq nq cq)).setCell ⟨w.heap.size + 1, 0, none⟩ (.int .i64 0)) = Z := ⟨_, rfl⟩
          rw [hw12]
          have t1 : (w11.setCell ⟨w.heap.size, 1, none⟩ (.slice pq nq cq)).heap[w.heap.size]? = some (.cells #[.slice pr nr cr, .slice pq nq cq] 36 (0, 0)) := heap_setCell_same _ _ 1 _ _ (.slice pq nq cq) HT11.out
          have t2 : ((w11.setCell ⟨w.heap.size, 1, none⟩ (.slice pq nq cq)).setCell ⟨w.heap.size, 0, none⟩ (.slice pr nr cr)).heap[w.heap.size]? = some (.cells #[.slice pr nr cr, .slice pq nq cq] 36 (0, 0)) := heap_setCell_same _ _ 0 _ _ (.slice pr nr cr) t1
          have t3 : (((w11.setCell ⟨w.heap.size, 1, none⟩ (.slice pq nq cq)).setCell ⟨w.heap.size, 0, none⟩ (.slice pr nr cr)).setCell ⟨w.heap.size, 1, none⟩ (.slice pq nq cq)).heap[w.heap.size]? = some (.cells #[.slice pr nr cr, .slice pq nq cq] 36 (0, 0)) := heap_setCell_same _ _ 1 _ _ (.slice pq nq cq) t2
          have e3 : (((w11.setCell ⟨w.heap.size, 1, none⟩ (.slice pq nq cq)).setCell ⟨w.heap.size, 0, none⟩ (.slice pr nr cr)).setCell ⟨w.heap.size, 1, none⟩ (.slice pq nq cq)).heap[w.heap.size + 1]? = some (.cells #[.int .i64 0] 26 (0, 0)) := by
            rw [Below.heap_setCell _ _ _ _ (by simp), Below.heap_setCell _ _ _ _ (by simp), Below.heap_setCell _ _ _ _ (by simp)]; exact HE11.out
          have r1 := HR11.out.setT HT11.out (by decide) 1 (.slice pq nq cq)
          have r2 := r1.setT t1 (by decide) 0 (.slice pr nr cr)
          have r3 := r2.setT t2 (by decide) 1 (.slice pq nq cq)
          have q1 := HROW.out.setT HT11.out (by decide) 1 (.slice pq nq cq)
          have q2 := q1.setT t1 (by decide) 0 (.slice pr nr cr)
          have q3 := q2.setT t2 (by decide) 1 (.slice pq nq cq)
          have q4 := q3.setT e3 (by decide) 0 (.int .i64 0)
          have r4 : SwRow ((((w11.setCell ⟨w.heap.size, 1, none⟩ (.slice pq nq cq)).setCell ⟨w.heap.size, 0, none⟩ (.slice pr nr cr)).setCell ⟨w.heap.size, 1, none⟩ (.slice pq nq cq)).setCell ⟨w.heap.size + 1, 0, none⟩ (.int .i64 0)) (.slice pr nr cr) R := r3.setT e3 (by decide) 0 (.int .i64 0)
          have t4 : ((((w11.setCell ⟨w.heap.size, 1, none⟩ (.slice pq nq cq)).setCell ⟨w.heap.size, 0, none⟩ (.slice pr nr cr)).setCell ⟨w.heap.size, 1, none⟩ (.slice pq nq cq)).setCell ⟨w.heap.size + 1, 0, none⟩ (.int .i64 0)).heap[w.heap.size]? = some (.cells #[.slice pr nr cr, .slice pq nq cq] 36 (0, 0)) := by
            rw [Below.heap_setCell _ _ _ _ (by simp)]; exact t3
          have e4 := heap_setCell_same _ _ 0 _ _ (.int .i64 0) e3
          have HBW12 := Lib.hid ((((HBW11.out.setCell (p := ⟨w.heap.size, 1, none⟩) (Nat.le_refl _) (.slice pq nq cq)).setCell (p := ⟨w.heap.size, 0, none⟩) (Nat.le_refl _) (.slice pr nr cr)).setCell (p := ⟨w.heap.size, 1, none⟩) (Nat.le_refl _) (.slice pq nq cq)).setCell (p := ⟨w.heap.size + 1, 0, none⟩) (Nat.le_succ _) (.int .i64 0))
          rw [hw12] at q4 r4 t4 e4 HBW12
          have HQ4 := Lib.hid q4
          have HR4 := Lib.hid r4
          clear t1 t2 t3 e3 r1 r2 r3 q1 q2 q3 c0 c1 c2 z0 z1 z2 q4 r4 hw12
          refine leaves_cons (f := 44) (args := #[.pointer (some ⟨w.heap.size + 1, 0, none⟩), .func (.func 45) #[] #[.pointer (some ⟨w.heap.size, 0, none⟩)]]) (by simp) (by simp [go_sem]) ?_
          refine (tg_caught_idle _ _ _).mono ?_
          rintro e u' w'' ⟨rfl, rfl, rfl⟩
          have d0 : w''.cell? ⟨w.heap.size, 0, none⟩ = some (.slice pr nr cr) := by simp [World.cell?, t4]
          have d1 : w''.cell? ⟨w.heap.size, 1, none⟩ = some (.slice pq nq cq) := by simp [World.cell?, t4]
          have d2 : w''.cell? ⟨w.heap.size + 1, 0, none⟩ = some (.int .i64 0) := by simp [World.cell?, e4]
          clear t4 e4
          simp [Leaves, settle, results, Tryz.results21, go_sem, d0, d1, d2]
          rw [HPQ.out]
          exact ⟨⟨_, _, rfl, HR4.out, HQ4.out⟩, HBW12.out⟩
        · exact parse_doorW s w w11 HBW11.out (.slice pr nr cr) (.slice none 0 0) HT11.out HE11.out (by rw [Gt.parse_is HOK.out HP1.out, h1]; rfl) _ _ _ _ _ _ _ _ _ _ _ _ _ _ _ _ _ _ _ _ _ _ _ _ _ _ _ _ _ _ _ _ _
      · exact parse_doorW s w w7 HBW7.out (.slice none 0 0) (.slice none 0 0) HT7.out HE7.out (Gt.parse_segs HOK.out h1) _ _ _ _ _ _ _ _ _ _ _ _ _ _ _ _ _ _ _ _ _ _ _ _ _ _ _ _ _ _ _ _ _
end Go.Proofs.YtfacmnooklljnaaGreatDoor
