/- The program's chunks under way: put, line. -/
import Derived.Test.YtoidopdpnnogaaaDoorCk1
import Derived.Deep.RegionLawGrows
import Derived.Deep.AppendLies
namespace Go.Proofs.YtoidopdpnnogaaaDoor
set_option linter.unusedVariables false
set_option linter.unusedSimpArgs false
open Go.RowKit Go.Shelf
set_option maxHeartbeats 2000000
theorem grownBy_trans {X Y Z : World} {r : Option Nat} (h : X.grownBy Y r) (k : Y.grownBy Z r) : X.grownBy Z r :=
  ⟨k.os.trans h.os, k.tape.trans h.tape, k.output.trans h.output, Nat.le_trans h.size k.size, fun i hi hr => (k.block i (Nat.lt_of_lt_of_le hi h.size) hr).trans (h.block i hi hr)⟩
theorem grownBy_more {X Y : World} {r : Option Nat} (h : X.grownBy Y none) : X.grownBy Y r := ⟨h.os, h.tape, h.output, h.size, fun i hi _ => h.block i hi (by simp)⟩
theorem grownBy_drew (X : World) {r : Option Nat} : X.grownBy X.drew r := ⟨rfl, rfl, rfl, Nat.le_refl _, fun _ _ _ => rfl⟩
theorem grownBy_refl (X : World) {r : Option Nat} : X.grownBy X r := ⟨rfl, rfl, rfl, Nat.le_refl _, fun _ _ _ => rfl⟩
theorem own_form {w : World} {base : Nat} {e : TypeId} {size n : Nat} {v : Value} {xs : List Value} (h : w.ownsRow base e size v n xs) (hn : 0 < n) : ∃ g cap, v = .slice (some ⟨g, 0, none⟩) n cap := by
  rcases h.2 with ⟨_, h0⟩ | ⟨g, cap, _, rfl, _⟩
  · omega
  · exact ⟨g, cap, rfl⟩
/-- the buffer's block -/
def BufAt (w : World) (K : Nat) (T : TypeId) (v : Value) : Prop := w.heap[K]? = some (.cells #[v] T (0, 0))
theorem BufAt.cell {w : World} {K : Nat} {T : TypeId} {v : Value} (h : BufAt w K T v) : w.cell? ⟨K, 0, none⟩ = some v := Boxed.cell (t := T) h
theorem BufAt.frozen {w : World} {K : Nat} {T : TypeId} {v : Value} (h : BufAt w K T v) : w.frozen? ⟨K, 0, none⟩ = false := Boxed.frozen (t := T) h
theorem buf_grown {w w' : World} {K : Nat} {T : TypeId} {ao : Option Addr} {m c : Nat} {x : Value} {l : List UInt8} (hx : BRow w x l) (h : BufAt w K T (.slice ao m c)) (hg : w.grownBy w' (some K)) : BRow w' x l :=
  hx.grown h (fun k n e => by cases e) hg
set_option maxRecDepth 100000 in
theorem ck_put (K : Nat) (T : TypeId) (v pv : Value) (acc : List UInt8) (L : List (List UInt8)) (w : World) (hK : BufAt w K T v) (hv : BRow w v acc) (hp : BRows w pv L)
    (hpK : ∀ p n c, pv = .slice (some p) n c → p.block ≠ K) (hne : ∀ p ∈ L, p ≠ []) (hl : acc.length + (cat L).length ≤ 1000000) (hL : L.length ≤ 1000) :
    Calls Tryd.prog 108 #[.pointer (some ⟨K, 0, none⟩), pv] w fun e w' => e = .returned (.tuple #[]) ∧ ∃ v', BufAt w' K T v' ∧ BRow w' v' (acc ++ cat L) ∧ w.grownBy w' (some K) := by
  obtain ⟨i0, hi, hz0, hz1, hz2⟩ := info_parts info8
  obtain ⟨p, c, rfl, hc, h⟩ := hp
  obtain ⟨n, hn⟩ : ∃ n, L.length = n := ⟨_, rfl⟩
  rw [hn] at h hL ⊢
  have H := Lib.hid h
  have HN := Lib.hid hn
  have HL := Lib.hid hl
  have HPK := Lib.hid hpK
  have HNE := Lib.hid hne
  have HK0 := Lib.hid hK
  have HV0 := Lib.hid hv
  clear h hn hc hl hpK hne hK hv
  go_enter Tryd.func108, Tryd.ntmps108
  go_wp2_with fail
  go_loopw [8] (fun i wr => ∃ (k : Nat) (v' : Value), k ≤ n ∧ i = .int .i64 k ∧ BufAt wr K T v' ∧ BRow wr v' (acc ++ cat (L.take k)) ∧ w.grownBy wr (some K)) (fun i _ => n - (intOf i).toNat)
  case atStart => exact ⟨0, v, Nat.zero_le _, rfl, HK0.out, by simpa [cat] using HV0.out, grownBy_refl _⟩
  case round =>
    obtain ⟨k, v', hk, rfl, hbuf, hrow, hgr⟩ := hrel
    by_cases hlt : k < n
    · obtain ⟨g, o, rfl, hcell⟩ := H.out.resolve_left (by rintro ⟨_, e, _⟩; have := HN.out; rw [e] at this; simp at this; omega)
      obtain ⟨x, hx, hb⟩ := hcell k hlt
      have hgK : g ≠ K := HPK.out ⟨g, o, none⟩ _ _ rfl
      have hx := (World.cell?_of_block (a := ⟨g, o + k, none⟩) (hgr.block g (lt_of_cell hx) (by simpa using hgK))).trans hx
      have hb := hb.grown (x := v) (t := T) HK0.out (by obtain ⟨_, _, rfl, _⟩ := HV0.out; intro k n e; cases e) hgr
      obtain ⟨l, hl⟩ : ∃ l, L.getD k [] = l := ⟨_, rfl⟩
      have hlne : l ≠ [] := HNE.out l (by rw [← hl, List.getD_eq_getElem?_getD, List.getElem?_eq_getElem (show k < L.length by rw [HN.out]; exact hlt)]; exact List.getElem_mem _)
      have HT1 := Lib.hid (cat_take L k (by rw [HN.out]; exact hlt))
      rw [hl] at hb HT1
      obtain ⟨A, hA⟩ : ∃ A, acc ++ cat (L.take k) = A := ⟨_, rfl⟩
      have HA1 : Hid (acc ++ cat (L.take (k + 1)) = A ++ l) := Lib.hid (by rw [HT1.out, ← List.append_assoc, hA])
      have hlen : A.length + l.length ≤ 1000000 := by
        have h1 := cat_len L (k + 1)
        have h2 := HL.out
        have h3 := congrArg List.length HA1.out
        rw [List.length_append, List.length_append] at h3
        omega
      rw [hA] at hrow
      clear hcell hl hA HT1
      obtain ⟨ao2, cp, rfl, _, hd⟩ := hb
      obtain ⟨g2, o2, rfl, hd2⟩ := hd.resolve_left (by rintro ⟨_, e, _⟩; exact hlne e)
      obtain ⟨q, hq⟩ : ∃ q, l.length = q := ⟨_, rfl⟩
      have hq0 : 0 < q := by rw [← hq]; exact List.length_pos_iff.2 hlne
      have HQ := Lib.hid hq
      have HNL := Lib.hid (fun j u => BRow.news hd2 j u)
      obtain ⟨ao1, cp1, rfl, hcp1, hr⟩ := hrow
      obtain ⟨m, hm⟩ : ∃ m, A.length = m := ⟨_, rfl⟩
      have HM := Lib.hid hm
      rw [hq, hm] at hlen
      rw [hq] at hx
      rw [hm] at hbuf hcp1 hr
      have HR := Lib.hid hr
      have HBUF := Lib.hid hbuf
      have HGR := Lib.hid hgr
      have c0 := hbuf.cell
      have f0 := hbuf.frozen
      have hKlt : K < wr.heap.size := lt_of_cell c0
      clear hd hd2 hq hm hr hbuf hgr hlne
      rcases HR.out with ⟨rfl, hA0, rfl⟩ | ⟨g1, o1, rfl, hd3⟩
      · have hm0 : m = 0 := by rw [← HM.out, hA0]; rfl
        subst hm0
        have HA0 := Lib.hid hA0
        clear hA0 hcp1
        go_wp2_with fail
        go_region_law (refine step_append_grows rfl (.tmp 27) (.tmp 28) 22 rfl 5 i0 (.int .u8 0) 1 1 Tryd.underlying22 hi hz0 hz1 hz2 rfl (by decide) none 0 0 (A.map by8) (by simp [Act.eval, Act.put]) (fun _ => ⟨rfl, rfl⟩) (by rw [List.length_map, HM.out, Nat.mul_one]) (fun b e => by cases e) ⟨g2, o2, none⟩ q cp (l.map by8) (by simp [Act.eval, Act.put]) (by rw [List.length_map, HQ.out, Nat.mul_one]) HNL.out (fun u hu => by8_one u l hu) (by omega) (by unfold maxLen; omega) (by omega) ?_; intro v2 w1 hown hgrow; rw [Nat.zero_add] at hown; obtain ⟨g3, cap3, rfl⟩ := own_form hown (by omega); have hb1 : BufAt w1 K T _ := (hgrow.block K hKlt (by simp)).trans HBUF.out; have k1 := hb1.cell; have j1 := hb1.frozen; have HB1 := Lib.hid hb1; have HOWN := Lib.hid hown; have HGW := Lib.hid hgrow; clear hb1 hown hgrow)
        all_goals
          have HF : Hid (BufAt (w1.setCell ⟨K, 0, none⟩ (.slice (some ⟨g3, 0, none⟩) q cap3)) K T (.slice (some ⟨g3, 0, none⟩) q cap3) ∧ BRow (w1.setCell ⟨K, 0, none⟩ (.slice (some ⟨g3, 0, none⟩) q cap3)) (.slice (some ⟨g3, 0, none⟩) q cap3) (acc ++ cat (L.take (k + 1))) ∧ w.grownBy (w1.setCell ⟨K, 0, none⟩ (.slice (some ⟨g3, 0, none⟩) q cap3)) (some K)) := by
            have hr1 : BRow w1 (.slice (some ⟨g3, 0, none⟩) q cap3) (A ++ l) := BRow.of_own (by rw [List.map_append]; exact HOWN.out)
            refine Lib.hid ⟨Boxed.set _ HB1.out, ?_, ?_⟩
            · rw [HA1.out]
              exact hr1.grown (x := .slice _ 0 _) HB1.out (fun k n e => by cases e) (grownBy_setCell' _ _ _)
            · exact grownBy_trans HGR.out (grownBy_trans (grownBy_more (grownBy_trans (grownBy_drew _) HGW.out)) (grownBy_setCell' _ _ _))
          go_wp2
          go_roundw
          case rel => exact ⟨k + 1, _, by omega, by go_num, HF.out.1, HF.out.2.1, HF.out.2.2⟩
          case measure => simp [intOf]; omega
      · have HNA := Lib.hid (fun j u => BRow.news (o := o1) (l := A) (by rw [HM.out]; exact hd3) j u)
        clear hd3
        go_wp2_with fail
        go_region_law (refine step_append_grows rfl (.tmp 27) (.tmp 28) 22 rfl 5 i0 (.int .u8 0) 1 1 Tryd.underlying22 hi hz0 hz1 hz2 rfl (by decide) (some ⟨g1, o1, none⟩) m m (A.map by8) (by simp [Act.eval, Act.put]) (fun e => by cases e) (by rw [List.length_map, HM.out, Nat.mul_one]) (fun b e => by cases e; exact HNA.out) ⟨g2, o2, none⟩ q cp (l.map by8) (by simp [Act.eval, Act.put]) (by rw [List.length_map, HQ.out, Nat.mul_one]) HNL.out (fun u hu => by8_one u l hu) (by omega) (by unfold maxLen; omega) (by omega) ?_; intro v2 w1 hown hgrow; obtain ⟨g3, cap3, rfl⟩ := own_form hown (by omega); have hb1 : BufAt w1 K T _ := (hgrow.block K hKlt (by simp)).trans HBUF.out; have k1 := hb1.cell; have j1 := hb1.frozen; have HB1 := Lib.hid hb1; have HOWN := Lib.hid hown; have HGW := Lib.hid hgrow; clear hb1 hown hgrow)
        all_goals
          have HF : Hid (BufAt (w1.setCell ⟨K, 0, none⟩ (.slice (some ⟨g3, 0, none⟩) (m + q) cap3)) K T (.slice (some ⟨g3, 0, none⟩) (m + q) cap3) ∧ BRow (w1.setCell ⟨K, 0, none⟩ (.slice (some ⟨g3, 0, none⟩) (m + q) cap3)) (.slice (some ⟨g3, 0, none⟩) (m + q) cap3) (acc ++ cat (L.take (k + 1))) ∧ w.grownBy (w1.setCell ⟨K, 0, none⟩ (.slice (some ⟨g3, 0, none⟩) (m + q) cap3)) (some K)) := by
            have hr1 : BRow w1 (.slice (some ⟨g3, 0, none⟩) (m + q) cap3) (A ++ l) := BRow.of_own (by rw [List.map_append]; exact HOWN.out)
            refine Lib.hid ⟨Boxed.set _ HB1.out, ?_, ?_⟩
            · rw [HA1.out]
              exact hr1.grown (x := .slice _ m _) HB1.out (fun k n e => by cases e) (grownBy_setCell' _ _ _)
            · exact grownBy_trans HGR.out (grownBy_trans (grownBy_more (grownBy_trans (grownBy_drew _) HGW.out)) (grownBy_setCell' _ _ _))
          go_wp2
          go_roundw
          case rel => exact ⟨k + 1, _, by omega, by go_num, HF.out.1, HF.out.2.1, HF.out.2.2⟩
          case measure => simp [intOf]; omega
    · obtain rfl : k = n := by omega
      have hT : L.take k = L := List.take_of_length_le (by rw [HN.out]; exact Nat.le_refl _)
      rw [hT] at hrow
      have HF := Lib.hid hrow
      have HG := Lib.hid hgr
      have HB := Lib.hid hbuf
      clear hT hrow hgr hbuf
      go_wp2_with fail
      go_end0
      exact ⟨rfl, _, HB.out, HF.out, HG.out⟩
end Go.Proofs.YtoidopdpnnogaaaDoor
