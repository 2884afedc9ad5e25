/- Texts of this claim, one behind the other: Ck2, Ck3, Ck7, Ck8, Ck9, Dt, Du, Dr5, Dr6, Ck4, Ck5, Ck6, CkA, CkB, CkH, CkF, Rg, CkI, NE, NF, NG, CkD, CkG. -/
import Derived.Test.YtaekcmoogobbjaaDoorCDBm3
import Derived.Deep.RegionLawGrows
import Derived.Deep.AppendLies
import Derived.OwnWalkIn
import Derived.Deep.QuietTactic
import Derived.BigQuiet
import Derived.TacticsInMore
import Derived.LoopNIn
import Derived.LoopIn
import Derived.OrdersIn
import Derived.Test.YtaekcmoogobbjaaDoorCDBm1
import Derived.Lib.Repeat
import Derived.Lib.Case
import Derived.Lib.Walk
import Derived.Lib.ItoaMem
import Derived.Sort.Grow
import Derived.BigCall
import Derived.Lib.ConvBytes
import Derived.Lib.SmallJoins
import Derived.WideShapes
import Derived.Test.YtaekcmoogobbjaaDoorCDBm2
/- The program's chunks under way: put, line. -/
namespace Go.Proofs.YtaekcmoogobbjaaDoor
set_option linter.unusedVariables false
set_option linter.unusedSimpArgs false
open Go.RowKit Go.Shelf
set_option maxHeartbeats 2000000
theorem grownBy_trans {X Y Z : World} {r : Option Nat} (h : X.grownBy Y r) (k : Y.grownBy Z r) : X.grownBy Z r :=
  ⟨k.os.trans h.os, k.tape.trans h.tape, k.output.trans h.output, Nat.le_trans h.size k.size, fun i hi hr => (k.block i (Nat.lt_of_lt_of_le hi h.size) hr).trans (h.block i hi hr)⟩
theorem grownBy_more {X Y : World} {r : Option Nat} (h : X.grownBy Y none) : X.grownBy Y r := ⟨h.os, h.tape, h.output, h.size, fun i hi _ => h.block i hi (by simp)⟩
theorem grownBy_drew (X : World) {r : Option Nat} : X.grownBy X.drew r := ⟨rfl, rfl, rfl, Nat.le_refl _, fun _ _ _ => rfl⟩
theorem grownBy_refl (X : World) {r : Option Nat} : X.grownBy X r := ⟨rfl, rfl, rfl, Nat.le_refl _, fun _ _ _ => rfl⟩
theorem own_form {w : World} {base : Nat} {e : TypeId} {size n : Nat} {v : Value} {xs : List Value} (h : w.ownsRow base e size v n xs) (hn : 0 < n) : ∃ g cap, v = .slice (some ⟨g, 0, none⟩) n cap := by
  rcases h.2 with ⟨_, h0⟩ | ⟨g, cap, _, rfl, _⟩
  · omega
  · exact ⟨g, cap, rfl⟩
/-- the buffer's block -/
def BufAt (w : World) (K : Nat) (T : TypeId) (v : Value) : Prop := w.heap[K]? = some (.cells #[v] T (0, 0))
theorem BufAt.cell {w : World} {K : Nat} {T : TypeId} {v : Value} (h : BufAt w K T v) : w.cell? ⟨K, 0, none⟩ = some v := Boxed.cell (t := T) h
theorem BufAt.frozen {w : World} {K : Nat} {T : TypeId} {v : Value} (h : BufAt w K T v) : w.frozen? ⟨K, 0, none⟩ = false := Boxed.frozen (t := T) h
theorem buf_grown {w w' : World} {K : Nat} {T : TypeId} {ao : Option Addr} {m c : Nat} {x : Value} {l : List UInt8} (hx : BRow w x l) (h : BufAt w K T (.slice ao m c)) (hg : w.grownBy w' (some K)) : BRow w' x l :=
  hx.grown h (fun k n e => by cases e) hg
set_option maxRecDepth 100000 in
theorem ck_put (K : Nat) (T : TypeId) (v pv : Value) (acc : List UInt8) (L : List (List UInt8)) (w : World) (hK : BufAt w K T v) (hv : BRow w v acc) (hp : BRows w pv L)
    (hpK : ∀ p n c, pv = .slice (some p) n c → p.block ≠ K) (hne : ∀ p ∈ L, p ≠ []) (hl : acc.length + (cat L).length ≤ 1000000) (hL : L.length ≤ 1000) :
    Calls Tryd.prog 40 #[.pointer (some ⟨K, 0, none⟩), pv] w fun e w' => e = .returned (.tuple #[]) ∧ ∃ v', BufAt w' K T v' ∧ BRow w' v' (acc ++ cat L) ∧ w.grownBy w' (some K) := by
  obtain ⟨i0, hi, hz0, hz1, hz2⟩ := info_parts info8
  obtain ⟨p, c, rfl, hc, h⟩ := hp
  obtain ⟨n, hn⟩ : ∃ n, L.length = n := ⟨_, rfl⟩
  rw [hn] at h hL ⊢
  have H := Lib.hid h
  have HN := Lib.hid hn
  have HL := Lib.hid hl
  have HPK := Lib.hid hpK
  have HNE := Lib.hid hne
  have HK0 := Lib.hid hK
  have HV0 := Lib.hid hv
  clear h hn hc hl hpK hne hK hv
  go_enter Tryd.func40, Tryd.ntmps40
  go_wp2_with fail
  go_loopw [8] (fun i wr => ∃ (k : Nat) (v' : Value), k ≤ n ∧ i = .int .i64 k ∧ BufAt wr K T v' ∧ BRow wr v' (acc ++ cat (L.take k)) ∧ w.grownBy wr (some K)) (fun i _ => n - (intOf i).toNat)
  case atStart => exact ⟨0, v, Nat.zero_le _, rfl, HK0.out, by simpa [cat] using HV0.out, grownBy_refl _⟩
  case round =>
    obtain ⟨k, v', hk, rfl, hbuf, hrow, hgr⟩ := hrel
    by_cases hlt : k < n
    · obtain ⟨g, o, rfl, hcell⟩ := H.out.resolve_left (by rintro ⟨_, e, _⟩; have := HN.out; rw [e] at this; simp at this; omega)
      obtain ⟨x, hx, hb⟩ := hcell k hlt
      have hgK : g ≠ K := HPK.out ⟨g, o, none⟩ _ _ rfl
      have hx := (World.cell?_of_block (a := ⟨g, o + k, none⟩) (hgr.block g (lt_of_cell hx) (by simpa using hgK))).trans hx
      have hb := hb.grown (x := v) (t := T) HK0.out (by obtain ⟨_, _, rfl, _⟩ := HV0.out; intro k n e; cases e) hgr
      obtain ⟨l, hl⟩ : ∃ l, L.getD k [] = l := ⟨_, rfl⟩
      have hlne : l ≠ [] := HNE.out l (by rw [← hl, List.getD_eq_getElem?_getD, List.getElem?_eq_getElem (show k < L.length by rw [HN.out]; exact hlt)]; exact List.getElem_mem _)
      have HT1 := Lib.hid (cat_take L k (by rw [HN.out]; exact hlt))
      rw [hl] at hb HT1
      obtain ⟨A, hA⟩ : ∃ A, acc ++ cat (L.take k) = A := ⟨_, rfl⟩
      have HA1 : Hid (acc ++ cat (L.take (k + 1)) = A ++ l) := Lib.hid (by rw [HT1.out, ← List.append_assoc, hA])
      have hlen : A.length + l.length ≤ 1000000 := by
        have h1 := cat_len L (k + 1)
        have h2 := HL.out
        have h3 := congrArg List.length HA1.out
        rw [List.length_append, List.length_append] at h3
        omega
      rw [hA] at hrow
      clear hcell hl hA HT1
      obtain ⟨ao2, cp, rfl, _, hd⟩ := hb
      obtain ⟨g2, o2, rfl, hd2⟩ := hd.resolve_left (by rintro ⟨_, e, _⟩; exact hlne e)
      obtain ⟨q, hq⟩ : ∃ q, l.length = q := ⟨_, rfl⟩
      have hq0 : 0 < q := by rw [← hq]; exact List.length_pos_iff.2 hlne
      have HQ := Lib.hid hq
      have HNL := Lib.hid (fun j u => BRow.news hd2 j u)
      obtain ⟨ao1, cp1, rfl, hcp1, hr⟩ := hrow
      obtain ⟨m, hm⟩ : ∃ m, A.length = m := ⟨_, rfl⟩
      have HM := Lib.hid hm
      rw [hq, hm] at hlen
      rw [hq] at hx
      rw [hm] at hbuf hcp1 hr
      have HR := Lib.hid hr
      have HBUF := Lib.hid hbuf
      have HGR := Lib.hid hgr
      have c0 := hbuf.cell
      have f0 := hbuf.frozen
      have hKlt : K < wr.heap.size := lt_of_cell c0
      clear hd hd2 hq hm hr hbuf hgr hlne
      rcases HR.out with ⟨rfl, hA0, rfl⟩ | ⟨g1, o1, rfl, hd3⟩
      · have hm0 : m = 0 := by rw [← HM.out, hA0]; rfl
        subst hm0
        have HA0 := Lib.hid hA0
        clear hA0 hcp1
        go_wp2_with fail
        go_region_law (refine step_append_grows rfl (.tmp 27) (.tmp 28) 22 rfl 5 i0 (.int .u8 0) 1 1 Tryd.underlying22 hi hz0 hz1 hz2 rfl (by decide) none 0 0 (A.map by8) (by simp [Act.eval, Act.put]) (fun _ => ⟨rfl, rfl⟩) (by rw [List.length_map, HM.out, Nat.mul_one]) (fun b e => by cases e) ⟨g2, o2, none⟩ q cp (l.map by8) (by simp [Act.eval, Act.put]) (by rw [List.length_map, HQ.out, Nat.mul_one]) HNL.out (fun u hu => by8_one u l hu) (by omega) (by unfold maxLen; omega) (by omega) ?_; intro v2 w1 hown hgrow; rw [Nat.zero_add] at hown; obtain ⟨g3, cap3, rfl⟩ := own_form hown (by omega); have hb1 : BufAt w1 K T _ := (hgrow.block K hKlt (by simp)).trans HBUF.out; have k1 := hb1.cell; have j1 := hb1.frozen; have HB1 := Lib.hid hb1; have HOWN := Lib.hid hown; have HGW := Lib.hid hgrow; clear hb1 hown hgrow)
        all_goals
          have HF : Hid (BufAt (w1.setCell ⟨K, 0, none⟩ (.slice (some ⟨g3, 0, none⟩) q cap3)) K T (.slice (some ⟨g3, 0, none⟩) q cap3) ∧ BRow (w1.setCell ⟨K, 0, none⟩ (.slice (some ⟨g3, 0, none⟩) q cap3)) (.slice (some ⟨g3, 0, none⟩) q cap3) (acc ++ cat (L.take (k + 1))) ∧ w.grownBy (w1.setCell ⟨K, 0, none⟩ (.slice (some ⟨g3, 0, none⟩) q cap3)) (some K)) := by
            have hr1 : BRow w1 (.slice (some ⟨g3, 0, none⟩) q cap3) (A ++ l) := BRow.of_own (by rw [List.map_append]; exact HOWN.out)
            refine Lib.hid ⟨Boxed.set _ HB1.out, ?_, ?_⟩
            · rw [HA1.out]
              exact hr1.grown (x := .slice _ 0 _) HB1.out (fun k n e => by cases e) (grownBy_setCell' _ _ _)
            · exact grownBy_trans HGR.out (grownBy_trans (grownBy_more (grownBy_trans (grownBy_drew _) HGW.out)) (grownBy_setCell' _ _ _))
          go_wp2
          go_roundw
          case rel => exact ⟨k + 1, _, by omega, by go_num, HF.out.1, HF.out.2.1, HF.out.2.2⟩
          case measure => simp [intOf]; omega
      · have HNA := Lib.hid (fun j u => BRow.news (o := o1) (l := A) (by rw [HM.out]; exact hd3) j u)
        clear hd3
        go_wp2_with fail
        go_region_law (refine step_append_grows rfl (.tmp 27) (.tmp 28) 22 rfl 5 i0 (.int .u8 0) 1 1 Tryd.underlying22 hi hz0 hz1 hz2 rfl (by decide) (some ⟨g1, o1, none⟩) m m (A.map by8) (by simp [Act.eval, Act.put]) (fun e => by cases e) (by rw [List.length_map, HM.out, Nat.mul_one]) (fun b e => by cases e; exact HNA.out) ⟨g2, o2, none⟩ q cp (l.map by8) (by simp [Act.eval, Act.put]) (by rw [List.length_map, HQ.out, Nat.mul_one]) HNL.out (fun u hu => by8_one u l hu) (by omega) (by unfold maxLen; omega) (by omega) ?_; intro v2 w1 hown hgrow; obtain ⟨g3, cap3, rfl⟩ := own_form hown (by omega); have hb1 : BufAt w1 K T _ := (hgrow.block K hKlt (by simp)).trans HBUF.out; have k1 := hb1.cell; have j1 := hb1.frozen; have HB1 := Lib.hid hb1; have HOWN := Lib.hid hown; have HGW := Lib.hid hgrow; clear hb1 hown hgrow)
        all_goals
          have HF : Hid (BufAt (w1.setCell ⟨K, 0, none⟩ (.slice (some ⟨g3, 0, none⟩) (m + q) cap3)) K T (.slice (some ⟨g3, 0, none⟩) (m + q) cap3) ∧ BRow (w1.setCell ⟨K, 0, none⟩ (.slice (some ⟨g3, 0, none⟩) (m + q) cap3)) (.slice (some ⟨g3, 0, none⟩) (m + q) cap3) (acc ++ cat (L.take (k + 1))) ∧ w.grownBy (w1.setCell ⟨K, 0, none⟩ (.slice (some ⟨g3, 0, none⟩) (m + q) cap3)) (some K)) := by
            have hr1 : BRow w1 (.slice (some ⟨g3, 0, none⟩) (m + q) cap3) (A ++ l) := BRow.of_own (by rw [List.map_append]; exact HOWN.out)
            refine Lib.hid ⟨Boxed.set _ HB1.out, ?_, ?_⟩
            · rw [HA1.out]
              exact hr1.grown (x := .slice _ m _) HB1.out (fun k n e => by cases e) (grownBy_setCell' _ _ _)
            · exact grownBy_trans HGR.out (grownBy_trans (grownBy_more (grownBy_trans (grownBy_drew _) HGW.out)) (grownBy_setCell' _ _ _))
          go_wp2
          go_roundw
          case rel => exact ⟨k + 1, _, by omega, by go_num, HF.out.1, HF.out.2.1, HF.out.2.2⟩
          case measure => simp [intOf]; omega
    · obtain rfl : k = n := by omega
      have hT : L.take k = L := List.take_of_length_le (by rw [HN.out]; exact Nat.le_refl _)
      rw [hT] at hrow
      have HF := Lib.hid hrow
      have HG := Lib.hid hgr
      have HB := Lib.hid hbuf
      clear hT hrow hgr hbuf
      go_wp2_with fail
      go_end0
      exact ⟨rfl, _, HB.out, HF.out, HG.out⟩
end Go.Proofs.YtaekcmoogobbjaaDoor

/- A line of a chunk: the parts, and the bytes with which lines end. -/
namespace Go.Proofs.YtaekcmoogobbjaaDoor
set_option linter.unusedVariables false
set_option linter.unusedSimpArgs false
open Go.RowKit Go.Shelf
set_option maxHeartbeats 2000000
theorem info8s : (Tryd.prog.info? 22).map (fun i => (i.zero, i.size, i.bytes)) = some (some (.slice none 0 0), 1, 24) := by kernel_rfl
theorem brows_vals {w : World} {L : List (List UInt8)} {g o n : Nat} (hn : L.length = n) (h : ∀ k, k < n → ∃ x, w.cell? ⟨g, o + k, none⟩ = some x ∧ BRow w x (L.getD k [])) :
    ∃ xs : List Value, xs.length = n ∧ ∀ k, k < n → w.cell? ⟨g, o + k, none⟩ = some (xs.getD k (.slice none 0 0)) ∧ BRow w (xs.getD k (.slice none 0 0)) (L.getD k []) := by
  refine ⟨(List.range n).map fun k => if hk : k < n then Classical.choose (h k hk) else .slice none 0 0, by simp, fun k hk => ?_⟩
  have e : ((List.range n).map fun k => if hk : k < n then Classical.choose (h k hk) else .slice none 0 0).getD k (.slice none 0 0) = Classical.choose (h k hk) := by
    rw [List.getD_eq_getElem?_getD, List.getElem?_map, List.getElem?_range hk]
    simp [hk]
  rw [e]
  exact Classical.choose_spec (h k hk)
/-- what a slice of slices of the call's own owns -/
theorem brows_own {w : World} {base n : Nat} {v : Value} {xs : List Value} {L : List (List UInt8)} (h : w.ownsRow base 22 1 v n xs) (hn : L.length = n) (hx : ∀ k, k < n → BRow w (xs.getD k (.slice none 0 0)) (L.getD k [])) : BRows w v L := by
  subst hn
  rcases h.2 with ⟨rfl, h0⟩ | ⟨g, cap, cur, rfl, hb, hg, hn, hm, hs, ht⟩
  · have : L = [] := List.length_eq_zero_iff.1 h0
    subst this
    exact ⟨none, 0, rfl, Nat.le_refl _, .inl ⟨rfl, rfl, rfl⟩⟩
  · refine ⟨_, cap, rfl, hn, .inr ⟨g, 0, rfl, fun k hk => ⟨_, ?_, hx k hk⟩⟩⟩
    rw [Nat.zero_add]
    unfold World.cell?
    rw [show (⟨g, k, none⟩ : Addr).block = g from rfl, hg]
    show (if (none : Option _).isSome then none else cur[k]?) = _
    have h1 : (cur.toList.take (L.length * 1))[k]? = xs[k]? := by rw [ht]
    rw [List.getElem?_take_of_lt (by omega)] at h1
    have hlt : k < xs.length := by rw [h.1]; omega
    rw [if_neg (by simp), ← Array.getElem?_toList, h1, List.getD_eq_getElem?_getD, List.getElem?_eq_getElem hlt]
    rfl
theorem cell_one_any (w : World) (x : Value) {t : TypeId} (j : Nat) (u : Value) (hj : [x][j]? = some u) : (w.alloc (.cells #[x] t)).cell? ((⟨w.heap.size, 0, none⟩ : Addr).add j) = some u := by
  match j, hj with
  | 0, hj =>
    obtain rfl : x = u := by simpa using hj
    exact (Boxed.new w t x).cell
set_option maxRecDepth 100000 in
theorem ck_line (K : Nat) (T : TypeId) (v pv : Value) (acc : List UInt8) (L : List (List UInt8)) (w : World) (hK : BufAt w K T v) (hv : BRow w v acc) (hp : BRows w pv L)
    (hne : ∀ p ∈ L, p ≠ []) (hl : acc.length + (cat L).length ≤ 900000) (hL : L.length ≤ 900) :
    Calls Tryd.prog 29 #[.pointer (some ⟨K, 0, none⟩), pv] w fun e w' => e = .returned (.tuple #[]) ∧ ∃ v', BufAt w' K T v' ∧ BRow w' v' (acc ++ cat L ++ [13, 10]) ∧ w.grownBy w' (some K) := by
  obtain ⟨i0, hi, hz0, hz1, hz2⟩ := info_parts info8s
  have HK0 := Lib.hid hK
  have HV0 := Lib.hid hv
  have HNE := Lib.hid hne
  have HL := Lib.hid hl
  have hKlt : K < w.heap.size := lt_of_cell hK.cell
  obtain ⟨p, c, rfl, hc, h⟩ := hp
  obtain ⟨n, hn⟩ : ∃ n, L.length = n := ⟨_, rfl⟩
  rw [hn] at h hL hc ⊢
  have HN := Lib.hid hn
  clear hK hv hne hl
  have KEY : ∀ (w1 : World) (w2 : World) (b E : Nat) (xs : List Value) (v2 : Value), Below w.heap.size w w1 → w.heap.size ≤ b → BRow w1 (.slice (some ⟨E, 0, none⟩) 2 2) [13, 10] → xs.length = n → (∀ k, k < n → BRow w1 (xs.getD k (.slice none 0 0)) (L.getD k [])) →
      w2.ownsRow b 22 1 v2 (n + 1) (xs ++ [.slice (some ⟨E, 0, none⟩) 2 2]) → w1.grownBy w2 none →
      Calls Tryd.prog 40 #[.pointer (some ⟨K, 0, none⟩), v2] w2 fun e w' => e = .returned (.tuple #[]) ∧ ∃ v', BufAt w' K T v' ∧ BRow w' v' (acc ++ cat L ++ [13, 10]) ∧ w.grownBy w' (some K) := by
    intro w1 w2 b E xs v2 hb1 hbb hE hxl hxs hown hgw
    have hw2 : Below w.heap.size w w2 := hb1.grown hgw hb1.size (fun _ e => by cases e)
    have hw12 : Below w1.heap.size w1 w2 := ⟨hgw.os, hgw.tape, hgw.output, hgw.size, fun k hk => hgw.block k hk (by simp)⟩
    have hc1 : cat (L ++ [[13, 10]]) = cat L ++ [13, 10] := by unfold cat; simp
    have hrows : BRows w2 v2 (L ++ [[13, 10]]) := by
      refine brows_own hown (by rw [List.length_append, HN.out]; rfl) (fun k hk => ?_)
      by_cases hk1 : k < n
      · rw [List.getD_eq_getElem?_getD, List.getElem?_append_left (by omega), List.getD_eq_getElem?_getD, List.getElem?_append_left (by rw [HN.out]; exact hk1)]
        have := (hxs k hk1).below hw12
        rwa [List.getD_eq_getElem?_getD, List.getD_eq_getElem?_getD] at this
      · obtain rfl : k = n := by omega
        rw [List.getD_eq_getElem?_getD, List.getElem?_append_right (by omega), List.getD_eq_getElem?_getD, List.getElem?_append_right (by rw [HN.out]; exact Nat.le_refl _), hxl, HN.out, Nat.sub_self]
        exact hE.below hw12
    obtain ⟨g3, cap3, rfl⟩ := own_form hown (by omega)
    have hg3 : b ≤ g3 := own8_ge hown g3 rfl
    refine (ck_put K T v (.slice (some ⟨g3, 0, none⟩) (n + 1) cap3) acc (L ++ [[13, 10]]) w2 ((hw2.block K hKlt).trans HK0.out) (HV0.out.below hw2) hrows (fun p m c e => by cases e; show g3 ≠ K; omega) ?_ ?_ ?_).mono ?_
    · intro x hx
      rcases List.mem_append.1 hx with hx | hx
      · exact HNE.out x hx
      · have : x = [13, 10] := by simpa using hx
        rw [this]; simp
    · have := HL.out
      rw [hc1, List.length_append]
      show _ + (_ + 2) ≤ _
      omega
    · rw [List.length_append, HN.out]; show n + 1 ≤ _; omega
    · rintro e w' ⟨he, v', h1, h2, h3⟩
      exact ⟨he, v', h1, by rw [List.append_assoc, ← hc1]; exact h2, grownBy_trans ⟨hw2.os, hw2.tape, hw2.output, hw2.size, fun k hk _ => hw2.block k hk⟩ h3⟩
  have HKEY := Lib.hid KEY
  clear KEY
  go_enter Tryd.func29, Tryd.ntmps29
  go_wp2_with fail
  refine (ck_ends _).mono ?_
  rintro e w1 ⟨rfl, hb1⟩
  have HB1 := Lib.hid hb1
  clear hb1
  go_wp2_with fail
  obtain ⟨E, hE⟩ : ∃ E, w1.heap.size = E := ⟨_, rfl⟩
  obtain ⟨W2, hW2⟩ : ∃ W2, w1.alloc (.cells #[.int .u8 13, .int .u8 10] 79) = W2 := ⟨_, rfl⟩
  have HBW : Hid (Below w.heap.size w W2) := Lib.hid (by rw [← hW2]; exact HB1.out.alloc HB1.out.size _)
  have HE : Hid (BRow W2 (.slice (some ⟨E, 0, none⟩) 2 2) [13, 10]) := Lib.hid (by
    refine ⟨_, 2, rfl, Nat.le_refl _, .inr ⟨E, 0, rfl, fun j hj => ?_⟩⟩
    rw [← hW2, ← hE, Nat.zero_add]
    rw [World.cell?_alloc_new]
    match j, hj with
    | 0, _ => rfl
    | 1, _ => rfl
    | n + 2, h => exact absurd h (by simp))
  have H2 := Lib.hid (fun (h : ∃ g o, p = some ⟨g, o, none⟩ ∧ ∀ k, k < n → ∃ x, w.cell? ⟨g, o + k, none⟩ = some x ∧ BRow w x (L.getD k [])) => h)
  rw [hE, hW2]
  rcases h with ⟨rfl, hL0, rfl⟩ | ⟨g, o, rfl, hcell⟩
  · have hn0 : n = 0 := by rw [← HN.out, hL0]; rfl
    subst hn0
    obtain ⟨XS, hXS⟩ : ∃ XS : List Value, [] = XS := ⟨_, rfl⟩
    have HXL : Hid (XS.length = 0) := Lib.hid (by rw [← hXS]; rfl)
    have HXS : Hid (∀ k, k < 0 → BRow W2 (XS.getD k (.slice none 0 0)) (L.getD k [])) := Lib.hid (fun k hk => absurd hk (by omega))
    clear hL0 hXS hE hW2 hc H2
    go_region_law (first | (refine step_append_grows rfl (.tmp 14) (.tmp 16) 37 rfl 22 i0 (.slice none 0 0) 1 24 Tryd.underlying37 hi hz0 hz1 hz2 rfl (by decide) none 0 0 XS (by simp [Act.eval, Act.put]) (fun _ => ⟨rfl, rfl⟩) (HXL.out.trans (Nat.mul_one _).symm) (fun b e => by cases e) ⟨_, 0, none⟩ 1 1 [.slice (some ⟨E, 0, none⟩) 2 2] (by simp [Act.eval, Act.put]) rfl (fun j u hj => cell_one_any _ _ j u hj) (fun u hu => by simp at hu; subst hu; rfl) (by omega) (by unfold maxLen; omega) (by omega) ?_; intro v2 w2 hown hgw; have HP := Lib.hid (HKEY.out _ w2 (W2.heap.size + 1) E XS v2 (by first | exact (HBW.out.drew).alloc HBW.out.size _ | exact (HBW.out.alloc HBW.out.size _).drew) (by have := HBW.out.size; omega) (HE.out.below (by first | exact (Below.refl _ W2).drew.alloc (Nat.le_refl _) _ | exact ((Below.refl _ W2).alloc (Nat.le_refl _) _).drew)) HXL.out (fun k hk => (HXS.out k hk).below (by first | exact (Below.refl _ W2).drew.alloc (Nat.le_refl _) _ | exact ((Below.refl _ W2).alloc (Nat.le_refl _) _).drew)) (by simpa using hown) hgw); clear hown hgw) | (go_simp; go_at_call 40; refine HP.out.mono ?_; rintro e w3 ⟨rfl, hpost⟩; have HPOST := Lib.hid hpost; clear hpost))
    all_goals
      go_wp2_with fail
      go_end0
      exact ⟨rfl, HPOST.out⟩
  · obtain ⟨XS, hxl, hxs⟩ := brows_vals HN.out hcell
    have HXL := Lib.hid hxl
    have HXS : Hid (∀ k, k < n → BRow W2 (XS.getD k (.slice none 0 0)) (L.getD k [])) := Lib.hid (fun k hk => ((hxs k hk).2).below HBW.out)
    have HCL : Hid (∀ j u, XS[j]? = some u → W2.cell? ((⟨g, o, none⟩ : Addr).add j) = some u) := Lib.hid (fun j u hj => by
      have hlt := (List.getElem?_eq_some_iff.1 hj).1
      have h1 := (hxs j (by omega)).1
      rw [List.getD_eq_getElem?_getD, hj] at h1
      rw [Lib.add_plain]
      exact cell_below HBW.out h1)
    have HCL2 : Hid (∀ o', ∀ j u, XS[j]? = some u → (W2.drew.alloc o').cell? ((⟨g, o, none⟩ : Addr).add j) = some u) := Lib.hid (fun o' j u hj => by
      have h1 := HCL.out j u hj
      rw [Lib.add_plain] at h1 ⊢
      exact cell_below ((Below.refl _ W2).drew.alloc (Nat.le_refl _) _) h1)
    clear hxl hxs hcell hE hW2 H2
    go_region_law (first | (refine step_append_grows rfl (.tmp 14) (.tmp 16) 37 rfl 22 i0 (.slice none 0 0) 1 24 Tryd.underlying37 hi hz0 hz1 hz2 rfl (by decide) (some ⟨g, o, none⟩) n n XS (by simp [Act.eval, Act.put]) (fun e => by cases e) (HXL.out.trans (Nat.mul_one _).symm) (fun b e => by cases e; exact HCL2.out _) ⟨_, 0, none⟩ 1 1 [.slice (some ⟨E, 0, none⟩) 2 2] (by simp [Act.eval, Act.put]) rfl (fun j u hj => cell_one_any _ _ j u hj) (fun u hu => by simp at hu; subst hu; rfl) (by omega) (by unfold maxLen; omega) (by omega) ?_; intro v2 w2 hown hgw; have HP := Lib.hid (HKEY.out _ w2 (W2.heap.size + 1) E XS v2 (by first | exact (HBW.out.drew).alloc HBW.out.size _ | exact (HBW.out.alloc HBW.out.size _).drew) (by have := HBW.out.size; omega) (HE.out.below (by first | exact (Below.refl _ W2).drew.alloc (Nat.le_refl _) _ | exact ((Below.refl _ W2).alloc (Nat.le_refl _) _).drew)) HXL.out (fun k hk => (HXS.out k hk).below (by first | exact (Below.refl _ W2).drew.alloc (Nat.le_refl _) _ | exact ((Below.refl _ W2).alloc (Nat.le_refl _) _).drew)) (by simpa using hown) hgw); clear hown hgw) | (go_simp; go_at_call 40; refine HP.out.mono ?_; rintro e w3 ⟨rfl, hpost⟩; have HPOST := Lib.hid hpost; clear hpost))
    all_goals
      go_wp2_with fail
      go_end0
      exact ⟨rfl, HPOST.out⟩
end Go.Proofs.YtaekcmoogobbjaaDoor

/- Go's slices.Chunk over bytes. -/
namespace Go.Proofs.YtaekcmoogobbjaaDoor
set_option linter.unusedVariables false
set_option linter.unusedSimpArgs false
open Go.RowKit Go.Shelf
attribute [local go_sem] Oper.semAt_some
set_option maxHeartbeats 2000000
set_option maxRecDepth 100000 in
theorem sl_chunk (ao : Option Addr) (m c : Nat) (n : Int) (w : World) (hn : ¬ n < 1) (hn2 : n ≤ 1000000) :
    Calls Tryd.prog 27 #[.slice ao m c, .int .i64 n] w fun e w' => e = .returned (.func (.func 36) #[] #[.pointer (some ⟨w.heap.size, 0, none⟩), .pointer (some ⟨w.heap.size + 1, 0, none⟩)])
      ∧ w' = (w.alloc (.cells #[.slice ao m c] 22)).alloc (.cells #[.int .i64 n] 3) := by
  go_enter Tryd.func27, Tryd.ntmps27
  go_wp2
  go_ret
  exact ⟨rfl, rfl⟩
/-- n bytes at a time: N pieces -/
def PieN (len n N : Nat) : Prop := ∀ k, k * n < len ↔ k < N
theorem turn_drewN (B : Nat) (own : Nat → Prop) (W : World) (n : Nat) : Turn B own W (W.drewN n) := ⟨rfl, rfl, rfl, Nat.le_refl _, fun _ _ _ _ => rfl⟩
theorem chunk1_it (m : Nat) (g o len cap n N B C : Nat) (own : Nat → Prop) (Kp : World → World → Prop) (hB : ¬ own B) (hC : ¬ own C)
    (hKp : ∀ X Y, Kp X Y → Y.heap[B]? = X.heap[B]? ∧ Y.heap[C]? = X.heap[C]?) (hn : 1 ≤ n) (hn2 : n ≤ 1000000) (hl : len ≤ 1000000) (hlc : len ≤ cap) (hN : PieN len n N) (W : World)
    (hWB : Boxed W B 22 (.slice (some ⟨g, o, none⟩) len cap)) (hWC : Boxed W C 3 (.int .i64 n)) :
    IterAt Fence.wide m Tryd.prog 36 #[.pointer (some ⟨B, 0, none⟩), .pointer (some ⟨C, 0, none⟩)] (fun k => #[.slice (some ⟨g, o + k * n, none⟩) (min n (len - k * n)) (min n (len - k * n))]) N own Kp W := by
  intro l J Jx hJ hJx hY h0
  refine callsIn_of_wp Tryd.func36 rfl trivial ?_ rfl
  simp only [Tryd.ntmps36, List.size_toArray, List.length_cons, List.length_nil, Nat.reduceAdd, Nat.reduceSub, Array.replicate_succ, Array.replicate_zero, List.push_toArray, List.append_toArray, List.nil_append, List.cons_append]
  gi_wp2
  gi_loopw [4] (fun i wr => ∃ k : Nat, k ≤ N ∧ i = .int .i64 (k * n : Nat) ∧ J k wr ∧ Boxed wr B 22 (.slice (some ⟨g, o, none⟩) len cap) ∧ Boxed wr C 3 (.int .i64 n)) (fun i _ => len + n - (intOf i).toNat)
  case atStart => exact ⟨0, Nat.zero_le _, by simp, h0, hWB, hWC⟩
  case round =>
    obtain ⟨k, hk, rfl, hj, hb, hc⟩ := hrel
    have hcB := hb.cell
    have hcC := hc.cell
    obtain ⟨i, hi⟩ : ∃ i, k * n = i := ⟨_, rfl⟩
    have HI := Lib.hid hi
    rw [hi]
    have HN1 := Lib.hid (hN k)
    by_cases hlt : i < len
    · have hkN : k < N := (hN k).1 (by rw [hi]; exact hlt)
      have HJ := Lib.hid hj
      have HBX := Lib.hid hb
      have HCX := Lib.hid hc
      clear hi hj hb hc
      gi_wp2
      refine wpIn_wide.2 ?_
      go_quiet (fail)
      have HT := Lib.hid (turn_drewN W.heap.size own wr nq)
      obtain ⟨X, hX⟩ : ∃ X, wr.drewN nq = X := ⟨_, rfl⟩
      obtain ⟨e, he⟩ : ∃ e, min n (len - i) = e := ⟨_, rfl⟩
      have he2 : (min (n : Int) ((len - i : Nat) : Int)) = (e : Int) := by rw [← he]; omega
      have he3 : e ≤ len - i := by omega
      have he4 : 0 < e := by omega
      have he5 : (0 : Int) < e := by omega
      have he6 : i + e ≤ cap := by omega
      rw [hX] at HT ⊢
      rw [he2]
      have hJX := hJ _ _ _ HJ.out HT.out
      have hBX := HT.out.boxed HBX.out hB
      have hCX := HT.out.boxed HCX.out hC
      obtain ⟨fn, tmps, assign, body, hy, hR⟩ := hY k X hkN hJX
      rw [HI.out, he] at hy
      have HE := Lib.hid he
      clear he he2 hX hJX hcB hcC
      have hcB := hBX.cell
      have hcC := hCX.cell
      have HBX := Lib.hid hBX
      have HCX := Lib.hid hCX
      clear hBX hCX
      gi_wp2
      refine ⟨(fun h => by cases h), hR.mono ?_⟩
      rintro z Y (⟨rfl, hj', hkp, _⟩ | ⟨rfl, hjx, _⟩)
      · have hBY : Boxed Y B 22 (.slice (some ⟨g, o, none⟩) len cap) := (hKp _ _ hkp).1.trans HBX.out
        have hCY : Boxed Y C 3 (.int .i64 n) := (hKp _ _ hkp).2.trans HCX.out
        have hcBY := hBY.cell
        have hcCY := hCY.cell
        have HBY := Lib.hid hBY
        have HCY := Lib.hid hCY
        clear hBY hCY hcB hcC hy
        gi_wp2
        go_roundw
        case rel =>
          have h1 := HI.out
          exact ⟨k + 1, by omega, by rw [Nat.add_mul, h1]; simp, hj', HBY.out, HCY.out⟩
        case measure => simp [intOf]; omega
      · gi_wp2
        refine bodyPost_ret (results_none rfl _ _ _) rfl ?_
        exact ⟨⟨_, rfl⟩, .inr hjx⟩
    · clear hi
      gi_wp2
      go_end0
      have hkN : k = N := by
        have h1 := HN1.out
        have h2 := HI.out
        have h3 : ¬ k < N := fun h => hlt (by have := h1.2 h; omega)
        omega
      exact ⟨⟨_, rfl⟩, .inl (hkN ▸ hj)⟩
end Go.Proofs.YtaekcmoogobbjaaDoor

/- The program's chunks: Cut. Laws for a round's region that draws its order. -/
namespace Go.Proofs.YtaekcmoogobbjaaDoor
set_option linter.unusedVariables false
set_option linter.unusedSimpArgs false
open Go.RowKit Go.Shelf
attribute [local go_sem] Oper.semAt_some
set_option maxHeartbeats 2000000
/-! an operation of a round, out of the plain one -/
theorem op_round {P : Program} {l n : Nat} {o : Oper} {a : Act} {w : World} {K : Act → World → Prop} {Q : Exit → Act → World → Prop} (hd : ∀ c, o.op ≠ .defer c) (h : o.wp P a w K Q) :
    o.wpIn (Fence.wide.inRound l) n P a w K Q := by
  refine ⟨fun _ _ => trivial, ?_⟩
  rw [Fence.inRound_round, Oper.semAt_some l _ _ hd]
  unfold Oper.wp at h
  generalize (execOp a.eval o).run P w = r at h ⊢
  cases r with
  | ok x w' =>
    cases x <;> simp only [Oper.upon, Oper.uponIn] at h ⊢ <;>
      first
        | exact h
        | exact ⟨(fun e => by cases e), CallsIn.inRound l (callsIn_wide.2 h)⟩
        | exact ⟨(fun e => by cases e), fun c cs _ => let ⟨v, w', r, s⟩ := h c cs; ⟨v, w', r, stepsIn_wide.2 s⟩⟩
  | halt x w' => cases x <;> simp only [Oper.upon, Oper.uponIn] at h ⊢ <;> exact h
theorem ready_round {P : Program} {l n : Nat} {md : Region.Mode} {ops : Array Oper} {Q : Exit → Act → World → Prop} {fuel : Nat} {listed : Array Bool} {a : Act} {w : World} {i : Nat} {o : Oper} {rs : List Nat}
    (ho : ops[i]? = some o) (hg : o.guard = none) (hd : ∀ c, o.op ≠ .defer c)
    (h : ∀ K : Act → World → Prop, (∀ a w, wpAnyIn (Fence.wide.inRound l) n P md ops Q fuel (listed.setIfInBounds i true) a w → K a w) → o.wp P a w K Q)
    (hs : AllReadyIn (Fence.wide.inRound l) n P md ops Q fuel listed a w rs) : AllReadyIn (Fence.wide.inRound l) n P md ops Q fuel listed a w (i :: rs) :=
  AllReadyIn.cons ho (fun K hK => by rw [if_pos (by simp [Region.wanted, hg])]; exact op_round hd (h K hK)) hs
/-! rows of the call's own, under an iterator's turn -/
theorem cell_cells {W : World} {g o : Nat} {u : Value} (h : W.cell? ⟨g, o, none⟩ = some u) : ∀ x, W.heap[g]? = some x → x.isCells = true := by
  intro x hx
  simp only [World.cell?, hx] at h
  cases x <;> simp_all [Obj.isCells]
theorem turn_cell {B : Nat} {own : Nat → Prop} {W W' : World} {g o : Nat} {u : Value} (ht : Turn B own W W') (h : W.cell? ⟨g, o, none⟩ = some u) (hr : ¬ own g) : W'.cell? ⟨g, o, none⟩ = some u :=
  (World.cell?_of_block (a := ⟨g, o, none⟩) (ht.block g (lt_of_cell h) hr (fun _ x hx => cell_cells h x hx))).trans h
theorem turn_brow {B : Nat} {own : Nat → Prop} {W W' : World} {v : Value} {l : List UInt8} (ht : Turn B own W W') (h : BRow W v l) (hr : ∀ g, ¬ own g) : BRow W' v l := by
  obtain ⟨ao, cap, rfl, hc, h⟩ := h
  refine ⟨ao, cap, rfl, hc, ?_⟩
  rcases h with h | ⟨g, o, rfl, h⟩
  · exact .inl h
  · exact .inr ⟨g, o, rfl, fun j hj => turn_cell ht (h j hj) (hr g)⟩
theorem turn_own {B b : Nat} {own : Nat → Prop} {W W' : World} {e : TypeId} {size n : Nat} {v : Value} {xs : List Value} (ht : Turn B own W W') (h : W.ownsRow b e size v n xs) (hr : ∀ g, ¬ own g) : W'.ownsRow b e size v n xs := by
  refine ⟨h.1, ?_⟩
  rcases h.2 with h0 | ⟨g, cap, cur, rfl, hb, hg, rest⟩
  · exact .inl h0
  · exact .inr ⟨g, cap, cur, rfl, hb, ht.cells hg rfl (hr g), rest⟩
theorem own_apart {W : World} {b b' : Nat} {e e' : TypeId} {size size' n n' : Nat} {v x : Value} {xs ys : List Value} (he : e ≠ e') (h : W.ownsRow b e size v n xs) (h' : W.ownsRow b' e' size' x n' ys) : x.ownBlock = none ∨ x.ownBlock ≠ v.ownBlock := by
  rcases h'.2 with ⟨rfl, _⟩ | ⟨g', cap', cur', rfl, _, hg', _⟩
  · exact .inl rfl
  · right
    rcases h.2 with ⟨rfl, _⟩ | ⟨g, cap, cur, rfl, _, hg, _⟩
    · simp [Value.ownBlock]
    · intro e1
      simp only [Value.ownBlock, Option.some.injEq] at e1
      subst e1
      rw [hg] at hg'
      simp only [Option.some.injEq, Obj.cells.injEq] at hg'
      exact he hg'.2.1
theorem own_less {W : World} {b b' : Nat} {e : TypeId} {size n : Nat} {v : Value} {xs : List Value} (h : W.ownsRow b e size v n xs) (hb : b' ≤ b) : W.ownsRow b' e size v n xs :=
  ⟨h.1, h.2.elim .inl (fun ⟨g, cap, cur, hv, hg, r⟩ => .inr ⟨g, cap, cur, hv, Nat.le_trans hb hg, r⟩)⟩
theorem brow_piece {W : World} {g o n cap : Nat} {l : List UInt8} (h : BRow W (.slice (some ⟨g, o, none⟩) n cap) l) (i e : Nat) (he : i + e ≤ n) (m : Nat) (hm : e = min m (n - i)) : BRow W (.slice (some ⟨g, o + i, none⟩) e e) ((l.drop i).take m) := by
  obtain ⟨ao, c, h1, hc, h⟩ := h
  cases h1
  rcases h with ⟨h, _⟩ | ⟨g', o', h1, h⟩
  · cases h
  cases h1
  have hl : ((l.drop i).take m).length = e := by rw [List.length_take, List.length_drop]; omega
  refine ⟨some ⟨g, o + i, none⟩, e, by rw [hl], by omega, .inr ⟨g, o + i, rfl, fun j hj => ?_⟩⟩
  rw [hl] at hj
  have h2 := h (i + j) (by omega)
  rw [Nat.add_assoc, h2]
  congr 2
  rw [List.getD_eq_getElem?_getD, List.getD_eq_getElem?_getD, List.getElem?_take_of_lt (by omega), List.getElem?_drop]
set_option maxRecDepth 100000 in
theorem ck_clone2 (g o n cap : Nat) (l : List UInt8) (w : World) (h : BRow w (.slice (some ⟨g, o, none⟩) n cap) l) (hl : n ≤ 1000000) :
    Calls Tryd.prog 16 #[.slice (some ⟨g, o, none⟩) n cap] w fun e w' => ∃ r, e = .returned r ∧ w'.ownsRow w.heap.size 5 1 r n (l.map by8) ∧ Below w.heap.size w w' := by
  obtain ⟨i0, hi, hz0, hz1, hz2⟩ := info_parts info8
  obtain ⟨ao, cap', h1, hc, h⟩ := h
  cases h1
  rcases h with ⟨h, _⟩ | ⟨g', o', h1, h⟩
  · cases h
  cases h1
  have hq : ∀ W, (binOp BinOp.eql 22 (.slice (some ⟨g, o, none⟩) l.length cap) (.slice none 0 0)).run Tryd.prog W = .ok (.bool false) W := fun W => by kernel_rfl
  obtain ⟨n, hn⟩ : ∃ n, l.length = n := ⟨_, rfl⟩
  have HN := Lib.hid hn
  rw [hn] at hq hl ⊢
  have H := Lib.hid h
  have HC := Lib.hid hc
  have hnl : n ≤ 1000000 := by omega
  clear h hc hl hn
  go_enter Tryd.func16, Tryd.ntmps16
  have HO : Hid ((w.alloc (.cells #[] 5)).ownsRow w.heap.size 5 1 (.slice (some ⟨w.heap.size, 0, none⟩) 0 0) 0 []) :=
    ⟨rfl, .inr ⟨w.heap.size, 0, #[], rfl, Nat.le_refl _, World.alloc_heap_new w _, Nat.le_refl _, Nat.zero_le _, rfl, rfl⟩⟩
  go_wp2_with (at_builtin; refine wpList_append_own _ rfl _ _ 22 rfl w.heap.size 5 i0 (.int .u8 0) 1 1 Tryd.underlying22 hi hz0 hz1 hz2 rfl (by decide) _ _ _ rfl HO.out ⟨g, o, none⟩ n cap (l.map by8) rfl ?c1 ?c2 ?c3 ?c4 ?c5 ?c6 ?_)
  case c1 => rw [List.length_map, HN.out, Nat.mul_one]
  case c2 =>
    intro j u hj
    have h := BRow.news H.out j u hj
    rw [Lib.add_plain] at h ⊢
    exact cell_below ((Below.refl _ w).alloc (Nat.le_refl _) _) h
  case c3 => exact fun u hu => by8_one u l hu
  case c4 => unfold maxLen; omega
  case c5 => omega
  case c6 => simp
  intro v' w1 hown hgrow _
  have hB : Below w.heap.size w w1 := ((Below.refl _ w).alloc (Nat.le_refl _) _).grown hgrow (by simp) (fun k hk => by simp [Value.ownBlock] at hk; omega)
  have HR := Lib.hid hown
  have HB := Lib.hid hB
  clear hown hgrow hB
  go_wp2
  go_ret
  exact ⟨_, rfl, by simpa using HR.out, HB.out⟩
/-- the pieces of a list, n bytes at a time -/
def pies (n N : Nat) (l : List UInt8) : List (List UInt8) := (List.range N).map fun k => (l.drop (k * n)).take n
theorem pies_len (n N : Nat) (l : List UInt8) : (pies n N l).length = N := by simp [pies]
theorem pies_get (n N : Nat) (l : List UInt8) (k : Nat) (h : k < N) : (pies n N l).getD k [] = (l.drop (k * n)).take n := by
  simp [pies, List.getD_eq_getElem?_getD, List.getElem?_range h]
end Go.Proofs.YtaekcmoogobbjaaDoor

/- The program's chunks: Cut. -/
namespace Go.Proofs.YtaekcmoogobbjaaDoor
set_option linter.unusedVariables false
set_option linter.unusedSimpArgs false
open Go.RowKit Go.Shelf
attribute [local go_sem] Oper.semAt_some
set_option maxHeartbeats 2000000
theorem chunk1_any (m : Nat) (ao : Option Addr) (len cap n N B C : Nat) (own : Nat → Prop) (Kp : World → World → Prop) (hB : ¬ own B) (hC : ¬ own C)
    (hKp : ∀ X Y, Kp X Y → Y.heap[B]? = X.heap[B]? ∧ Y.heap[C]? = X.heap[C]?) (hn : 1 ≤ n) (hn2 : n ≤ 1000000) (hl : len ≤ 1000000) (hlc : len ≤ cap) (hN : PieN len n N) (W : World) (l : List UInt8) (hao : BRow W (.slice ao len cap) l)
    (hWB : Boxed W B 22 (.slice ao len cap)) (hWC : Boxed W C 3 (.int .i64 n)) :
    IterAt Fence.wide m Tryd.prog 36 #[.pointer (some ⟨B, 0, none⟩), .pointer (some ⟨C, 0, none⟩)] (fun k => #[.slice (ao.map fun a => ⟨a.block, a.off + k * n, none⟩) (min n (len - k * n)) (min n (len - k * n))]) N own Kp W := by
  obtain ⟨ao', c', h1, hc, h⟩ := hao
  cases h1
  rcases h with ⟨rfl, rfl, rfl⟩ | ⟨g, o, rfl, h⟩
  · have hN0 : N = 0 := by
      have h2 : ¬ 0 < N := fun h => absurd ((hN 0).2 h) (by simp)
      omega
    subst hN0
    intro l J Jx hJ hJx hY h0
    refine callsIn_of_wp Tryd.func36 rfl trivial ?_ rfl
    simp only [Tryd.ntmps36, List.size_toArray, List.length_cons, List.length_nil, Nat.reduceAdd, Nat.reduceSub, Array.replicate_succ, Array.replicate_zero, List.push_toArray, List.append_toArray, List.nil_append, List.cons_append]
    gi_wp2
    gi_loopw [4] (fun i wr => i = .int .i64 0 ∧ J 0 wr ∧ Boxed wr B 22 (.slice none 0 0)) (fun i _ => 0)
    case atStart => exact ⟨rfl, h0, hWB⟩
    case round =>
      obtain ⟨rfl, hj, hb⟩ := hrel
      have hcB := hb.cell
      gi_wp2
      go_end0
      exact ⟨⟨_, rfl⟩, .inl hj⟩
  · exact chunk1_it m g o l.length cap n N B C own Kp hB hC hKp hn hn2 hl hlc hN W hWB hWC
/-- where the loop of Cut stands: k pieces are out -/
def CutI (w : World) (E : Nat) (src : Value) (M : Nat) (L : List (List UInt8)) (k : Nat) (X : World) : Prop :=
  ∃ v xs, Boxed X E 37 v ∧ X.ownsRow (E + 3) 22 1 v k xs ∧ (∀ j, j < k → X.ownsRow 0 5 1 (xs.getD j (.slice none 0 0)) (L.getD j []).length ((L.getD j []).map by8)) ∧ Below E w X ∧ Boxed X (E + 1) 22 src ∧ Boxed X (E + 2) 3 (.int .i64 (M : Int))
theorem CutI.turn {w : World} {E M k B : Nat} {src : Value} {L : List (List UInt8)} {X Y : World} (h : CutI w E src M L k X) (ht : Turn B (fun _ => False) X Y) (hB : E ≤ B) (hw : E = w.heap.size) : CutI w E src M L k Y := by
  obtain ⟨v, xs, h1, h2, h3, h4, h5, h6⟩ := h
  have hX : E ≤ X.heap.size := by have := h4.size; omega
  exact ⟨v, xs, ht.boxed h1 id, turn_own ht h2 (fun _ => id), fun j hj => turn_own ht (h3 j hj) (fun _ => id), h4.trans (ht.below hB hX (fun _ h => h.elim)), ht.boxed h5 id, ht.boxed h6 id⟩
theorem grown_of_below {X Y : World} (h : Below X.heap.size X Y) : X.grownBy Y none := ⟨h.os, h.tape, h.output, h.size, fun k hk _ => h.block k hk⟩
theorem own_below {X Y : World} {b : Nat} {e : TypeId} {size n : Nat} {v : Value} {xs : List Value} (h : X.ownsRow b e size v n xs) (hb : Below X.heap.size X Y) : Y.ownsRow b e size v n xs :=
  h.kept (grown_of_below hb) (by cases v.ownBlock <;> simp)
theorem own_one {X : World} {b : Nat} {e : TypeId} {size n : Nat} {v : Value} {xs : List Value} (h : X.ownsRow b e size v n xs) : ∀ u ∈ [v], u.oneCell' = true := by
  intro u hu
  obtain rfl := List.mem_singleton.1 hu
  rcases h.2 with ⟨rfl, _⟩ | ⟨g, cap, cur, rfl, _⟩ <;> rfl
/-- a round of Cut's loop, of the plain worlds -/
theorem cut_round {w X w1 w3 : World} {E M N k e : Nat} {src v r v' : Value} {xs : List Value} {l : List UInt8} (hw : E = w.heap.size) (hbE : Boxed X E 37 v) (hown : X.ownsRow (E + 3) 22 1 v k xs)
    (hel : ∀ j, j < k → X.ownsRow 0 5 1 (xs.getD j (.slice none 0 0)) ((pies M N l).getD j []).length (((pies M N l).getD j []).map by8)) (hbel : Below E w X) (hB : Boxed X (E + 1) 22 src) (hC : Boxed X (E + 2) 3 (.int .i64 (M : Int)))
    (hk : k < N) (hb : Below X.heap.size X w1) (hr : w1.ownsRow X.heap.size 5 1 r e (((l.drop (k * M)).take M).map by8))
    (hown3 : w3.ownsRow (E + 3) 22 1 v' (k + 1) (xs ++ [r])) (hg3 : (w1.alloc (.cells #[r] 22)).grownBy w3 v.ownBlock) :
    w3.cell? ⟨E, 0, none⟩ = some v ∧ w3.frozen? ⟨E, 0, none⟩ = false ∧ KeepsFrom (E + 3) X (w3.setCell ⟨E, 0, none⟩ v') ∧
      ((w3.setCell ⟨E, 0, none⟩ v').heap[E + 1]? = X.heap[E + 1]? ∧ (w3.setCell ⟨E, 0, none⟩ v').heap[E + 2]? = X.heap[E + 2]?) ∧ CutI w E src M (pies M N l) (k + 1) (w3.setCell ⟨E, 0, none⟩ v') := by
  have hb2 : Below X.heap.size X (w1.alloc (.cells #[r] 22)) := hb.alloc hb.size _
  have hge : ∀ g, v.ownBlock = some g → E + 3 ≤ g := own8_ge hown
  have hge' : ∀ g, v'.ownBlock = some g → E + 3 ≤ g := own8_ge hown3
  have hlow : ∀ i, i < X.heap.size → some i ≠ v.ownBlock → w3.heap[i]? = X.heap[i]? := fun i hi hne => (hg3.block i (Nat.lt_of_lt_of_le hi hb2.size) hne).trans (hb2.block i hi)
  have hE : E < X.heap.size := lt_of_cell hbE.cell
  have hE1 : E + 1 < X.heap.size := lt_of_cell hB.cell
  have hE2 : E + 2 < X.heap.size := lt_of_cell hC.cell
  have hne : ∀ i, i < E + 3 → some i ≠ v.ownBlock := fun i hi h => by have := hge i h.symm; omega
  have bE3 : Boxed w3 E 37 v := (hlow E hE (hne E (by omega))).trans hbE
  have hset : ∀ i, i ≠ E → (w3.setCell ⟨E, 0, none⟩ v').heap[i]? = w3.heap[i]? := fun i hi => Below.heap_setCell _ _ _ i hi
  have hs3 : X.heap.size ≤ w3.heap.size := Nat.le_trans hb2.size hg3.size
  have hss : (w3.setCell ⟨E, 0, none⟩ v').heap.size = w3.heap.size := by simp
  have hlen : xs.length = k := by have := hown.1; omega
  have gE : w3.grownBy (w3.setCell ⟨E, 0, none⟩ v') (some E) := ⟨rfl, rfl, rfl, by rw [hss]; exact Nat.le_refl _, fun i hi hne => hset i (fun e => hne (by rw [e]))⟩
  have offE : ∀ {y : Value} {n : Nat} {ys : List Value} {b : Nat} {t : TypeId}, w3.ownsRow b t 1 y n ys → (∀ g, y.ownBlock = some g → g ≠ E) → (w3.setCell ⟨E, 0, none⟩ v').ownsRow b t 1 y n ys := fun h hg => h.kept gE (by
    rename_i y _ _ _ _
    cases hy : y.ownBlock with
    | none => exact .inl rfl
    | some g => exact .inr (fun e => hg g hy (by simpa using e)))
  refine ⟨bE3.cell, bE3.frozen, ⟨by rw [hss]; exact hs3, fun i o hi ho hc => ?_⟩, ⟨(hset _ (by omega)).trans (hlow _ hE1 (hne _ (by omega))), (hset _ (by omega)).trans (hlow _ hE2 (hne _ (by omega)))⟩, v', xs ++ [r], bE3.set _, ?_, ?_, ?_, ?_, ?_⟩
  · have hi2 := (Array.getElem?_eq_some_iff.1 ho).1
    have hnv : some i ≠ v.ownBlock := by
      intro h
      rcases hown.2 with ⟨rfl, _⟩ | ⟨g, cap, cur, rfl, _, hg, _⟩
      · simp [Value.ownBlock] at h
      · simp only [Value.ownBlock, Option.some.injEq] at h
        subst h
        rw [hg] at ho
        cases ho
        cases hc
    rw [hset i (by omega), hlow i hi2 hnv, ho]
  · exact offE hown3 (fun g hg => by have := hge' g hg; omega)
  · intro j hj
    have hap : ∀ {y : Value} {n : Nat} {ys : List Value} {b : Nat}, (w1.alloc (.cells #[r] 22)).ownsRow b 5 1 y n ys → (w3.setCell ⟨E, 0, none⟩ v').ownsRow b 5 1 y n ys := fun h => by
      have h1 := own_apart (by decide) (own_below hown hb2) h
      have h3 := h.kept hg3 h1
      refine offE h3 (fun g hg he => ?_)
      subst he
      rename_i y _ _ _
      have h4 := own_apart (W := w3) (b := 0) (e := 37) (e' := 5) (size := 1) (n := 1) (v := .slice (some ⟨g, 0, none⟩) 1 1) (xs := [v]) (by decide) ⟨rfl, .inr ⟨g, 1, #[v], rfl, Nat.zero_le _, bE3, Nat.le_refl _, by decide, rfl, rfl⟩⟩ h3
      rcases h4 with h4 | h4
      · rw [hg] at h4; cases h4
      · exact h4 hg
    by_cases hjk : j < k
    · rw [List.getD_eq_getElem?_getD, List.getElem?_append_left (by omega), ← List.getD_eq_getElem?_getD]
      exact hap (own_below (hel j hjk) hb2)
    · obtain rfl : j = k := by omega
      have hrl : (((l.drop (j * M)).take M).map by8).length = e := by have := hr.1; omega
      rw [List.getD_eq_getElem?_getD, List.getElem?_append_right (by omega), hlen, Nat.sub_self, pies_get _ _ _ _ hk]
      have h5 : w1.ownsRow 0 5 1 r ((l.drop (j * M)).take M).length (((l.drop (j * M)).take M).map by8) := by
        rw [List.length_map] at hrl
        rw [hrl]
        exact own_less hr (Nat.zero_le _)
      exact hap (h5.alloc _)
  · refine ⟨hg3.os.trans (hb2.os.trans hbel.os), hg3.tape.trans (hb2.tape.trans hbel.tape), hg3.output.trans (hb2.output.trans hbel.output), by rw [hss]; exact Nat.le_trans hbel.size hs3, fun i hi => ?_⟩
    exact (hset i (by omega)).trans ((hlow i (by omega) (hne i (by omega))).trans (hbel.block i hi))
  · exact (hset _ (by omega)).trans ((hlow _ hE1 (hne _ (by omega))).trans hB)
  · exact (hset _ (by omega)).trans ((hlow _ hE2 (hne _ (by omega))).trans hC)
/-- Cut's end, of the plain worlds -/
theorem cut_end {w X : World} {E N D : Nat} {v : Value} {xs : List Value} {L : List (List UInt8)} {o' : Obj} (hbE : Boxed X E 37 v) (hown : X.ownsRow (E + 3) 22 1 v N xs) (hL : L.length = N)
    (hel : ∀ j, j < N → X.ownsRow 0 5 1 (xs.getD j (.slice none 0 0)) (L.getD j []).length ((L.getD j []).map by8)) (hbel : Below E w X) (hD : E + 3 ≤ D) (hK : X.heap[D]? = some (.deferred (some []))) :
    ((X.setCell ⟨E, 0, none⟩ v).putObj D o').cell? ⟨E, 0, none⟩ = some v ∧ BRows ((X.setCell ⟨E, 0, none⟩ v).putObj D o') v L ∧ Below E w ((X.setCell ⟨E, 0, none⟩ v).putObj D o') := by
  have hset : ∀ i, i ≠ E → (X.setCell ⟨E, 0, none⟩ v).heap[i]? = X.heap[i]? := fun i hi => Below.heap_setCell _ _ _ i hi
  have hss : (X.setCell ⟨E, 0, none⟩ v).heap.size = X.heap.size := by simp
  have gE : X.grownBy (X.setCell ⟨E, 0, none⟩ v) (some E) := ⟨rfl, rfl, rfl, by rw [hss]; exact Nat.le_refl _, fun i hi hne => hset i (fun e => hne (by rw [e]))⟩
  have hT : Turn D (fun _ => False) (X.setCell ⟨E, 0, none⟩ v) ((X.setCell ⟨E, 0, none⟩ v).putObj D o') := .putObj o' (Nat.le_refl _) ((hset D (by omega)).trans hK) rfl
  have hge : ∀ g, v.ownBlock = some g → E + 3 ≤ g := own8_ge hown
  have h1 : ((X.setCell ⟨E, 0, none⟩ v).putObj D o').ownsRow (E + 3) 22 1 v N xs := turn_own hT (hown.kept gE (by
    cases hy : v.ownBlock with
    | none => exact .inl rfl
    | some g => exact .inr (fun e => by have := hge g hy; simp at e; omega))) (fun _ => id)
  refine ⟨(hT.boxed (hbE.set v) id).cell, brows_own h1 hL (fun k hk => ?_), ?_⟩
  · have h2 := hel k hk
    refine BRow.of_own (turn_own hT (h2.kept gE ?_) (fun _ => id))
    have h4 := own_apart (W := X) (b := 0) (e := 37) (e' := 5) (size := 1) (n := 1) (v := .slice (some ⟨E, 0, none⟩) 1 1) (xs := [v]) (by decide) ⟨rfl, .inr ⟨E, 1, #[v], rfl, Nat.zero_le _, hbE, Nat.le_refl _, by decide, rfl, rfl⟩⟩ h2
    exact h4
  · have hX : E ≤ X.heap.size := Nat.le_of_lt (lt_of_cell hbE.cell)
    have hb2 : Below E X (X.setCell ⟨E, 0, none⟩ v) := ⟨rfl, rfl, rfl, by rw [hss]; exact Nat.le_refl _, fun i hi => hset i (by omega)⟩
    exact (hbel.trans hb2).trans (hT.below (by omega) (by rw [hss]; exact hX) (fun _ h => h.elim))
set_option maxRecDepth 100000 in
theorem ck_cut_wrong (v : Value) (most : Int) (w : World) (hm : most < 1) :
    Calls Tryd.prog 17 #[v, .int .i64 most] w fun e w' => e = .returned (.tuple #[.slice none 0 0, .int .i64 2]) ∧ Below w.heap.size w w' := by
  go_enter Tryd.func17, Tryd.ntmps17
  go_wp2_with fail
  refine wp_scope_fwd 0 rfl ?_
  go_wp2
  apply wp_goto
  simp only [Exit.then]
  refine onGoto_goto ?_
  go_wp2
  rw [Exit.noGoto_ret]
  have hcw := (Boxed.new w 37 (.slice none 0 0)).cell
  refine bodyPost_ret (v := .tuple #[.slice none 0 0, .int .i64 2]) (by simp [results, Tryd.results17, go_sem, hcw]) rfl ⟨rfl, ?_⟩
  exact (Below.refl _ w).alloc (Nat.le_refl _) _
set_option maxRecDepth 100000 in
theorem ck_cut (ao : Option Addr) (n cap M N : Nat) (l : List UInt8) (most : Int) (w : World) (h : BRow w (.slice ao n cap) l) (hl : n ≤ 1000) (hm : ¬ most < 1) (hM : min most ((n : Int) + 1) = (M : Int)) (hN : PieN n M N) :
    Calls Tryd.prog 17 #[.slice ao n cap, .int .i64 most] w fun e w' => ∃ r, e = .returned (.tuple #[r, .int .i64 0]) ∧ BRows w' r (pies M N l) ∧ Below w.heap.size w w' := by
  have hcap : n ≤ cap := by obtain ⟨_, _, e, h1, _⟩ := h; cases e; exact h1
  refine (callsIn_wide (n := 9)).1 (callsIn_of_wp_marks Tryd.func17 rfl trivial ?_ rfl)
  simp only [Tryd.ntmps17, List.size_toArray, List.length_cons, List.length_nil, Nat.reduceAdd, Nat.reduceSub, Array.replicate_succ, Array.replicate_zero, List.push_toArray, List.append_toArray, List.nil_append, List.cons_append]
  gi_wp2_with fail
  refine wpW_scope ?_
  gi_wp2_with fail
  have hM2 : 1 ≤ M := by omega
  have hM3 : M ≤ 1001 := by omega
  refine ⟨trivial, (callsIn_wide.2 (sl_chunk ao n cap (M : Int) _ (by omega) (by omega))).mono ?_⟩
  rintro e w' ⟨rfl, rfl⟩
  obtain ⟨E, hE⟩ : ∃ E, w.heap.size = E := ⟨_, rfl⟩
  obtain ⟨W0, hW0⟩ : ∃ W0, ((w.alloc (.cells #[.slice none 0 0] 37)).alloc (.cells #[.slice ao n cap] 22)).alloc (.cells #[.int .i64 (M : Int)] 3) = W0 := ⟨_, rfl⟩
  have hs0 : W0.heap.size = E + 3 := by rw [← hW0, ← hE]; simp
  have bE : Boxed W0 E 37 (.slice none 0 0) := by
    rw [← hW0, ← hE]; exact ((Boxed.new w _ _).alloc _).alloc _
  have bB : Boxed W0 (E + 1) 22 (.slice ao n cap) := by
    rw [← hW0, ← hE]; have := (Boxed.new (w.alloc (.cells #[.slice none 0 0] 37)) 22 (.slice ao n cap)).alloc (.cells #[.int .i64 (M : Int)] 3); rwa [World.size_alloc] at this
  have bC : Boxed W0 (E + 2) 3 (.int .i64 (M : Int)) := by
    rw [← hW0, ← hE]; have := Boxed.new ((w.alloc (.cells #[.slice none 0 0] 37)).alloc (.cells #[.slice ao n cap] 22)) 3 (.int .i64 (M : Int)); rwa [World.size_alloc, World.size_alloc] at this
  have hbel : Below E w W0 := by
    rw [← hW0, ← hE]; exact (((Below.refl _ w).alloc (Nat.le_refl _) _).alloc (by simp) _).alloc (by simp; omega) _
  rw [World.size_alloc, hE, hW0]
  clear hW0
  gi_wp2_with fail
  have hB : ∀ W, Below E w W → BRow W (.slice ao n cap) l := fun W hb => h.below (by rw [hE]; exact hb)
  have hlen : l.length = n := by obtain ⟨_, _, e, _⟩ := h; cases e; rfl
  obtain ⟨i0, hi, hz0, hz1, hz2⟩ := info_parts info8s
  refine rf_break (N := N) (own := fun _ => False) (Kp := fun X Y => Y.heap[E + 1]? = X.heap[E + 1]? ∧ Y.heap[E + 2]? = X.heap[E + 2]?) (encs := fun k => #[.slice (ao.map fun a => ⟨a.block, a.off + k * M, none⟩) (min M (n - k * M)) (min M (n - k * M))])
    rfl (by omega) (gf := 36) (lb := #[.pointer (some ⟨E + 1, 0, none⟩), .pointer (some ⟨E + 2, 0, none⟩)]) rfl trivial (enters_of Tryd.func36 (by kernel_rfl) rfl)
    (fun _ => rfl) (fun b hb => hb.elim)
    (fun X hX hs => chunk1_any _ ao n cap M N (E + 1) (E + 2) _ _ id id (fun _ _ h => h) hM2 (by omega) (by omega) hcap hN X l (hB X (hbel.trans (hX.mono (by omega)))) ((hX.block _ (by omega)).trans bB) ((hX.block _ (by omega)).trans bC))
    (fun h k => ⟨k.1.trans h.1, k.2.trans h.2⟩) (fun X o o' h2 h3 => ⟨World.putObj_heap_other (by omega), World.putObj_heap_other (by omega)⟩)
    (CutI w E (.slice ao n cap) M (pies M N l)) (CutI w E (.slice ao n cap) M (pies M N l) N)
    (fun k X Y hs ht => hs.turn ht (by omega) hE.symm) (fun X Y hs ht => hs.turn ht (by omega) hE.symm)
    ⟨_, [], bE, World.ownsRow_nil _ _ _ _, fun j hj => absurd hj (by omega), hbel, bB, bC⟩
    (fun k b _ => b = { tmps := #[.slice ao n cap, .int .i64 most, undef, undef, .pointer (some ⟨E, 0, none⟩), .int .i64 0, .slice (ao.map fun a => ⟨a.block, a.off + k * M, none⟩) (min M (n - k * M)) (min M (n - k * M)), .int .i64 most, .bool (decide (most < 1)), .slice ao n cap, .int .i64 most, .slice ao n cap, .int .i64 n, .int .i64 (n + 1), .int .i64 M, .func (.func 36) #[] #[.pointer (some ⟨E + 1, 0, none⟩), .pointer (some ⟨E + 2, 0, none⟩)], .slice (ao.map fun a => ⟨a.block, a.off + k * M, none⟩) (min M (n - k * M)) (min M (n - k * M)), undef, undef, undef, undef, undef, undef], defers := [] })
    (fun _ _ _ _ hs _ => hs) ?assign ?body (fun _ h => h) ?fin
  case assign =>
    intro l' k X K hk hi hK
    gi_wp2
    exact hK _ _ (KeepsFrom.refl _ _) ⟨rfl, rfl⟩ hi rfl
  case body =>
    rintro l' k b X hl' ⟨r, hr⟩ hk ⟨v, xs, bE', hown, hel, hbX, bB', bC'⟩ rfl
    obtain ⟨ao', c', e1, _, hh⟩ := hB X hbX
    cases e1
    have hkn := (hN k).2 hk
    rcases hh with ⟨rfl, hl0, _⟩ | ⟨g, o, rfl, _⟩
    · subst hl0
      exact absurd hkn (by simp)
    have hMn := hM3
    obtain ⟨e, he⟩ : ∃ e, min M (l.length - k * M) = e := ⟨_, rfl⟩
    have HE0 : Hid (0 < e) := Lib.hid (by omega)
    have hck := ck_clone2 g (o + k * M) e e ((l.drop (k * M)).take M) X.drew (brow_piece (hB X.drew ⟨hbX.os, hbX.tape, hbX.output, hbX.size, hbX.block⟩) (k * M) e (by omega) M he.symm) (by omega)
    have HCL := Lib.hid hck
    have hcE : X.cell? ⟨E, 0, none⟩ = some v := bE'.cell
    have hE3 : E + 3 ≤ X.heap.size := lt_of_cell bC'.cell
    have hkN : k < 2000 := by
      have h1 : k ≤ k * M := Nat.le_mul_of_pos_right k (by omega)
      omega
    have HS0 := Lib.hid hs0
    have HBEL : Hid (∀ w1, Below X.heap.size X w1 → w1.cell? ⟨E, 0, none⟩ = some v) := Lib.hid (fun w1 hb => cell_below hb hcE)
    have HALL : Hid (∀ (w1 : World) (r : Value), w1.cell? ⟨E, 0, none⟩ = some v → (w1.alloc (.cells #[r] 22)).cell? ⟨E, 0, none⟩ = some v) := Lib.hid (fun w1 r h => cell_below ((Below.refl _ w1).alloc (Nat.le_refl _) _) h)
    have HOWN : Hid (∀ (w1 : World) (r : Value), Below X.heap.size X w1 → (w1.alloc (.cells #[r] 22)).ownsRow (E + 3) 22 1 v k xs) := Lib.hid (fun w1 r hb => own_below hown (hb.alloc hb.size _))
    have HSZ : Hid (∀ (w1 : World) (r : Value), Below X.heap.size X w1 → E + 3 ≤ (w1.alloc (.cells #[r] 22)).heap.size) := Lib.hid (fun w1 r hb => by have := hb.size; simp; omega)
    have HFIN := Lib.hid (fun (w1 w3 : World) (r v' : Value) (hb : Below X.heap.size X w1) (hr : w1.ownsRow X.heap.size 5 1 r e (((l.drop (k * M)).take M).map by8)) (h3 : w3.ownsRow (E + 3) 22 1 v' (k + 1) (xs ++ [r])) (g3 : (w1.alloc (.cells #[r] 22)).grownBy w3 v.ownBlock) =>
      cut_round (N := N) hE.symm bE' hown hel hbX bB' bC' hk hb hr h3 g3)
    simp only [Option.map, he]
    clear hck hB hel hbX bB' bC' hown bE' hs0 bE bB bC hbel hN h hkn hr he
    gi_wp2_with fail
    refine wpIn_region_any (by kernel_rfl) ?_
    change wpAnyIn _ _ _ _ _ _ _ _ _ (World.drew _)
    refine wpAnyIn_ready (rs := [0, 1]) (by kernel_rfl) (by simp) ?_
    refine ready_round rfl rfl (fun c h => by cases h) (fun K hK => ?_) (ready_round rfl rfl (fun c h => by cases h) (fun K hK => ?_) AllReadyIn.nil)
    · skip
      go_simp
      refine hK _ _ ?_
      clear hK K
      refine wpAnyIn_ready (rs := [1]) (by kernel_rfl) (by simp) ?_
      refine ready_round rfl rfl (fun c h => by cases h) (fun K hK => ?_) AllReadyIn.nil
      go_simp
      refine hK _ _ ?_
      clear hK K
      refine wpAnyIn_ready (rs := [2]) (by kernel_rfl) (by simp) ?_
      refine ready_round rfl rfl (fun c h => by cases h) (fun K hK => ?_) AllReadyIn.nil
      go_simp
      go_at_call 16
      refine HCL.out.mono ?_
      rintro z w1 ⟨r, rfl, hr, hb⟩
      obtain ⟨g1, cap1, rfl⟩ := own_form hr HE0.out
      have HB : Hid (Below X.heap.size X w1) := Lib.hid ⟨hb.os, hb.tape, hb.output, hb.size, hb.block⟩
      have hcE1 := (HBEL.out w1 HB.out)
      have HR := Lib.hid hr
      clear hr hb
      go_simp
      refine hK _ _ ?_
      clear hK K
      refine wpAnyIn_ready (rs := [3]) (by kernel_rfl) (by simp) ?_
      refine ready_round rfl rfl (fun c h => by cases h) (fun K hK => ?_) AllReadyIn.nil
      go_simp
      have hcE2 := HALL.out w1 (.slice (some ⟨g1, 0, none⟩) e cap1) hcE1
      refine hK _ _ ?_
      clear hK K
      refine wpAnyIn_ready (rs := [4]) (by kernel_rfl) (by simp) ?_
      refine ready_round rfl rfl (fun c h => by cases h) (fun K hK => ?_) AllReadyIn.nil
      have HOW2 := Lib.hid (HOWN.out w1 (.slice (some ⟨g1, 0, none⟩) e cap1) HB.out)
      refine wp_append_own _ (.tmp 17) (.tmp 20) 37 rfl (E + 3) 22 i0 (.slice none 0 0) 1 24 Tryd.underlying37 hi hz0 hz1 hz2 rfl (by decide) v k xs (by simp [Act.eval, Act.put]) HOW2.out ⟨w1.heap.size, 0, none⟩ 1 1 [.slice (some ⟨g1, 0, none⟩) e cap1] (by simp [Act.eval, Act.put]) rfl (fun j u hj => cell_one_any _ _ j u hj) (own_one HR.out) (by unfold maxLen; omega) (by omega) (HSZ.out w1 (.slice (some ⟨g1, 0, none⟩) e cap1) HB.out) ?_
      intro v' w3 hown3 hgr3 _
      have HPOST := Lib.hid (HFIN.out w1 w3 (.slice (some ⟨g1, 0, none⟩) e cap1) v' HB.out HR.out hown3 hgr3)
      obtain ⟨g3, cap3, rfl⟩ := own_form hown3 (by omega)
      refine hK _ _ ?_
      clear hK K hcE1 hcE2
      have hcE3 := HPOST.out.1
      have hfE3 := HPOST.out.2.1
      clear hown3 hgr3
      refine wpAnyIn_ready (rs := [5]) (by kernel_rfl) (by simp) ?_
      refine ready_round rfl rfl (fun c h => by cases h) (fun K hK => ?_) AllReadyIn.nil
      go_simp
      refine hK _ _ ?_
      clear hK K
      refine wpAnyIn_done (by kernel_rfl) ?_ _
      exact ⟨by rw [HS0.out]; exact HPOST.out.2.2.1, HPOST.out.2.2.2⟩
    · skip
      go_simp
      refine hK _ _ ?_
      clear hK K
      refine wpAnyIn_ready (rs := [0, 2]) (by kernel_rfl) (by simp) ?_
      refine ready_round rfl rfl (fun c h => by cases h) (fun K hK => ?_) (ready_round rfl rfl (fun c h => by cases h) (fun K hK => ?_) AllReadyIn.nil)
      · skip
        go_simp
        refine hK _ _ ?_
        clear hK K
        refine wpAnyIn_ready (rs := [2]) (by kernel_rfl) (by simp) ?_
        refine ready_round rfl rfl (fun c h => by cases h) (fun K hK => ?_) AllReadyIn.nil
        go_simp
        go_at_call 16
        refine HCL.out.mono ?_
        rintro z w1 ⟨r, rfl, hr, hb⟩
        obtain ⟨g1, cap1, rfl⟩ := own_form hr HE0.out
        have HB : Hid (Below X.heap.size X w1) := Lib.hid ⟨hb.os, hb.tape, hb.output, hb.size, hb.block⟩
        have hcE1 := (HBEL.out w1 HB.out)
        have HR := Lib.hid hr
        clear hr hb
        go_simp
        refine hK _ _ ?_
        clear hK K
        refine wpAnyIn_ready (rs := [3]) (by kernel_rfl) (by simp) ?_
        refine ready_round rfl rfl (fun c h => by cases h) (fun K hK => ?_) AllReadyIn.nil
        go_simp
        have hcE2 := HALL.out w1 (.slice (some ⟨g1, 0, none⟩) e cap1) hcE1
        refine hK _ _ ?_
        clear hK K
        refine wpAnyIn_ready (rs := [4]) (by kernel_rfl) (by simp) ?_
        refine ready_round rfl rfl (fun c h => by cases h) (fun K hK => ?_) AllReadyIn.nil
        have HOW2 := Lib.hid (HOWN.out w1 (.slice (some ⟨g1, 0, none⟩) e cap1) HB.out)
        refine wp_append_own _ (.tmp 17) (.tmp 20) 37 rfl (E + 3) 22 i0 (.slice none 0 0) 1 24 Tryd.underlying37 hi hz0 hz1 hz2 rfl (by decide) v k xs (by simp [Act.eval, Act.put]) HOW2.out ⟨w1.heap.size, 0, none⟩ 1 1 [.slice (some ⟨g1, 0, none⟩) e cap1] (by simp [Act.eval, Act.put]) rfl (fun j u hj => cell_one_any _ _ j u hj) (own_one HR.out) (by unfold maxLen; omega) (by omega) (HSZ.out w1 (.slice (some ⟨g1, 0, none⟩) e cap1) HB.out) ?_
        intro v' w3 hown3 hgr3 _
        have HPOST := Lib.hid (HFIN.out w1 w3 (.slice (some ⟨g1, 0, none⟩) e cap1) v' HB.out HR.out hown3 hgr3)
        obtain ⟨g3, cap3, rfl⟩ := own_form hown3 (by omega)
        refine hK _ _ ?_
        clear hK K hcE1 hcE2
        have hcE3 := HPOST.out.1
        have hfE3 := HPOST.out.2.1
        clear hown3 hgr3
        refine wpAnyIn_ready (rs := [5]) (by kernel_rfl) (by simp) ?_
        refine ready_round rfl rfl (fun c h => by cases h) (fun K hK => ?_) AllReadyIn.nil
        go_simp
        refine hK _ _ ?_
        clear hK K
        refine wpAnyIn_done (by kernel_rfl) ?_ _
        exact ⟨by rw [HS0.out]; exact HPOST.out.2.2.1, HPOST.out.2.2.2⟩
      · skip
        go_simp
        go_at_call 16
        refine HCL.out.mono ?_
        rintro z w1 ⟨r, rfl, hr, hb⟩
        obtain ⟨g1, cap1, rfl⟩ := own_form hr HE0.out
        have HB : Hid (Below X.heap.size X w1) := Lib.hid ⟨hb.os, hb.tape, hb.output, hb.size, hb.block⟩
        have hcE1 := (HBEL.out w1 HB.out)
        have HR := Lib.hid hr
        clear hr hb
        go_simp
        refine hK _ _ ?_
        clear hK K
        refine wpAnyIn_ready (rs := [0, 3]) (by kernel_rfl) (by simp) ?_
        refine ready_round rfl rfl (fun c h => by cases h) (fun K hK => ?_) (ready_round rfl rfl (fun c h => by cases h) (fun K hK => ?_) AllReadyIn.nil)
        · skip
          go_simp
          refine hK _ _ ?_
          clear hK K
          refine wpAnyIn_ready (rs := [3]) (by kernel_rfl) (by simp) ?_
          refine ready_round rfl rfl (fun c h => by cases h) (fun K hK => ?_) AllReadyIn.nil
          go_simp
          have hcE2 := HALL.out w1 (.slice (some ⟨g1, 0, none⟩) e cap1) hcE1
          refine hK _ _ ?_
          clear hK K
          refine wpAnyIn_ready (rs := [4]) (by kernel_rfl) (by simp) ?_
          refine ready_round rfl rfl (fun c h => by cases h) (fun K hK => ?_) AllReadyIn.nil
          have HOW2 := Lib.hid (HOWN.out w1 (.slice (some ⟨g1, 0, none⟩) e cap1) HB.out)
          refine wp_append_own _ (.tmp 17) (.tmp 20) 37 rfl (E + 3) 22 i0 (.slice none 0 0) 1 24 Tryd.underlying37 hi hz0 hz1 hz2 rfl (by decide) v k xs (by simp [Act.eval, Act.put]) HOW2.out ⟨w1.heap.size, 0, none⟩ 1 1 [.slice (some ⟨g1, 0, none⟩) e cap1] (by simp [Act.eval, Act.put]) rfl (fun j u hj => cell_one_any _ _ j u hj) (own_one HR.out) (by unfold maxLen; omega) (by omega) (HSZ.out w1 (.slice (some ⟨g1, 0, none⟩) e cap1) HB.out) ?_
          intro v' w3 hown3 hgr3 _
          have HPOST := Lib.hid (HFIN.out w1 w3 (.slice (some ⟨g1, 0, none⟩) e cap1) v' HB.out HR.out hown3 hgr3)
          obtain ⟨g3, cap3, rfl⟩ := own_form hown3 (by omega)
          refine hK _ _ ?_
          clear hK K hcE1 hcE2
          have hcE3 := HPOST.out.1
          have hfE3 := HPOST.out.2.1
          clear hown3 hgr3
          refine wpAnyIn_ready (rs := [5]) (by kernel_rfl) (by simp) ?_
          refine ready_round rfl rfl (fun c h => by cases h) (fun K hK => ?_) AllReadyIn.nil
          go_simp
          refine hK _ _ ?_
          clear hK K
          refine wpAnyIn_done (by kernel_rfl) ?_ _
          exact ⟨by rw [HS0.out]; exact HPOST.out.2.2.1, HPOST.out.2.2.2⟩
        · skip
          go_simp
          have hcE2 := HALL.out w1 (.slice (some ⟨g1, 0, none⟩) e cap1) hcE1
          refine hK _ _ ?_
          clear hK K
          refine wpAnyIn_ready (rs := [0]) (by kernel_rfl) (by simp) ?_
          refine ready_round rfl rfl (fun c h => by cases h) (fun K hK => ?_) AllReadyIn.nil
          go_simp
          refine hK _ _ ?_
          clear hK K
          refine wpAnyIn_ready (rs := [4]) (by kernel_rfl) (by simp) ?_
          refine ready_round rfl rfl (fun c h => by cases h) (fun K hK => ?_) AllReadyIn.nil
          have HOW2 := Lib.hid (HOWN.out w1 (.slice (some ⟨g1, 0, none⟩) e cap1) HB.out)
          refine wp_append_own _ (.tmp 17) (.tmp 20) 37 rfl (E + 3) 22 i0 (.slice none 0 0) 1 24 Tryd.underlying37 hi hz0 hz1 hz2 rfl (by decide) v k xs (by simp [Act.eval, Act.put]) HOW2.out ⟨w1.heap.size, 0, none⟩ 1 1 [.slice (some ⟨g1, 0, none⟩) e cap1] (by simp [Act.eval, Act.put]) rfl (fun j u hj => cell_one_any _ _ j u hj) (own_one HR.out) (by unfold maxLen; omega) (by omega) (HSZ.out w1 (.slice (some ⟨g1, 0, none⟩) e cap1) HB.out) ?_
          intro v' w3 hown3 hgr3 _
          have HPOST := Lib.hid (HFIN.out w1 w3 (.slice (some ⟨g1, 0, none⟩) e cap1) v' HB.out HR.out hown3 hgr3)
          obtain ⟨g3, cap3, rfl⟩ := own_form hown3 (by omega)
          refine hK _ _ ?_
          clear hK K hcE1 hcE2
          have hcE3 := HPOST.out.1
          have hfE3 := HPOST.out.2.1
          clear hown3 hgr3
          refine wpAnyIn_ready (rs := [5]) (by kernel_rfl) (by simp) ?_
          refine ready_round rfl rfl (fun c h => by cases h) (fun K hK => ?_) AllReadyIn.nil
          go_simp
          refine hK _ _ ?_
          clear hK K
          refine wpAnyIn_done (by kernel_rfl) ?_ _
          exact ⟨by rw [HS0.out]; exact HPOST.out.2.2.1, HPOST.out.2.2.2⟩
  case fin =>
    rintro D X hD ⟨v, xs, bE', hown, hel, hbX, bB', bC'⟩ hK
    have hpost := fun o' => cut_end (o' := o') bE' hown (pies_len M N l) hel hbX (by omega) hK
    have hcE := bE'.cell
    have hfE := bE'.frozen
    have HPOST := Lib.hid hpost
    have hK' : (X.setCell ⟨E, 0, none⟩ v).heap[D]? = some (.deferred (some [])) := (Below.heap_setCell _ _ _ D (by show D ≠ E; omega)).trans hK
    have HK := Lib.hid hK'
    clear hpost hK' hK hel hbX bB' bC'
    rcases hown.2 with ⟨rfl, _⟩ | ⟨g3, cap3, _, rfl, _⟩
    all_goals
      clear hown
      gi_wp2
      rw [Exit.noGoto_ret]
      refine ⟨by simp, .inl ⟨_, _, rfl, run_takeDeferred HK.out, ?_⟩⟩
      have hp := HPOST.out (.deferred none)
      have hcp := hp.1
      refine ⟨_, (by simp [results, Tryd.results17, go_sem, hcp]), ⟨_, rfl, hp.2.1, by rw [hE]; exact hp.2.2⟩⟩
end Go.Proofs.YtaekcmoogobbjaaDoor

/- A number's digits, read back, are that number: with noughts ahead, or in capitals, too. No program in sight. -/
namespace Go.Proofs.YtaekcmoogobbjaaDoor
set_option linter.unusedVariables false
set_option linter.unusedSimpArgs false
namespace Dp
theorem rd_append (b : Int) : ∀ (l r : List UInt8) (n : Int), (rd b l n).2 = 0 → rd b (l ++ r) n = rd b r (rd b l n).1
  | [], r, n, _ => rfl
  | c :: l, r, n, h => by
    simp only [rd, List.cons_append] at h ⊢
    by_cases h1 : mulE n b ≠ 0
    · rw [if_pos h1] at h; simp at h
    · rw [if_neg h1] at h ⊢
      by_cases h2 : addE (mulN n b) (digV c.toNat) ≠ 0
      · rw [if_pos h2] at h; simp at h
      · rw [if_neg h2] at h ⊢
        rw [rd_append b l r _ h, if_neg h1, if_neg h2]
theorem rd_one {b n : Int} {c : UInt8} (h0 : 0 ≤ n * b) (h : n * b + digV c.toNat < 18446744073709551616) : rd b [c] n = (n * b + digV c.toNat, 0) := by
  have hd := digV_lo (c.toNat : Int)
  have e1 : mulE n b = 0 := by unfold mulE; rw [if_pos (by omega)]
  have e2 : mulN n b = n * b := by unfold mulN; rw [if_pos (by omega)]
  have e3 : addE (n * b) (digV c.toNat) = 0 := by unfold addE; rw [if_pos h]
  have e4 : addN (n * b) (digV c.toNat) = n * b + digV c.toNat := by unfold addN; rw [if_pos h]
  simp only [rd]
  rw [if_neg (by rw [e1]; decide), e2, if_neg (by rw [e3]; decide), e4]
theorem dg_val : ∀ i : Fin 16, digV ((dg i.val).toNat : Int) = i.val := by decide +kernel
/-- digits that f turns into digits of the same value -/
theorem rd_digs {b : Nat} (hb : 2 ≤ b) (hb' : b ≤ 16) (f : UInt8 → UInt8) (hf : ∀ i : Fin 16, digV ((f (dg i.val)).toNat : Int) = i.val) :
    ∀ n : Nat, n < 18446744073709551616 → rd b ((digs b n).map f) 0 = ((n : Int), 0) := by
  intro n
  induction n using Nat.strongRecOn with
  | _ n ih =>
    intro hn
    by_cases h : n < b
    · rw [digs_lt h]
      have h1 := hf ⟨n, by omega⟩
      have h2 := rd_one (b := b) (n := 0) (c := f (dg n)) (by simp) (by rw [h1]; simp; omega)
      rw [h1] at h2
      simpa using h2
    · rw [digs_ge hb h, List.map_append]
      have hlt : n / b < n := Nat.div_lt_self (by omega) (by omega)
      have h3 := ih (n / b) hlt (by omega)
      have hm : n % b < b := Nat.mod_lt _ (by omega)
      have h1 := hf ⟨n % b, by omega⟩
      have hq : ((n / b : Nat) : Int) * (b : Int) + ((n % b : Nat) : Int) = (n : Int) := by
        have := Nat.div_add_mod n b
        rw [Nat.mul_comm] at this
        exact_mod_cast this
      have h2 := rd_one (b := b) (n := ((n / b : Nat) : Int)) (c := f (dg (n % b))) (Int.mul_nonneg (Int.natCast_nonneg _) (Int.natCast_nonneg _)) (by rw [h1]; simp only; rw [hq]; omega)
      rw [h1] at h2
      simp only at h2
      rw [hq] at h2
      rw [rd_append _ _ _ _ (by rw [h3]), h3]
      exact h2
theorem all_digs {b : Nat} (hb : 2 ≤ b) (hb' : b ≤ 16) (f : UInt8 → UInt8) (hf : ∀ i : Fin 16, digV ((f (dg i.val)).toNat : Int) = i.val) :
    ∀ n : Nat, allD b ((digs b n).map f) = true := by
  intro n
  induction n using Nat.strongRecOn with
  | _ n ih =>
    by_cases h : n < b
    · rw [digs_lt h]
      have h1 := hf ⟨n, by omega⟩
      simp only at h1
      simp [allD, h1]; omega
    · rw [digs_ge hb h, List.map_append]
      have hlt : n / b < n := Nat.div_lt_self (by omega) (by omega)
      have h3 := ih (n / b) hlt
      have hm : n % b < b := Nat.mod_lt _ (by omega)
      have h1 := hf ⟨n % b, by omega⟩
      simp only at h1
      unfold allD at h3 ⊢
      rw [List.all_append, h3]
      simp [h1]; omega
theorem num_map {b : Nat} (hb : 2 ≤ b) (hb' : b ≤ 16) (f : UInt8 → UInt8) (hf : ∀ i : Fin 16, digV ((f (dg i.val)).toNat : Int) = i.val) (n : Nat) (hn : n < 18446744073709551616) :
    numN b ((digs b n).map f) = n ∧ numE b ((digs b n).map f) = 0 := by
  have h1 := all_digs hb hb' f hf n
  have h2 := rd_digs hb hb' f hf n hn
  have h3 : ¬ ((digs b n).map f = [] ∨ allD b ((digs b n).map f) = false) := by
    rw [h1]
    have := digs_ne b n
    simpa using this
  unfold numN numE
  rw [if_neg h3, if_neg h3, h2]
  exact ⟨rfl, rfl⟩
theorem num_digs {b : Nat} (hb : 2 ≤ b) (hb' : b ≤ 16) (n : Nat) (hn : n < 18446744073709551616) : numN b (digs b n) = n ∧ numE b (digs b n) = 0 := by
  have := num_map hb hb' id (fun i => dg_val i) n hn
  rwa [List.map_id] at this
theorem digs_head {b : Nat} (hb : 2 ≤ b) (hb' : b ≤ 16) : ∀ n : Nat, 1 ≤ n → (digs b n).head? ≠ some 48 := by
  intro n
  induction n using Nat.strongRecOn with
  | _ n ih =>
    intro h1
    by_cases h : n < b
    · rw [digs_lt h]
      have : ∀ i : Fin 16, 1 ≤ i.val → dg i.val ≠ 48 := by decide +kernel
      intro e
      exact this ⟨n, by omega⟩ h1 (by simpa using e)
    · rw [digs_ge hb h]
      have hlt : n / b < n := Nat.div_lt_self (by omega) (by omega)
      have hp : 1 ≤ n / b := (Nat.le_div_iff_mul_le (by omega)).2 (by omega)
      have h3 := ih (n / b) hlt hp
      have h4 := digs_ne b (n / b)
      cases hd : digs b (n / b) with
      | nil => exact absurd hd h4
      | cons c l => rw [hd] at h3; exact h3
theorem par_digs (n : Nat) (hn : n < 18446744073709551616) : parN (digs 10 n) = n ∧ parE (digs 10 n) = 0 := by
  have h := num_digs (b := 10) (by omega) (by omega) n hn
  have h2 : ¬ (1 < (digs 10 n).length ∧ (digs 10 n).head? = some 48) := by
    rintro ⟨h1, h2⟩
    by_cases h0 : 1 ≤ n
    · exact digs_head (b := 10) (by omega) (by omega) n h0 h2
    · rw [digs_lt (by omega)] at h1
      simp at h1
  unfold parN parE
  rw [if_neg h2, if_neg h2]
  exact h
theorem rd_noughts (b : Int) (l : List UInt8) : ∀ k, rd b (List.replicate k 48 ++ l) 0 = rd b l 0
  | 0 => rfl
  | k + 1 => by
    have e1 : mulE 0 b = 0 := by unfold mulE; rw [if_pos (by omega)]
    have e2 : mulN 0 b = 0 := by unfold mulN; rw [if_pos (by omega)]; omega
    have e5 : digV (((48 : UInt8).toNat : Nat) : Int) = 0 := by decide
    have e3 : addE 0 0 = 0 := by decide
    have e4 : addN 0 0 = 0 := by decide
    rw [List.replicate_succ, List.cons_append]
    show (if mulE 0 b ≠ 0 then _ else _) = _
    rw [if_neg (by rw [e1]; decide), e2, e5, if_neg (by rw [e3]; decide), e4]
    exact rd_noughts b l k
theorem num_noughts (l : List UInt8) (k : Nat) (h0 : l ≠ []) (ha : allD 10 l = true) : numN 10 (List.replicate k 48 ++ l) = numN 10 l ∧ numE 10 (List.replicate k 48 ++ l) = numE 10 l := by
  have h1 : allD 10 (List.replicate k 48 ++ l) = true := by
    unfold allD at ha ⊢
    rw [List.all_append, ha, Bool.and_true, List.all_eq_true]
    intro c hc
    have := List.eq_of_mem_replicate hc
    subst this
    decide
  have h2 : ¬ (List.replicate k 48 ++ l = [] ∨ allD 10 (List.replicate k 48 ++ l) = false) := by
    rw [h1]; simp [h0]
  have h3 : ¬ (l = [] ∨ allD 10 l = false) := by rw [ha]; simp [h0]
  unfold numN numE
  rw [if_neg h2, if_neg h2, if_neg h3, if_neg h3, rd_noughts]
  exact ⟨rfl, rfl⟩
theorem digs_noughts (n k : Nat) (hn : n < 18446744073709551616) : numN 10 (List.replicate k 48 ++ digs 10 n) = n ∧ numE 10 (List.replicate k 48 ++ digs 10 n) = 0 := by
  have h := num_noughts (digs 10 n) k (digs_ne 10 n) (by have := all_digs (b := 10) (by omega) (by omega) id (fun i => dg_val i) n; rwa [List.map_id] at this)
  have h2 := num_digs (b := 10) (by omega) (by omega) n hn
  rw [h.1, h.2]
  exact h2
theorem digs_length_le {b : Nat} (hb : 2 ≤ b) : ∀ (k n : Nat), n < b ^ k → 1 ≤ k → (digs b n).length ≤ k
  | 0, n, _, h => absurd h (by omega)
  | k + 1, n, h, _ => by
    by_cases hl : n < b
    · rw [digs_lt hl]; simp
    · rw [digs_ge hb hl, List.length_append]
      have h1 : n / b < b ^ k := by rw [Nat.div_lt_iff_lt_mul (by omega)]; rwa [← Nat.pow_succ]
      have hk : 1 ≤ k := by
        cases k with
        | zero => exact absurd h (by simpa using hl)
        | succ k => omega
      have := digs_length_le hb k (n / b) h1 hk
      simp; omega
end Dp
end Go.Proofs.YtaekcmoogobbjaaDoor

/- The reference's texts of a number are its digits. -/
namespace Go.Proofs.YtaekcmoogobbjaaDoor
set_option linter.unusedVariables false
set_option linter.unusedSimpArgs false
open Go.RowKit
set_option maxHeartbeats 1000000
theorem hex_slice (r : Nat) (h : r < 16) (w : World) : (Instr.slice 9 (.string ⟨#[48, 49, 50, 51, 52, 53, 54, 55, 56, 57, 97, 98, 99, 100, 101, 102]⟩) (some (.int .u64 (r : Int))) (some (.int .u64 ((r : Int) + 1))) none).run Tryd.prog w = .ok (.string ⟨#[Dp.dg r]⟩) w :=
  match r, h with
  | 0, _ => by kernel_rfl
  | 1, _ => by kernel_rfl
  | 2, _ => by kernel_rfl
  | 3, _ => by kernel_rfl
  | 4, _ => by kernel_rfl
  | 5, _ => by kernel_rfl
  | 6, _ => by kernel_rfl
  | 7, _ => by kernel_rfl
  | 8, _ => by kernel_rfl
  | 9, _ => by kernel_rfl
  | 10, _ => by kernel_rfl
  | 11, _ => by kernel_rfl
  | 12, _ => by kernel_rfl
  | 13, _ => by kernel_rfl
  | 14, _ => by kernel_rfl
  | 15, _ => by kernel_rfl
  | n + 16, h => absurd h (by omega)
theorem cons_bytes (c : UInt8) (l : List UInt8) : ((⟨#[c]⟩ : ByteArray) ++ ⟨l.toArray⟩) = ⟨(c :: l).toArray⟩ := by
  apply ByteArray.ext
  rw [ByteArray.data_append]
  simp
end Go.Proofs.YtaekcmoogobbjaaDoor

/- A number's digits to the base of sixteen, as the library writes them, are those of the text Dh. Numbers have 64 bits; the library's table for trailing noughts reads as it is laid. -/
namespace Go.Proofs.YtaekcmoogobbjaaDoor
set_option linter.unusedVariables false
set_option linter.unusedSimpArgs false
open Go.RowKit
set_option maxHeartbeats 1000000
theorem tz16_key : IntKind.u64.wrap (bits BinOp.and IntKind.u64 16 (IntKind.u64.wrap (-16)) * 285870213051353865) / 288230376151711744 = 15 := by decide +kernel
theorem tz16 (w : World) (hc : w.cell? ⟨5, 15, none⟩ = some (.int .u8 4)) :
    Calls Tryd.prog 96 #[.int .u64 16] w fun e w' => e = .returned (.int .i64 4) ∧ w = w' := by
  go_enter Tryd.func96, Tryd.ntmps96
  go_wp2_with (first | simp only [tz16_key] | go_in)
  go_ret
  exact ⟨rfl, rfl⟩
theorem pow16_key : (bits BinOp.and IntKind.i64 16 15 == 0) = true := by decide +kernel
theorem pow16 (w : World)  :
    Calls Tryd.prog 95 #[.int .i64 16] w fun e w' => e = .returned (.bool true) ∧ w = w' := by
  go_enter Tryd.func95, Tryd.ntmps95
  go_wp2
  go_ret
  exact ⟨ret_bool pow16_key, rfl⟩
theorem hex_u64 {v len : Nat} (h : v * 16 ^ len < 16 ^ 16) : v < 18446744073709551616 := by
  have : v ≤ v * 16 ^ len := Nat.le_mul_of_pos_right _ (Nat.pow_pos (by omega))
  have : (16 : Nat) ^ 16 = 18446744073709551616 := by decide
  omega
theorem len65 : Tryd.prog.arrayLen 137 = 65 := by kernel_rfl
theorem slice65 (W : World) (b k : Nat) (hk : k < 65) : (Instr.sliceAt 137 (.pointer (some ⟨b, 0, none⟩)) (some (.int .i64 (k : Int))) none none).run Tryd.prog W = .ok (.slice (some ⟨b, k, none⟩) (65 - k) (65 - k)) W := by
  rw [run_sliceAt_array_l W 137 ⟨b, 0, none⟩ (by simp [Program.arrayLen, Program.elem, Tryd.underlying137]) .i64 (k : Int) (by omega) (by rw [len65]; omega)]
  rw [len65]
  have h1 : ¬ (65 = k) := by omega
  have h2 : Tryd.prog.elem 137 = 5 := by kernel_rfl
  simp [go_sem, h1, h2]
theorem and15 (v r : Nat) (h : v < 18446744073709551616) (hr : v % 16 = r) : bits BinOp.and IntKind.u64 (v : Int) 15 = (r : Int) := by
  rw [show (15 : Int) = ((15 : Nat) : Int) from rfl, bits_and_u64_nat v 15 h (by omega), ← hr]
  congr 1
  exact Nat.and_two_pow_sub_one_eq_mod v 4
theorem dig36 (r : Nat) (h : r < 16) : (({ data := #[48, 49, 50, 51, 52, 53, 54, 55, 56, 57, 97, 98, 99, 100, 101, 102, 103, 104, 105, 106, 107, 108, 109, 110, 111, 112, 113, 114, 115, 116, 117, 118, 119, 120, 121, 122] } : ByteArray)[r]'(by show r < 36; omega)).toNat = ((Dp.dg r).toNat : Int) := by
  have : r = 0 ∨ r = 1 ∨ r = 2 ∨ r = 3 ∨ r = 4 ∨ r = 5 ∨ r = 6 ∨ r = 7 ∨ r = 8 ∨ r = 9 ∨ r = 10 ∨ r = 11 ∨ r = 12 ∨ r = 13 ∨ r = 14 ∨ r = 15 := by omega
  rcases this with rfl | rfl | rfl | rfl | rfl | rfl | rfl | rfl | rfl | rfl | rfl | rfl | rfl | rfl | rfl | rfl <;> rfl
theorem conv65 (w : World) (C : Array Value) (u v k cap : Nat) (l : List UInt8) (h16 : v < 16) (hd : Dp.digs 16 u = [Dp.dg v] ++ l) (hk : k + l.length + 1 = 65) (hC : k < C.size) (hl : ∀ j, j < l.length → C[k + 1 + j]? = some (.int .u8 ((l.getD j 0).toNat : Int))) :
    (convert 22 9 (.slice (some ⟨w.heap.size, k, none⟩) (65 - k) cap)).run Tryd.prog (w.alloc (.cells (C.setIfInBounds k (Value.int .u8 (({ data := #[48, 49, 50, 51, 52, 53, 54, 55, 56, 57, 97, 98, 99, 100, 101, 102, 103, 104, 105, 106, 107, 108, 109, 110, 111, 112, 113, 114, 115, 116, 117, 118, 119, 120, 121, 122] } : ByteArray)[v]'(by show v < 36; omega)).toNat)) 137)) =
      .ok (.string ⟨(Dp.digs 16 u).toArray⟩) (w.alloc (.cells (C.setIfInBounds k (Value.int .u8 (({ data := #[48, 49, 50, 51, 52, 53, 54, 55, 56, 57, 97, 98, 99, 100, 101, 102, 103, 104, 105, 106, 107, 108, 109, 110, 111, 112, 113, 114, 115, 116, 117, 118, 119, 120, 121, 122] } : ByteArray)[v]'(by show v < 36; omega)).toNat)) 137)) := by
  have h := run_convert_bytes_back (P := Tryd.prog) (w.alloc (.cells (C.setIfInBounds k (Value.int .u8 (({ data := #[48, 49, 50, 51, 52, 53, 54, 55, 56, 57, 97, 98, 99, 100, 101, 102, 103, 104, 105, 106, 107, 108, 109, 110, 111, 112, 113, 114, 115, 116, 117, 118, 119, 120, 121, 122] } : ByteArray)[v]'(by show v < 36; omega)).toNat)) 137)) 22 9 5 ⟨w.heap.size, k, none⟩ cap (Dp.dg v :: l) Tryd.underlying22 Tryd.underlying5 Tryd.underlying9 (fun j hj => by
    rw [Lib.add_plain, World.cell?_alloc_new]
    cases j with
    | zero => exact (Array.getElem?_setIfInBounds_self_of_lt (xs := C) (i := k) hC).trans (congrArg (fun z => some (Value.int .u8 z)) (dig36 v h16))
    | succ j =>
      have hj' : j < l.length := by simpa using hj
      rw [Array.getElem?_setIfInBounds_ne (by omega), show k + (j + 1) = k + 1 + j by omega, hl j hj']
      simp [List.getD_eq_getElem?_getD, List.getElem?_eq_getElem hj'])
  rw [hd]
  rw [show 65 - k = (Dp.dg v :: l).length by simp; omega]
  exact h
set_option maxRecDepth 100000 in
theorem hex_any (u : Nat) (w : World) (hu : u < 18446744073709551616) (hc : w.cell? ⟨5, 15, none⟩ = some (.int .u8 4)) :
    Calls Tryd.prog 84 #[.slice none 0 0, .int .u64 (u : Int), .int .i64 16, .bool false, .bool false] w fun e w' => e = .returned (.tuple #[.slice none 0 0, .string ⟨(Dp.digs 16 u).toArray⟩]) ∧ Below w.heap.size w w' := by
  have K1 := Lib.hid pow16
  have HC := Lib.hid hc
  clear hc
  go_enter Tryd.func84, Tryd.ntmps84
  go_wp2_with fail
  refine (K1.out _).mono ?_
  rintro e w' ⟨rfl, rfl⟩
  go_wp2_with fail
  refine (tz16 _ ?_).mono ?_
  · exact cell_below ((Below.refl _ _).alloc (Nat.le_refl _) _) HC.out
  rintro e w' ⟨rfl, rfl⟩
  go_wp2_with fail
  clear K1 HC
  have H0 := Lib.hid (show u * 16 ^ ([] : List UInt8).length < 16 ^ 16 by simpa using hu)
  have Hu := Lib.hid hu
  clear hu
  go_loopw [1, 13] (fun n i wr => ∃ (v : Nat) (C : Array Value) (l : List UInt8) (k : Nat), n = .int .u64 (v : Int) ∧ i = .int .i64 (k : Int) ∧ (k + l.length = 65 ∧ l.length ≤ 16) ∧ v * 16 ^ l.length < 16 ^ 16 ∧ Dp.digs 16 u = Dp.digs 16 v ++ l ∧ wr = w.alloc (.cells C 137) ∧ C.size = 65 ∧
      (∀ j, j < l.length → C[k + j]? = some (.int .u8 ((l.getD j 0).toNat : Int)))) (fun n _ _ => (intOf n).toNat)
  case atStart => exact ⟨u, _, [], 65, rfl, rfl, ⟨rfl, by simp⟩, H0.out, by simp, rfl, by kernel_rfl, fun j hj => by simp at hj⟩
  case round =>
    obtain ⟨v, C, l, k, rfl, rfl, ⟨hk, hk2⟩, hb, hd, rfl, hC, hl⟩ := hrel
    by_cases h16 : v < 16
    · have hk1 : 1 ≤ k := by omega
      obtain ⟨k, rfl⟩ : ∃ k', k = k' + 1 := ⟨k - 1, by omega⟩
      have hcell : ∃ x, C[k]? = some x := ⟨C[k]'(by omega), by simp⟩
      obtain ⟨x, hx⟩ := hcell
      have hk65 : k < 65 := by omega
      have H1 := Lib.hid hk
      have H3 := Lib.hid hd
      have H4 := Lib.hid hC
      have H5 := Lib.hid hl
      have hsl := fun W => slice65 W w.heap.size k (by omega)
      have hcv := conv65 w C u v k (65 - k) l (h16 := h16) (by rw [hd, Dp.digs_lt h16]) (by simp; omega) (by omega) (fun j hj => hl j hj)
      clear hk hb hd hC hl
      go_wp2
      go_ret2
      exact ⟨rfl, (Below.refl _ _).alloc (Nat.le_refl _) _⟩
    · have hlen := Dp.hex_room hb (by omega)
      obtain ⟨k, rfl⟩ : ∃ k', k = k' + 1 := ⟨k - 1, by omega⟩
      have H1 := Lib.hid hk
      have H2 := Lib.hid hb
      have H3 := Lib.hid hd
      have H4 := Lib.hid hC
      have H5 := Lib.hid hl
      have hcell : ∃ x, C[k]? = some x := ⟨C[k]'(by omega), by simp⟩
      obtain ⟨x, hx⟩ := hcell
      have hk65 : k < 65 := by omega
      obtain ⟨r, hr⟩ : ∃ r, v % 16 = r := ⟨_, rfl⟩
      have hr16 : r < 16 := by omega
      have hv64 := hex_u64 hb
      have hand := and15 v r hv64 hr
      have H6 := Lib.hid hr
      clear hk hb hd hC hl hr hv64
      go_wp2
      go_roundw
      case rel =>
        refine ⟨v / 16, _, Dp.dg r :: l, k, by congr 1, rfl, ⟨by have := H1.out; simp; omega, by simp; omega⟩, Dp.hex_less H2.out, ?_, rfl, by rw [Array.size_setIfInBounds]; exact H4.out, ?_⟩
        · rw [H3.out, Dp.digs_ge (by omega) (by omega), H6.out, List.append_assoc]; rfl
        · intro j hj
          cases j with
          | zero => exact (Array.getElem?_setIfInBounds_self_of_lt (xs := C) (i := k) (by have := H4.out; omega)).trans (congrArg (fun z => some (Value.int .u8 z)) (dig36 r hr16))
          | succ j => rw [Array.getElem?_setIfInBounds_ne (by omega), show k + (j + 1) = k + 1 + j by omega]; exact H5.out j (by simpa using hj)
      case measure => simp [intOf]; omega
end Go.Proofs.YtaekcmoogobbjaaDoor

/- A number's text and its hex, the program's and the reference's, are the digits of the text Dh. Numbers have 64 bits; the two tables of the library read as they are laid. -/
namespace Go.Proofs.YtaekcmoogobbjaaDoor
set_option linter.unusedVariables false
set_option linter.unusedSimpArgs false
open Go.RowKit
open Go.Sort (Holds putRow mapBlock cell?_putRow)
set_option maxHeartbeats 1000000
/-- the tables of the library that number texts read -/
def Tabs (w : World) : Prop := w.cell? ⟨5, 15, none⟩ = some (.int .u8 4) ∧ Lib.TabIs Tryd.prog w "internal/strconv.uint64pow10" .u64 Lib.pow10Tab
theorem tabIs_below {P : Program} {w w' : World} {name : String} {k : IntKind} {zs : List Int} (h : Lib.TabIs P w name k zs) (hb : Below w.heap.size w w') : Lib.TabIs P w' name k zs := by
  unfold Lib.TabIs World.var? at *
  cases hg : P.globalNamed name with
  | none => simp [hg] at h
  | some g =>
    simp only [hg, Option.bind_some] at h ⊢
    have hlt : g < w.heap.size := by
      rcases Nat.lt_or_ge g w.heap.size with h' | h'
      · exact h'
      · rw [Array.getElem?_eq_none h'] at h; simp at h
    rw [hb.block g hlt]
    exact h
theorem Tabs.below {w w' : World} (h : Tabs w) (hb : Below w.heap.size w w') : Tabs w' := ⟨cell_below hb h.1, tabIs_below h.2 hb⟩
theorem below_drewN {B : Nat} {a w : World} (h : Below B a w) (n : Nat) : Below B a (w.drewN n) := ⟨h.os, h.tape, h.output, h.size, h.block⟩
theorem below_putRow {α : Type} [Inhabited α] {enc : α → Value} {B : Nat} {a w : World} (h : Below B a w) (blk off : Nat) (d : Array α) (hB : B ≤ blk) : Below B a (putRow enc w blk off d) := by
  refine h.trans ⟨rfl, rfl, rfl, by simp [putRow, mapBlock], fun k hk => ?_⟩
  simp only [putRow, mapBlock, Array.getElem?_modify]
  rw [if_neg (by omega)]
theorem holds_zero0 (w : World) (T : TypeId) (nd : Nat) (hs : nd ≤ 24) : Holds (fun (b : UInt8) => Value.int .u8 (b.toNat : Int)) (w.alloc (.cells Lib.zeros24 T)) w.heap.size 0 (Array.replicate nd (0 : UInt8)) := fun j hj => by
  have hj' : j < nd := by simpa using hj
  refine ⟨?_, World.frozen?_alloc_new _ _ _ _⟩
  rw [World.cell?_alloc_new, Lib.zeros24_at _ (by omega), getElem!_pos _ j hj]
  simp
theorem len24 : Tryd.prog.arrayLen 126 = 24 := by kernel_rfl
theorem slice24 (W : World) (b k : Nat) (hk : k < 24) : (Instr.sliceAt 126 (.pointer (some ⟨b, 0, none⟩)) none (some (.int .i64 (k : Int))) none).run Tryd.prog W = .ok (.slice (some ⟨b, 0, none⟩) k 24) W := by
  rw [run_sliceAt_array_h W 126 ⟨b, 0, none⟩ (by simp [Program.arrayLen, Program.elem, Tryd.underlying126]) .i64 (k : Int) (by omega) (by rw [len24]; omega)]
  rw [len24]
  have h2 : Tryd.prog.elem 126 = 5 := by kernel_rfl
  simp [go_sem, h2]
set_option maxRecDepth 100000 in
theorem fmt10_small (u : Nat) (w : World) (hu : u < 100) :
    Calls Tryd.prog 62 #[.int .u64 (u : Int), .int .i64 10] w fun e w' => e = .returned (.string ⟨(Dp.digs 10 u).toArray⟩) ∧ Below w.heap.size w w' := by
  have K := Lib.hid (Tryd.internal_strconv_small u hu w)
  go_enter Tryd.func62, Tryd.ntmps62
  go_wp2_with fail
  refine K.out.mono ?_
  rintro e w' ⟨rfl, rfl⟩
  go_wp2
  go_ret
  exact ⟨by rw [← Dp.dec_digs]; rfl, Below.refl _ _⟩
set_option maxRecDepth 100000 in
theorem fmt10_big (u : Nat) (w : World) (hu : u < 18446744073709551616) (h1 : 100 ≤ u) (htab : Lib.TabIs Tryd.prog w "internal/strconv.uint64pow10" .u64 Lib.pow10Tab) :
    Calls Tryd.prog 62 #[.int .u64 (u : Int), .int .i64 10] w fun e w' => e = .returned (.string ⟨(Dp.digs 10 u).toArray⟩) ∧ Below w.heap.size w w' := by
  have hu1 : 1 ≤ u := by omega
  have hnd20 : Lib.nDigits u ≤ 20 := by have := Lib.numDigits_eq u hu1 hu; split at this <;> omega
  have hH0 := holds_zero0 w 126 (Lib.nDigits u) (by omega)
  have hfmt := Tryd.internal_strconv_formatBase10 w.heap.size 0 24 u (Array.replicate (Lib.nDigits u) 0) (w.alloc (.cells Lib.zeros24 126)) hH0 (by rw [Array.size_replicate]; exact Lib.lt_pow_nDigits u) hu (by rw [Array.size_replicate]; omega)
  rw [Array.size_replicate] at hfmt
  have HH0 := Lib.hid hH0
  have HF := Lib.hid hfmt
  have ND := Lib.hid (Tryd.internal_strconv_numDigits u hu1 hu (w.alloc (.cells Lib.zeros24 126)) (Lib.tabIs_alloc htab _))
  have hsl := fun W => slice24 W w.heap.size (Lib.nDigits u) (by omega)
  have iu : (100 : Int) ≤ (u : Int) := by omega
  clear hH0 hfmt htab hu hu1 h1
  go_enter Tryd.func62, Tryd.ntmps62
  go_wp2_with fail
  refine ND.out.mono ?_
  rintro e w' ⟨rfl, rfl⟩
  go_wp2_with fail
  refine HF.out.mono ?_
  rintro e w' ⟨rfl, k, v', dk, rfl, hF⟩
  have hcv : (convert 22 9 (.slice (some ⟨w.heap.size, 0, none⟩) (Lib.nDigits u) 24)).run Tryd.prog ((putRow (fun (b : UInt8) => Value.int .u8 (b.toNat : Int)) (w.alloc (.cells Lib.zeros24 126)) w.heap.size 0 dk).drewN k) = .ok (.string ⟨(Lib.decDigits u).toArray⟩) ((putRow (fun (b : UInt8) => Value.int .u8 (b.toNat : Int)) (w.alloc (.cells Lib.zeros24 126)) w.heap.size 0 dk).drewN k) := by
    have h := run_convert_bytes_back (P := Tryd.prog) ((putRow (fun (b : UInt8) => Value.int .u8 (b.toNat : Int)) (w.alloc (.cells Lib.zeros24 126)) w.heap.size 0 dk).drewN k) 22 9 5 ⟨w.heap.size, 0, none⟩ 24 (Lib.decDigits u) Tryd.underlying22 Tryd.underlying5 Tryd.underlying9 (fun j hj => by
      rw [Lib.row_is_numeral hF j hj, Lib.add_plain, World.cell?_drewN]
      exact cell?_putRow (fun (b : UInt8) => Value.int .u8 (b.toNat : Int)) _ w.heap.size 0 _ dk HH0.out (by rw [hF.size, Array.size_replicate]) j (by rw [hF.size]; rw [Lib.decDigits_length] at hj; exact hj))
    rw [Lib.decDigits_length] at h
    exact h
  go_wp2
  go_ret
  exact ⟨by rw [← Dp.dec_digs]; rfl, below_drewN (below_putRow ((Below.refl _ _).alloc (Nat.le_refl _) _) _ _ _ (Nat.le_refl _)) k⟩
theorem fmt10 (u : Nat) (w : World) (hu : u < 18446744073709551616) (ht : Tabs w) :
    Calls Tryd.prog 62 #[.int .u64 (u : Int), .int .i64 10] w fun e w' => e = .returned (.string ⟨(Dp.digs 10 u).toArray⟩) ∧ Below w.heap.size w w' := by
  by_cases h : u < 100
  · exact fmt10_small u w h
  · exact fmt10_big u w hu (by omega) ht.2
theorem fmt16 (u : Nat) (w : World) (hu : u < 18446744073709551616) (ht : Tabs w) :
    Calls Tryd.prog 62 #[.int .u64 (u : Int), .int .i64 16] w fun e w' => e = .returned (.string ⟨(Dp.digs 16 u).toArray⟩) ∧ Below w.heap.size w w' := by
  have K := Lib.hid (hex_any u w hu ht.1)
  clear ht hu
  go_enter Tryd.func62, Tryd.ntmps62
  go_wp2_with fail
  refine K.out.mono ?_
  rintro e w' ⟨rfl, hb⟩
  go_wp2
  go_ret
  exact ⟨rfl, hb⟩
theorem strconv_fmt (b : Nat) (u : Nat) (w : World) (hb : b = 10 ∨ b = 16) (hu : u < 18446744073709551616) (ht : Tabs w) :
    Calls Tryd.prog 50 #[.int .u64 (u : Int), .int .i64 (b : Int)] w fun e w' => e = .returned (.string ⟨(Dp.digs b u).toArray⟩) ∧ Below w.heap.size w w' := by
  have K : Hid (Calls Tryd.prog 62 #[.int .u64 (u : Int), .int .i64 (b : Int)] w fun e w' => e = .returned (.string ⟨(Dp.digs b u).toArray⟩) ∧ Below w.heap.size w w') := by
    rcases hb with rfl | rfl
    · exact fmt10 u w hu ht
    · exact fmt16 u w hu ht
  clear ht hu hb
  go_enter Tryd.func50, Tryd.ntmps50
  go_wp2_with fail
  refine K.out.mono ?_
  rintro e w' ⟨rfl, hb⟩
  go_wp2
  go_ret
  exact ⟨rfl, hb⟩
theorem dec_hex (u : Nat) (w : World) (hu : u < 18446744073709551616) (ht : Tabs w) :
    Calls Tryd.prog 38 #[.int .u64 (u : Int)] w fun e w' => e = .returned (.string ⟨(Dp.digs 16 u).toArray⟩) ∧ Below w.heap.size w w' := by
  have K := Lib.hid (fun W (h : Below w.heap.size w W) => strconv_fmt 16 u W (.inr rfl) hu (ht.below h))
  have i0 := bases_1
  clear ht hu
  go_enter Tryd.func38, Tryd.ntmps38
  go_wp2_with fail
  refine (dec_bases _).mono ?_
  rintro e w1 ⟨rfl, hb⟩
  go_wp2_with fail
  refine (K.out w1 hb).mono ?_
  rintro e w2 ⟨rfl, hb2⟩
  go_wp2
  go_ret
  exact ⟨rfl, hb.trans (hb2.mono hb.size)⟩
end Go.Proofs.YtaekcmoogobbjaaDoor

/- The reference's chunks; the program's sizes. -/
namespace Go.Proofs.YtaekcmoogobbjaaDoor
set_option linter.unusedVariables false
set_option linter.unusedSimpArgs false
open Go.RowKit Go.Shelf
set_option maxHeartbeats 2000000
/-- a chunk -/
def enc (l : List UInt8) : List UInt8 := if l = [] then [] else Dp.digs 16 l.length ++ [13, 10] ++ l ++ [13, 10]
def szI (n : Int) : Int := if n ≤ 0 then 0 else (Dp.digs 16 n.toNat).length + 4 + n
end Go.Proofs.YtaekcmoogobbjaaDoor

/- The program's chunks: Encode, Last. -/
namespace Go.Proofs.YtaekcmoogobbjaaDoor
set_option linter.unusedVariables false
set_option linter.unusedSimpArgs false
open Go.RowKit Go.Shelf
set_option maxHeartbeats 2000000
theorem brow_world (w : World) (s : ByteArray) (cap : Nat) (hc : s.size ≤ cap) (B : Nat) (hB : B = w.heap.size) : BRow (Lib.bytesWorld w 5 s) (.slice (some ⟨B, 0, none⟩) s.size cap) s.data.toList :=
  ⟨_, cap, rfl, hc, .inr ⟨B, 0, rfl, fun j hj => bytes_bytesWorld_at w 5 s B hB j hj⟩⟩
theorem brows_one {w : World} {x : Value} {l : List UInt8} {B : Nat} (h : BRow w x l) (hB : B = w.heap.size) : BRows (w.alloc (.cells #[x] 22)) (.slice (some ⟨B, 0, none⟩) 1 1) [l] := by
  subst hB
  refine ⟨_, 1, rfl, Nat.le_refl _, .inr ⟨w.heap.size, 0, rfl, fun k hk => ?_⟩⟩
  obtain rfl : k = 0 := by simpa using hk
  exact ⟨x, (Boxed.new w _ _).cell, h.below ((Below.refl _ w).alloc (Nat.le_refl _) _)⟩
theorem brows_none (w : World) : BRows w (.slice none 0 0) [] := ⟨none, 0, rfl, Nat.le_refl _, .inl ⟨rfl, rfl, rfl⟩⟩
set_option maxRecDepth 100000 in
theorem ck_encode (v : Value) (L : List (List UInt8)) (w : World) (h : BRows w v L) (hl : (cat L).length ≤ 100000) (hL : L.length ≤ 900) (ht : Tabs w) :
    Calls Tryd.prog 28 #[v] w fun e w' => ∃ r, e = .returned r ∧ BRow w' r (enc (cat L)) ∧ Below w.heap.size w w' := by
  have K := Lib.hid (ck_concat v L w h (by omega) (by omega))
  have HT := Lib.hid ht
  obtain ⟨l, hll⟩ : ∃ l, cat L = l := ⟨_, rfl⟩
  rw [hll] at K hl ⊢
  clear h hL ht hll
  have hcv := fun (W : World) (s : ByteArray) => Lib.run_convert_string_bytes (P := Tryd.prog) W 9 22 5 s Tryd.underlying9 Tryd.underlying22 Tryd.underlying5
  go_enter Tryd.func28, Tryd.ntmps28
  go_wp2_with fail
  refine K.out.mono ?_
  rintro e w1 ⟨r, rfl, hr, hb1⟩
  have HR := Lib.hid hr
  have HB1 := Lib.hid hb1
  obtain ⟨ao, cap, rfl, _, _⟩ := hr
  clear hb1
  by_cases h0 : l = []
  · have HE : Hid (enc l = []) := Lib.hid (if_pos h0)
    subst h0
    rw [show ([] : List UInt8).length = 0 from rfl] at HR ⊢
    go_wp2_with fail
    go_ret
    exact ⟨_, rfl, by rw [HE.out]; exact BRow.nil _, HB1.out⟩
  · obtain ⟨n, hn⟩ : ∃ n, l.length = n := ⟨_, rfl⟩
    have hn0 : 0 < n := by rw [← hn]; exact List.length_pos_iff.2 h0
    have hne : ((n : Int) == 0) = false := beq_eq_false_iff_ne.2 (by omega)
    rw [hn] at HR hl ⊢
    have HH := Lib.hid (fun W (h : Tabs W) => dec_hex n W (by omega) h)
    obtain ⟨s, hs⟩ : ∃ s : ByteArray, (⟨(Dp.digs 16 n).toArray⟩ : ByteArray) = s := ⟨_, rfl⟩
    have hsl : s.data.toList = Dp.digs 16 n := by rw [← hs]
    have hss : s.size ≤ 16 := by
      have := Dp.digs_length_le (b := 16) (by omega) 16 n (by omega) (by omega)
      rw [← hsl] at this
      exact this
    rw [hs] at HH
    have HE : Hid (enc l = s.data.toList ++ [13, 10] ++ l ++ [13, 10]) := Lib.hid (by unfold enc; rw [if_neg h0, hn, hsl])
    have HS0 : Hid (s.data.toList ≠ []) := Lib.hid (by rw [hsl]; exact Dp.digs_ne 16 n)
    have HN := Lib.hid hn
    have H0 := Lib.hid h0
    clear hs hsl hn h0
    obtain ⟨B, hB⟩ : ∃ B, w1.heap.size = B := ⟨_, rfl⟩
    obtain ⟨W2, hW2⟩ : ∃ W2, w1.alloc (.cells #[.slice none 0 0] 73) = W2 := ⟨_, rfl⟩
    have HBW : Hid (Below w.heap.size w W2) := Lib.hid (by rw [← hW2]; exact HB1.out.alloc HB1.out.size _)
    have HBB : Hid (w.heap.size ≤ B) := Lib.hid (by rw [← hB]; exact HB1.out.size)
    have HBU : Hid (BufAt W2 B 73 (.slice none 0 0)) := Lib.hid (by rw [← hW2, ← hB]; exact Boxed.new _ _ _)
    have HR2 : Hid (BRow W2 (.slice ao n cap) l) := Lib.hid (by rw [← hW2]; exact HR.out.below ((Below.refl _ _).alloc (Nat.le_refl _) _))
    clear HR
    go_wp2_with fail
    clear hB hW2
    refine (HH.out W2 (HT.out.below HBW.out)).mono ?_
    rintro e w3 ⟨rfl, hb3⟩
    have HB3 := Lib.hid hb3
    clear hb3
    go_wp2_with fail
    obtain ⟨D, hD⟩ : ∃ D, w3.heap.size = D := ⟨_, rfl⟩
    obtain ⟨cp, hcp⟩ : ∃ c, grownCap w3 s.size 0 5 = c := ⟨_, rfl⟩
    obtain ⟨W4, hW4⟩ : ∃ W4, Lib.bytesWorld w3 5 s = W4 := ⟨_, rfl⟩
    have HS4 : Hid (BRow W4 (.slice (some ⟨D, 0, none⟩) s.size cp) s.data.toList) := Lib.hid (by
      rw [← hW4, ← hcp]
      exact brow_world w3 s _ (grownCap_ge _ _ _ _) D hD.symm)
    have HB4 : Hid (Below W2.heap.size W2 W4) := Lib.hid (by
      rw [← hW4]
      exact HB3.out.trans ((below_bytesWorld w3.heap.size w3 5 s (Nat.le_refl _)).mono HB3.out.size))
    rw [hD, hcp, hW4]
    clear hD hcp hW4
    obtain ⟨G, hG⟩ : ∃ G, W4.heap.size = G := ⟨_, rfl⟩
    obtain ⟨W5, hW5⟩ : ∃ W5, W4.alloc (.cells #[.slice (some ⟨D, 0, none⟩) s.size cp] 22) = W5 := ⟨_, rfl⟩
    have HP5 : Hid (BRows W5 (.slice (some ⟨G, 0, none⟩) 1 1) [s.data.toList]) := Lib.hid (by rw [← hW5]; exact brows_one HS4.out hG.symm)
    have HB5 : Hid (Below W2.heap.size W2 W5) := Lib.hid (by rw [← hW5]; exact HB4.out.alloc HB4.out.size _)
    rw [hG, hW5]
    clear hG hW5
    have hKlt : B < W2.heap.size := lt_of_cell HBU.out.cell
    have C1 := Lib.hid (ck_line B 73 (.slice none 0 0) (.slice (some ⟨G, 0, none⟩) 1 1) [] [s.data.toList] W5 ((HB5.out.block B hKlt).trans HBU.out) (BRow.nil _) HP5.out (fun p hp => by rw [List.mem_singleton.1 hp]; exact HS0.out) (by have : s.data.toList.length = s.size := rfl; show 0 + (s.data.toList ++ []).length ≤ _; rw [List.append_nil]; omega) (by simp))
    go_wp2_with fail
    refine C1.out.mono ?_
    rintro e w6 ⟨rfl, v6, hbu6, hrow6, hgr6⟩
    have HBU6 := Lib.hid hbu6
    have HROW6 := Lib.hid hrow6
    have HGR6 := Lib.hid hgr6
    clear hbu6 hrow6 hgr6
    have HR6 : Hid (BRow w6 (.slice ao n cap) l) := Lib.hid ((HR2.out.below HB5.out).grown ((HB5.out.block B hKlt).trans HBU.out) (fun k m e => by cases e) HGR6.out)
    have HB6 : Hid (Below w.heap.size w w6) := Lib.hid ((HBW.out.trans (HB5.out.mono HBW.out.size)).grown HGR6.out ((HBW.out.trans (HB5.out.mono HBW.out.size)).size) (fun k e => by cases e; exact HBB.out))
    obtain ⟨M, hM⟩ : ∃ M, w6.heap.size = M := ⟨_, rfl⟩
    obtain ⟨W7, hW7⟩ : ∃ W7, w6.alloc (.cells #[.slice ao n cap] 22) = W7 := ⟨_, rfl⟩
    have HP7 : Hid (BRows W7 (.slice (some ⟨M, 0, none⟩) 1 1) [l]) := Lib.hid (by rw [← hW7]; exact brows_one HR6.out hM.symm)
    have HB7 : Hid (Below w6.heap.size w6 W7) := Lib.hid (by rw [← hW7]; exact (Below.refl _ _).alloc (Nat.le_refl _) _)
    have hK6 : B < w6.heap.size := lt_of_cell HBU6.out.cell
    have C2 := Lib.hid (ck_line B 73 v6 (.slice (some ⟨M, 0, none⟩) 1 1) _ [l] W7 ((HB7.out.block B hK6).trans HBU6.out) (HROW6.out.below HB7.out) HP7.out (fun p hp => by rw [List.mem_singleton.1 hp]; exact H0.out) (by
      have h1 : s.data.toList.length = s.size := rfl
      have h2 := HN.out
      show ([] ++ cat [s.data.toList] ++ [13, 10]).length + (l ++ []).length ≤ _
      simp only [cat, List.flatten_cons, List.flatten_nil, List.append_nil, List.nil_append, List.length_append, List.length_cons, List.length_nil]
      omega) (by simp))
    go_wp2_with fail
    clear hM hW7
    refine C2.out.mono ?_
    rintro e w8 ⟨rfl, v8, hbu8, hrow8, hgr8⟩
    have c8 := hbu8.cell
    have HROW8 := Lib.hid hrow8
    have HGR8 := Lib.hid hgr8
    clear hbu8 hrow8 hgr8
    go_wp2
    go_ret
    refine ⟨_, rfl, ?_, (HB6.out.trans (HB7.out.mono HB6.out.size)).grown HGR8.out ((HB6.out.trans (HB7.out.mono HB6.out.size)).size) (fun k e => by cases e; exact HBB.out)⟩
    have h := HROW8.out
    have e1 : [] ++ cat [s.data.toList] ++ [13, 10] ++ cat [l] ++ [13, 10] = enc l := by
      rw [HE.out]
      simp [cat]
    rw [e1] at h
    exact h
end Go.Proofs.YtaekcmoogobbjaaDoor

/- The program's chunks: Last. -/
namespace Go.Proofs.YtaekcmoogobbjaaDoor
set_option linter.unusedVariables false
set_option linter.unusedSimpArgs false
open Go.RowKit Go.Shelf
set_option maxHeartbeats 2000000
set_option maxRecDepth 100000 in
theorem ck_last (w : World) :
    Calls Tryd.prog 20 #[] w fun e w' => ∃ r, e = .returned r ∧ BRow w' r [48, 13, 10, 13, 10] ∧ Below w.heap.size w w' := by
  obtain ⟨B, hB⟩ : ∃ B, w.heap.size = B := ⟨_, rfl⟩
  obtain ⟨W0, hW0⟩ : ∃ W0, w.alloc (.cells #[.slice none 0 0] 73) = W0 := ⟨_, rfl⟩
  obtain ⟨W1, hW1⟩ : ∃ W1, W0.alloc (.cells #[.int .u8 48] 5 (1, 1 + 1)) = W1 := ⟨_, rfl⟩
  obtain ⟨W5, hW5⟩ : ∃ W5, W1.alloc (.cells #[.slice (some ⟨B + 1, 0, none⟩) 1 1] 22) = W5 := ⟨_, rfl⟩
  have s0 : W0.heap.size = B + 1 := by rw [← hW0, ← hB]; exact Array.size_push ..
  have s1 : W1.heap.size = B + 1 + 1 := by rw [← hW1, ← s0]; exact Array.size_push ..
  have HBU : Hid (BufAt W0 B 73 (.slice none 0 0)) := Lib.hid (by rw [← hW0, ← hB]; exact Boxed.new w _ _)
  have HBW : Hid (Below B w W0) := Lib.hid (by rw [← hW0, ← hB]; exact (Below.refl _ w).alloc (Nat.le_refl _) _)
  have HS1 : Hid (BRow W1 (.slice (some ⟨B + 1, 0, none⟩) 1 1) [48]) := Lib.hid ⟨_, 1, rfl, Nat.le_refl _, .inr ⟨B + 1, 0, rfl, fun j hj => by
    obtain rfl : j = 0 := by simpa using hj
    rw [← hW1, ← s0]
    exact Joins.cell_alloc_mark_at W0 #[.int .u8 48] _ _ _ 0 rfl⟩⟩
  have HP5 : Hid (BRows W5 (.slice (some ⟨B + 1 + 1, 0, none⟩) 1 1) [[48]]) := Lib.hid (by rw [← hW5]; exact brows_one HS1.out s1.symm)
  have HB5 : Hid (Below W0.heap.size W0 W5) := Lib.hid (by
    rw [← hW5, ← hW1]
    have h1 : Below W0.heap.size W0 (W0.alloc (.cells #[.int .u8 48] 5 (1, 1 + 1))) := (Below.refl _ W0).alloc (Nat.le_refl _) _
    exact h1.alloc h1.size _)
  have hKlt : B < W0.heap.size := lt_of_cell HBU.out.cell
  have C1 := Lib.hid (ck_line B 73 (.slice none 0 0) (.slice (some ⟨B + 1 + 1, 0, none⟩) 1 1) [] [[48]] W5 ((HB5.out.block B hKlt).trans HBU.out) (BRow.nil _) HP5.out (fun p hp => by rw [List.mem_singleton.1 hp]; decide) (by decide) (by decide))

  have EB := Lib.hid hB
  have E0 := Lib.hid hW0
  have E1 := Lib.hid hW1
  have E5 := Lib.hid hW5
  have ES := Lib.hid s0
  have ES1 := Lib.hid s1
  clear hB hW0 hW1 hW5 s0 s1 hKlt
  have kc := fun (o : Obj) (C : Array Value) (n c : Nat) => Joins.run_convert_bytes_const_at (P := Tryd.prog) (w.alloc o) 22 5 C n c (w.heap.size + 1) (by simp) Tryd.underlying22 Tryd.underlying5
  go_enter Tryd.func20, Tryd.ntmps20
  go_wp2_with fail
  rw [EB.out, E0.out, E1.out, E5.out]
  refine C1.out.mono ?_
  rintro e w6 ⟨rfl, v6, hbu6, hrow6, hgr6⟩
  have HBU6 := Lib.hid hbu6
  have HROW6 := Lib.hid hrow6
  have HGR6 := Lib.hid hgr6
  clear hbu6 hrow6 hgr6
  have hW05 : B ≤ W0.heap.size := by have := ES.out; omega
  have hB5s : B ≤ W5.heap.size := Nat.le_trans hW05 HB5.out.size
  have HB6 : Hid (Below B w w6) := Lib.hid ((HBW.out.trans (HB5.out.mono hW05)).grown HGR6.out hB5s (fun k e => by cases e; exact Nat.le_refl _))
  have HS6 : Hid (B ≤ w6.heap.size) := Lib.hid (Nat.le_trans hB5s HGR6.out.size)
  clear hW05 hB5s
  have C2 := Lib.hid (ck_line B 73 v6 (.slice none 0 0) _ [] w6 HBU6.out HROW6.out (brows_none _) (fun p hp => by cases hp) (by decide) (by simp))
  go_wp2_with fail
  refine C2.out.mono ?_
  rintro e w8 ⟨rfl, v8, hbu8, hrow8, hgr8⟩
  have c8 := hbu8.cell
  have HROW8 := Lib.hid hrow8
  have HGR8 := Lib.hid hgr8
  clear hbu8 hrow8 hgr8
  go_wp2
  go_ret
  rw [EB.out]
  exact ⟨_, rfl, HROW8.out, HB6.out.grown HGR8.out HS6.out (fun k e => by cases e; exact Nat.le_refl _)⟩
end Go.Proofs.YtaekcmoogobbjaaDoor

/- Law 16's works: the chapter's rows. -/
namespace Go.Proofs.YtaekcmoogobbjaaDoor
set_option linter.unusedVariables false
set_option linter.unusedSimpArgs false
open Go.RowKit Go.Shelf
set_option maxHeartbeats 2000000
/-- a literal of bytes, marked -/
theorem brow_lit (w : World) (C : Array Value) (fr : Nat × Nat) (l : List UInt8) (n : Nat) (hn : n = l.length) (h : ∀ j, j < l.length → C[j]? = some (by8 (l.getD j 0))) :
    BRow (w.alloc (.cells C 5 fr)) (.slice (some ⟨w.heap.size, 0, none⟩) n n) l := by
  subst hn
  refine ⟨_, l.length, rfl, Nat.le_refl _, .inr ⟨w.heap.size, 0, rfl, fun j hj => ?_⟩⟩
  rw [Nat.zero_add, World.cell?_alloc_mark]
  exact h j hj
theorem enc_abc : enc [97, 98, 99] = [51, 13, 10, 97, 98, 99, 13, 10] := by
  unfold enc
  rw [if_neg (by decide)]
  rw [show Dp.digs 16 ([97, 98, 99] : List UInt8).length = [51] from by rw [Dp.digs_lt (by decide)]; rfl]
  rfl
theorem sz_3 : szI 3 = 8 := by
  unfold szI
  rw [if_neg (by decide), show (3 : Int).toNat = 3 from rfl, Dp.digs_lt (by decide)]
  rfl
theorem sz_16 : szI 16 = 22 := by
  unfold szI
  rw [if_neg (by decide), show (16 : Int).toNat = 16 from rfl, Dp.digs_ge (by decide) (by decide), Dp.digs_lt (by decide)]
  rfl
end Go.Proofs.YtaekcmoogobbjaaDoor

/- Slices of bytes that come in; an append of bytes that may be nil. -/
namespace Go.Proofs.YtaekcmoogobbjaaDoor
set_option linter.unusedVariables false
set_option linter.unusedSimpArgs false
open Go.RowKit Go.Shelf
set_option maxHeartbeats 2000000
theorem okWide_spot {P : Program} {w : World} {r : Reach} {base : Nat} {t e : TypeId} {a : Option Addr} {len cap : Nat} (ht : P.underlying t = some (.slice e)) (h : Value.okWide P w r base t (.slice a len cap)) : ∀ x, a = some x → x.spot = none := by
  rintro x rfl
  simp only [Value.okWide, ht, Cell.okWide, Cell.ok] at h
  exact h.2.2.2.1
/-- a slice of bytes that came in -/
def IsBytes (k : IntKind) (w : World) (a : Option Addr) (len cap : Nat) (zs : List Int) : Prop :=
  (a = none ∧ len = 0 ∧ cap = 0 ∧ zs = []) ∨
  ∃ x, a = some x ∧ x.spot = none ∧ len ≤ cap ∧ cap ≤ maxLen ∧ zs.length = cap ∧ (∀ i, i < zs.length → w.cell? (x.add i) = some (.int k (zs.getD i 0))) ∧ ∀ n ∈ zs, (Lit.int k n).wf = true
theorem IsBytes.brow {w : World} {a : Option Addr} {len cap : Nat} {zs : List Int} (h : IsBytes .u8 w a len cap zs) : ∃ l, BRow w (.slice a len cap) l ∧ l.length = len := by
  rcases h with ⟨rfl, rfl, rfl, rfl⟩ | ⟨x, rfl, hs, hl, hm, hz, hc, hw⟩
  · exact ⟨[], BRow.nil w, rfl⟩
  · obtain ⟨b, off, spot⟩ := x
    obtain rfl : spot = none := hs
    have hll : ((zs.take len).map (fun z => UInt8.ofNat z.toNat)).length = len := by rw [List.length_map, List.length_take]; omega
    refine ⟨(zs.take len).map (fun z => UInt8.ofNat z.toNat), ⟨some ⟨b, off, none⟩, cap, by rw [hll], by rw [hll]; exact hl, .inr ⟨b, off, rfl, fun j hj => ?_⟩⟩, hll⟩
    rw [hll] at hj
    have h1 := hc j (by omega)
    rw [Lib.add_plain] at h1
    rw [h1]
    have h2 : zs[j]? = some (zs.getD j 0) := by
      rw [List.getD_eq_getElem?_getD, List.getElem?_eq_getElem (by omega)]; rfl
    have h3 := hw _ (List.mem_of_getElem? h2)
    have h4 : 0 ≤ zs.getD j 0 ∧ zs.getD j 0 ≤ 255 := by simpa [Lit.wf, IntKind.min, IntKind.max, IntKind.signed, IntKind.bits] using h3
    have h5 : ((zs.take len).map (fun z => UInt8.ofNat z.toNat)).getD j 0 = UInt8.ofNat (zs.getD j 0).toNat := by
      rw [List.getD_eq_getElem?_getD, List.getElem?_map, List.getElem?_take_of_lt hj, h2]; rfl
    rw [h5]
    unfold by8
    congr 2
    rw [UInt8.toNat_ofNat']
    omega
theorem wpList_append_brow (w : World) {ops : Array Oper} {rest : List Oper} {o : Oper} {a : Act} {Q : Exit → Act → World → Prop} (hgd : o.guard = none) (s x : Operand)
    (ho : o.op = .call { callee := .builtin .append, args := #[s, x], argTypes := #[22, 22] })
    (base : Nat) (v : Value) (n : Nat) (xs : List Value) (hs : a.eval s = v) (hown : w.ownsRow base 5 1 v n xs)
    (xv : Value) (l : List UInt8) (hx : a.eval x = xv) (hb : BRow w xv l) (h63 : n + l.length ≤ 1000000) (hbase : base ≤ w.heap.size)
    (h : ∀ v' w', w'.ownsRow base 5 1 v' (n + l.length) (xs ++ l.map by8) → w.grownBy w' v.ownBlock → wpList Tryd.prog ops Q rest (a.put o.dst v') w') : wpList Tryd.prog ops Q (o :: rest) a w := by
  obtain ⟨i0, hi, hz0, hz1, hz2⟩ := info_parts info8
  obtain ⟨ao, cp, rfl, hc, hd⟩ := hb
  rcases hd with ⟨rfl, rfl, rfl⟩ | ⟨g, o2, rfl, hd⟩
  · exact wpList_append_own_none hgd s x 22 ho base 5 i0 1 Tryd.underlying22 hi v n xs hs hown hx (h v w (by simpa using hown) (grownBy_refl w))
  · refine wpList_append_own w hgd s x 22 ho base 5 i0 (.int .u8 0) 1 1 Tryd.underlying22 hi hz0 hz1 hz2 rfl (by decide) v n xs hs hown ⟨g, o2, none⟩ l.length cp (l.map by8) hx (by simp) (fun i u hu => BRow.news hd i u hu) (fun u hu => by8_one u l hu) (by unfold maxLen; omega) (by omega) hbase (fun v' w' h1 h2 _ => h v' w' h1 h2)
theorem own_head {w : World} {base n : Nat} {g cap : Nat} {l r : List UInt8} (h : w.ownsRow base 5 1 (.slice (some ⟨g, 0, none⟩) n cap) n ((l ++ r).map by8)) : l.length ≤ cap ∧ BRow w (.slice (some ⟨g, 0, none⟩) l.length cap) l ∧ (∀ x r', r = x :: r' → l.length + 1 ≤ cap ∧ w.cell? ⟨g, l.length, none⟩ = some (by8 x)) := by
  have hn : n = l.length + r.length := by have := h.1; simp at this; omega
  have hcap : n ≤ cap := by
    rcases h.2 with ⟨h0, _⟩ | ⟨g', cap', cur, e, _, _, h1, _⟩
    · cases h0
    · cases e; exact h1
  have hc := h.cells (g := g) rfl
  refine ⟨by omega, ⟨_, cap, rfl, by omega, .inr ⟨g, 0, rfl, fun j hj => ?_⟩⟩, fun x r' hr => ⟨by subst hr; simp at hn; omega, ?_⟩⟩
  · have h1 := hc j (by8 (l.getD j 0)) (by
      rw [List.getElem?_map, List.getElem?_append_left hj, List.getD_eq_getElem?_getD, List.getElem?_eq_getElem hj]; rfl)
    rw [Lib.add_plain] at h1
    exact h1
  · have h1 := hc l.length (by8 x) (by
      rw [hr, List.getElem?_map, List.getElem?_append_right (Nat.le_refl _), Nat.sub_self]; rfl)
    rw [Lib.add_plain, Nat.zero_add] at h1
    exact h1
theorem brows_two {w : World} {x y : Value} {l r : List UInt8} {B : Nat} (h : BRow w x l) (k : BRow w y r) (hB : B = w.heap.size) : BRows (w.alloc (.cells #[x, y] 22)) (.slice (some ⟨B, 0, none⟩) 2 2) [l, r] := by
  subst hB
  refine ⟨_, 2, rfl, Nat.le_refl _, .inr ⟨w.heap.size, 0, rfl, fun j hj => ?_⟩⟩
  rw [Nat.zero_add, World.cell?_alloc_new]
  match j, hj with
  | 0, _ => exact ⟨x, rfl, h.below ((Below.refl _ w).alloc (Nat.le_refl _) _)⟩
  | 1, _ => exact ⟨y, rfl, k.below ((Below.refl _ w).alloc (Nat.le_refl _) _)⟩
  | n + 2, h => exact absurd h (by simp)
theorem sz_enc (l : List UInt8) : szI (l.length : Int) = ((enc l).length : Int) := by
  unfold szI enc
  by_cases h : l = []
  · subst h; rfl
  · have h1 : 0 < l.length := List.length_pos_iff.2 h
    rw [if_neg (by omega), if_neg h, Int.toNat_natCast]
    simp only [List.length_append, List.length_cons, List.length_nil]
    omega
end Go.Proofs.YtaekcmoogobbjaaDoor

/- The reference's pieces; the program's chunks of all pieces. -/
namespace Go.Proofs.YtaekcmoogobbjaaDoor
set_option linter.unusedVariables false
set_option linter.unusedSimpArgs false
open Go.RowKit Go.Shelf
set_option maxHeartbeats 2000000
theorem ck_min (ts : Array TypeId) (t : TypeId) (a b : Int) (w : World) : (Builtin.min_ ts t #[.int .i64 a, .int .i64 b]).run Tryd.prog w = .ok (.int .i64 (if b < a then b else a)) w := by
  simp [Builtin.min_, Builtin.min2, go_sem]
theorem ck_max (ts : Array TypeId) (t : TypeId) (a b : Int) (w : World) : (Builtin.max_ ts t #[.int .i64 a, .int .i64 b]).run Tryd.prog w = .ok (.int .i64 (if b > a then b else a)) w := by
  simp [Builtin.max_, Builtin.max2, go_sem]
theorem brow_sub {W : World} {g o n cap : Nat} {l : List UInt8} (h : BRow W (.slice (some ⟨g, o, none⟩) n cap) l) (i e c : Nat) (he : i + e ≤ n) (hc : e ≤ c) (m : Nat) (hm : e = min m (n - i)) : BRow W (.slice (some ⟨g, o + i, none⟩) e c) ((l.drop i).take m) := by
  obtain ⟨ao, c', h1, _, h⟩ := brow_piece h i e he m hm
  have hl : ((l.drop i).take m).length = e := by injection h1 with _ h2 _; exact h2.symm
  refine ⟨some ⟨g, o + i, none⟩, c, by rw [hl], by rw [hl]; exact hc, ?_⟩
  rcases h with ⟨h, _⟩ | ⟨g', o', h2, h⟩
  · subst h; cases h1
  · subst h2
    cases h1
    exact .inr ⟨_, _, rfl, h⟩
set_option maxRecDepth 100000 in
theorem rch_cut_wrong (v : Value) (most : Int) (w : World) (hm : most < 1) :
    Calls Tryd.prog 12 #[v, .int .i64 most] w fun e w' => e = .returned (.tuple #[.slice none 0 0, .int .i64 2]) ∧ w = w' := by
  go_enter Tryd.func12, Tryd.ntmps12
  go_wp2
  exact bodyPost_ret (v := .tuple #[.slice none 0 0, .int .i64 2]) (by simp [results, Tryd.results12, go_sem]) rfl ⟨rfl, rfl⟩
theorem min_cut {most : Int} {n M x : Nat} (hM : min most ((n : Int) + 1) = (M : Int)) (hx : x ≤ n) : (if (x : Int) < most then (x : Int) else most) = ((min M x : Nat) : Int) := by
  split <;> omega
set_option maxRecDepth 100000 in
theorem rch_cut (ao : Option Addr) (n cap M N : Nat) (l : List UInt8) (most : Int) (w : World) (h : BRow w (.slice ao n cap) l) (hl : n ≤ 1000) (hm : ¬ most < 1) (hM : min most ((n : Int) + 1) = (M : Int)) (hN : PieN n M N) :
    Calls Tryd.prog 12 #[.slice ao n cap, .int .i64 most] w fun e w' => ∃ r, e = .returned (.tuple #[r, .int .i64 0]) ∧ BRows w' r (pies M N l) ∧ Below w.heap.size w w' := by
  have hcap : n ≤ cap := by obtain ⟨_, _, e, h1, _⟩ := h; cases e; exact h1
  have hM1 : 1 ≤ M := by omega
  have hH := Lib.hid h
  have hPN := Lib.hid hN
  have HMM := Lib.hid hM
  obtain ⟨ao', c', e1, _, hh⟩ := h
  have hln : l.length = n := by cases e1; rfl
  rcases hh with ⟨rfl, rfl, rfl⟩ | ⟨g, o, rfl, _⟩
  · have hao : ao = none := by cases e1; rfl
    have hn0 : n = 0 := by cases e1; rfl
    have hc0 : cap = 0 := by cases e1; rfl
    subst hao hn0 hc0
    have hN0 : N = 0 := by
      have h2 : ¬ 0 < N := fun h => absurd ((hN 0).2 h) (by simp)
      omega
    subst hN0
    clear hN hM e1
    go_enter Tryd.func12, Tryd.ntmps12
    go_wp2_with fail
    go_loopw [0, 6, 7] (fun b v _ wr => b = .slice none 0 0 ∧ v = .slice none 0 0 ∧ wr = w) (fun _ _ _ _ => 0)
    case atStart => exact ⟨rfl, rfl, rfl⟩
    case round =>
      obtain ⟨rfl, rfl, rfl⟩ := hrel
      go_wp2
      exact bodyPost_ret (v := .tuple #[.slice none 0 0, .int .i64 0]) (by simp [results, Tryd.results12, go_sem]) rfl ⟨_, rfl, brows_none _, Below.refl _ _⟩
  · have hao : ao = some ⟨g, o, none⟩ := by cases e1; rfl
    subst hao
    clear e1 hN hM
    obtain ⟨i0, hi, hz0, hz1, hz2⟩ := info_parts info8s
    obtain ⟨B, hB⟩ : ∃ B, w.heap.size = B := ⟨_, rfl⟩
    rw [hB]
    have HBW := Lib.hid hB
    clear hB
    go_enter Tryd.func12, Tryd.ntmps12
    go_wp2_with fail
    go_loopw [0, 6, 7] (fun b v _ wr => ∃ (k : Nat) (xs : List Value) (o' : Nat), k ≤ N ∧ k * M ≤ n + M ∧ b = .slice (some ⟨g, o', none⟩) (n - k * M) (cap - min (k * M) n) ∧ (k * M < n → o' = o + k * M) ∧ wr.ownsRow B 22 1 v k xs ∧ (∀ j, j < k → BRow w (xs.getD j (.slice none 0 0)) ((pies M N l).getD j [])) ∧ Below B w wr) (fun b _ _ _ => match b with | .slice _ m _ => m | _ => 0)
    case atStart => exact ⟨0, [], o, Nat.zero_le _, by omega, by simp, fun _ => by simp, World.ownsRow_nil _ _ _ _, fun j hj => absurd hj (by omega), Below.refl _ _⟩
    case round =>
      obtain ⟨k, xs, o', hk, hkm, rfl, ho', hown, hel, hb⟩ := hrel
      have HO := Lib.hid hown
      have HB := Lib.hid hb
      have HEL := Lib.hid hel
      clear hown hb hel
      have HK := Lib.hid (hPN.out k)
      by_cases hlt : k < N
      · have hkn : k * M < n := HK.out.2 hlt
        obtain rfl := ho' hkn
        clear ho'
        obtain ⟨q, hq⟩ : ∃ q, k * M = q := ⟨_, rfl⟩
        have HQ := Lib.hid hq
        rw [hq] at hkn hkm
        rw [show min (k * M) n = k * M by omega, hq]
        obtain ⟨x, hx⟩ : ∃ x, n - q = x := ⟨_, rfl⟩
        have HX := Lib.hid hx
        obtain ⟨e, he⟩ : ∃ e, min M x = e := ⟨_, rfl⟩
        have HE := Lib.hid he
        have hmin := min_cut (x := x) HMM.out (by omega)
        rw [he] at hmin
        have hmn : ∀ W, (Builtin.min_ #[3, 3] 3 #[.int .i64 most, .int .i64 (x : Int)]).run Tryd.prog W = .ok (.int .i64 (e : Int)) W := fun W => by rw [ck_min, hmin]
        have hBR := Lib.hid (brow_sub hH.out q e (cap - q) (by omega) (by omega) M (by omega))
        have hx0 : (0 : Int) < (x : Int) := by omega
        have hex : e ≤ x := by omega
        have hec : e ≤ cap - q := by omega
        have he0 : 0 < e := by omega
        have hxc : x ≤ cap - q := by omega
        rw [hx]
        clear hq hx he hmin HK
        go_wp2_with (first
          | (at_builtin; refine wpList_append_own _ rfl _ _ 37 rfl B 22 i0 (.slice none 0 0) 1 24 Tryd.underlying37 hi hz0 hz1 hz2 rfl (by decide) _ _ _ rfl (HO.out.alloc _) ⟨wr.heap.size, 0, none⟩ 1 1 [.slice (some ⟨g, o + q, none⟩) e (cap - q)] rfl rfl ?c1 ?c2 ?c3 ?c4 ?c5 ?_)
          | simp only [hmn])
        case c1 => exact fun j u hj => cell_one_any _ _ j u hj
        case c2 => intro u hu; simp at hu; subst hu; rfl
        case c3 => have := HO.out.1; have : k ≤ k * M := Nat.le_mul_of_pos_right k (by omega); have := HQ.out; unfold maxLen; omega
        case c4 => have : k ≤ k * M := Nat.le_mul_of_pos_right k (by omega); have := HQ.out; omega
        case c5 => have := HB.out.size; have := HBW.out; simp; omega
        intro v' w1 hown' hgrow _
        have hs0 : B ≤ wr.heap.size := by have := HB.out.size; have := HBW.out; omega
        have HB1 := Lib.hid (show Below B w w1 from Below.grown (HB.out.alloc hs0 _) hgrow (by simp; omega) (own8_ge HO.out))
        have HO1 := Lib.hid hown'
        have HEL1 : Hid (∀ j, j < k + 1 → BRow w ((xs ++ [Value.slice (some ⟨g, o + q, none⟩) e (cap - q)]).getD j (.slice none 0 0)) ((pies M N l).getD j [])) := Lib.hid (fun j hj => by
          have hxl : xs.length = k := by have := HO.out.1; omega
          by_cases hjk : j < k
          · rw [List.getD_eq_getElem?_getD, List.getElem?_append_left (by omega), ← List.getD_eq_getElem?_getD]
            exact HEL.out j hjk
          · obtain rfl : j = k := by omega
            rw [List.getD_eq_getElem?_getD, List.getElem?_append_right (by omega), hxl, Nat.sub_self, pies_get _ _ _ _ hlt, HQ.out]
            exact hBR.out)
        clear hgrow hown' hBR
        go_wp2
        go_roundw
        case rel =>
          have hq := HQ.out
          have hx := HX.out
          have he := HE.out
          refine ⟨k + 1, _, if cap - q = e then o + q else o + q + e, by omega, by rw [Nat.add_mul]; omega, ?_, ?_, HO1.out, HEL1.out, HB1.out⟩
          · rw [Nat.add_mul, Nat.one_mul, hq]
            have e3 : x - e = n - (q + M) := by omega
            have e4 : cap - q - e = cap - min (q + M) n := by omega
            rw [← e3, ← e4]
            split <;> rfl
          · rw [Nat.add_mul, Nat.one_mul, hq]
            intro hlt2
            rw [if_neg (by omega)]
            omega
        case measure => simp; omega
      · obtain rfl : k = N := by omega
        have hkn : n ≤ k * M := by
          have h1 := HK.out
          have h3 : ¬ k * M < n := fun h => hlt (h1.1 h)
          omega
        obtain ⟨q, hq⟩ : ∃ q, k * M = q := ⟨_, rfl⟩
        rw [hq] at hkn ⊢
        rw [show n - q = 0 by omega]
        clear hq hkm HK ho'
        go_wp2
        refine bodyPost_ret (v := .tuple #[_, .int .i64 0]) (by simp [results, Tryd.results12, go_sem]; rfl) rfl ⟨_, rfl, ?_, HB.out⟩
        exact brows_own HO.out (pies_len _ _ _) (fun j hj => (HEL.out j hj).below (by rw [HBW.out]; exact HB.out))
/-! a piece's chunk, and all of them -/
theorem ck_one (x : Value) (l : List UInt8) (w : World) (h : BRow w x l) (hl : l.length ≤ 10000) (ht : Tabs w) :
    Calls Tryd.prog 19 #[x] w fun e w' => ∃ r, e = .returned r ∧ BRow w' r (enc l) ∧ Below w.heap.size w w' := by
  have HT := Lib.hid ht
  have HH := Lib.hid h
  obtain ⟨ao, cap, rfl, _, _⟩ := h
  obtain ⟨n, hn⟩ : ∃ n, l.length = n := ⟨_, rfl⟩
  rw [hn] at HH ⊢
  obtain ⟨W1, hW1⟩ : ∃ W1, w.alloc (.cells #[.slice ao n cap] 22) = W1 := ⟨_, rfl⟩
  have hb1 : Below w.heap.size w W1 := by rw [← hW1]; exact (Below.refl _ w).alloc (Nat.le_refl _) _
  have K := Lib.hid (ck_encode (.slice (some ⟨w.heap.size, 0, none⟩) 1 1) [l] W1 (by rw [← hW1]; exact brows_one HH.out rfl) (by simp [cat]; omega) (by simp) (HT.out.below hb1))
  have HB1 := Lib.hid hb1
  clear hb1 hn ht
  go_enter Tryd.func19, Tryd.ntmps19
  go_wp2_with fail
  clear hW1
  refine K.out.mono ?_
  rintro e w2 ⟨r, rfl, hr, hb2⟩
  have HR := Lib.hid hr
  have HB2 := Lib.hid hb2
  clear hr hb2
  go_wp2_with fail
  go_ret
  refine ⟨_, rfl, ?_, HB1.out.trans (HB2.out.mono HB1.out.size)⟩
  have h := HR.out
  rw [show cat [l] = l by simp [cat]] at h
  exact h
theorem enc_len (l : List UInt8) (h : l.length < 1000000) : (enc l).length ≤ l.length + 20 := by
  unfold enc
  split
  · simp
  · have := Dp.digs_length_le (b := 16) (by omega) 16 l.length (by omega) (by omega)
    simp only [List.length_append, List.length_cons, List.length_nil]
    omega
/-- all chunks -/
def encs (L : List (List UInt8)) : List UInt8 := cat (L.map enc)
theorem encs_take (L : List (List UInt8)) (k : Nat) (h : k < L.length) : encs (L.take (k + 1)) = encs (L.take k) ++ enc (L.getD k []) := by
  unfold encs
  rw [List.map_take, cat_take _ k (by simpa using h), List.map_take]
  congr 1
  rw [List.getD_eq_getElem?_getD, List.getElem?_map, List.getD_eq_getElem?_getD, List.getElem?_eq_getElem h]
  rfl
theorem encs_len : ∀ (L : List (List UInt8)), (∀ l ∈ L, l.length < 1000000) → (encs L).length ≤ (cat L).length + 20 * L.length
  | [], _ => by simp [encs, cat]
  | l :: L, h => by
    have h1 := encs_len L fun x hx => h x (List.mem_cons_of_mem _ hx)
    have h2 := enc_len l (h l List.mem_cons_self)
    simp only [encs, cat, List.map_cons, List.flatten_cons, List.length_append, List.length_cons] at h1 ⊢
    omega
theorem encs_take_len (L : List (List UInt8)) (k : Nat) (h : ∀ l ∈ L, l.length < 1000000) (hk : k ≤ L.length) : (encs (L.take k)).length ≤ (cat L).length + 20 * L.length := by
  have h1 := encs_len (L.take k) fun x hx => h x (List.mem_of_mem_take hx)
  have h2 := cat_len L k
  rw [List.length_take] at h1
  omega
set_option maxRecDepth 100000 in
theorem ck_joined (v : Value) (L : List (List UInt8)) (w : World) (h : BRows w v L) (hl : (cat L).length ≤ 1000) (hL : L.length ≤ 1000) (hne : ∀ l ∈ L, l.length ≤ 1000) (ht : Tabs w) :
    Calls Tryd.prog 18 #[v, .func (.func 19) #[] #[]] w fun e w' => ∃ r, e = .returned r ∧ w'.ownsRow w.heap.size 5 1 r (encs L).length ((encs L).map by8) ∧ Below w.heap.size w w' := by
  obtain ⟨i0, hi, hz0, hz1, hz2⟩ := info_parts info8
  obtain ⟨p, c, rfl, hc, h⟩ := h
  obtain ⟨n, hn⟩ : ∃ n, L.length = n := ⟨_, rfl⟩
  rw [hn] at h hL ⊢
  have H := Lib.hid h
  have HN := Lib.hid hn
  have HT := Lib.hid ht
  have HLEN := Lib.hid (fun k hk => encs_take_len L k (fun l hl => by have := hne l hl; omega) hk)
  have HNE := Lib.hid hne
  have HCL := Lib.hid hl
  clear h hn ht hne hl
  go_enter Tryd.func18, Tryd.ntmps18
  go_wp2_with fail
  go_loopw [4, 9] (fun s i wr => ∃ k : Nat, k ≤ n ∧ i = .int .i64 k ∧ wr.ownsRow w.heap.size 5 1 s (encs (L.take k)).length ((encs (L.take k)).map by8) ∧ Below w.heap.size w wr) (fun _ i _ => n - (intOf i).toNat)
  case atStart => exact ⟨0, Nat.zero_le _, rfl, World.ownsRow_nil _ _ _ _, Below.refl _ _⟩
  case round =>
    obtain ⟨k, hk, rfl, hown, hb⟩ := hrel
    have HO := Lib.hid hown
    have HB := Lib.hid hb
    clear hown hb
    by_cases hlt : k < n
    · obtain ⟨g, o, rfl, hcell⟩ := H.out.resolve_left (by rintro ⟨_, e, _⟩; have := HN.out; rw [e] at this; simp at this; omega)
      obtain ⟨x, hx, hbx⟩ := hcell k hlt
      have hx := cell_below HB.out hx
      have hbx := hbx.below HB.out
      obtain ⟨l, hll⟩ : ∃ l, L.getD k [] = l := ⟨_, rfl⟩
      have HT1 := Lib.hid (encs_take L k (by rw [HN.out]; exact hlt))
      rw [hll] at hbx HT1
      have hmem : l ∈ L := by
        have hkL : k < L.length := by rw [HN.out]; exact hlt
        rw [← hll, List.getD_eq_getElem?_getD, List.getElem?_eq_getElem hkL]
        exact List.getElem_mem hkL
      have hlen := HLEN.out (k + 1) (by rw [HN.out]; omega)
      rw [HT1.out, List.length_append] at hlen
      have HLN := Lib.hid hlen
      have K := Lib.hid (ck_one x l wr hbx (by have := HNE.out l hmem; omega) (HT.out.below HB.out))
      clear hcell hll hlen hmem
      obtain ⟨ao, cp, rfl, _, _⟩ := hbx
      go_wp2_with fail
      refine K.out.mono ?_
      rintro e w1 ⟨r, rfl, hr, hb1⟩
      have HR := Lib.hid hr
      have HB1 := Lib.hid hb1
      clear hr hb1 K hx
      go_wp2_with (at_builtin; refine wpList_append_brow _ rfl _ _ rfl w.heap.size _ _ _ rfl (own_below HO.out HB1.out) _ (enc l) rfl HR.out ?c1 ?c2 ?_)
      case c1 => have := HLN.out; have := HCL.out; have := HN.out; omega
      case c2 => exact Nat.le_trans HB.out.size HB1.out.size
      intro v' w2 hown2 hgr2
      have hB1 : Below w.heap.size w w1 := HB.out.trans (HB1.out.mono HB.out.size)
      have HB2 := Lib.hid (show Below w.heap.size w w2 from hB1.grown hgr2 hB1.size (own8_ge HO.out))
      have HO2 : Hid (w2.ownsRow w.heap.size 5 1 v' (encs (L.take (k + 1))).length ((encs (L.take (k + 1))).map by8)) := Lib.hid (by rw [HT1.out, List.length_append, List.map_append]; exact hown2)
      clear hown2 hgr2 hB1
      go_wp2
      go_roundw
      case rel => exact ⟨k + 1, by omega, by go_num, HO2.out, HB2.out⟩
      case measure => simp [intOf]; omega
    · obtain rfl : k = n := by omega
      have hTL : L.take k = L := List.take_of_length_le (by rw [HN.out]; exact Nat.le_refl _)
      have HOF := HO.out
      rw [hTL] at HOF
      have HF := Lib.hid HOF
      clear HOF hTL
      go_wp2_with fail
      go_ret
      exact ⟨_, rfl, HF.out, HB.out⟩
set_option maxRecDepth 100000 in
theorem ck_all_wrong (v : Value) (most : Int) (w : World) (hm : most < 1) :
    Calls Tryd.prog 11 #[v, .int .i64 most] w fun e w' => e = .returned (.tuple #[.slice none 0 0, .int .i64 2]) ∧ Below w.heap.size w w' := by
  go_enter Tryd.func11, Tryd.ntmps11
  go_wp2_with fail
  refine (ck_cut_wrong v most w hm).mono ?_
  rintro e w1 ⟨rfl, hb1⟩
  go_wp2
  exact bodyPost_ret (v := .tuple #[.slice none 0 0, .int .i64 2]) (by simp [results, Tryd.results11, go_sem]) rfl ⟨rfl, hb1⟩
set_option maxRecDepth 100000 in
theorem ck_all (ao : Option Addr) (n cap M N : Nat) (l : List UInt8) (most : Int) (w : World) (h : BRow w (.slice ao n cap) l) (hl : n ≤ 300) (hm : ¬ most < 1) (hM : min most ((n : Int) + 1) = (M : Int)) (hN : PieN n M N) (hcat : (cat (pies M N l)).length ≤ 300) (hNl : N ≤ 300) (hea : ∀ p ∈ pies M N l, p.length ≤ 300) (ht : Tabs w) :
    Calls Tryd.prog 11 #[.slice ao n cap, .int .i64 most] w fun e w' => ∃ r, e = .returned (.tuple #[r, .int .i64 0]) ∧ BRow w' r (encs (pies M N l) ++ [48, 13, 10, 13, 10]) ∧ Below w.heap.size w w' := by
  have K := Lib.hid (ck_cut ao n cap M N l most w h (by omega) hm hM hN)
  have HT := Lib.hid ht
  have HC := Lib.hid hcat
  have HE := Lib.hid hea
  clear h hm hM hN ht hcat hea
  go_enter Tryd.func11, Tryd.ntmps11
  go_wp2_with fail
  refine K.out.mono ?_
  rintro e w1 ⟨r, rfl, hr, hb1⟩
  have HB1 := Lib.hid hb1
  have J := Lib.hid (ck_joined r (pies M N l) w1 hr (by have := HC.out; omega) (by rw [pies_len]; omega) (fun p hp => by have := HE.out p hp; omega) (HT.out.below hb1))
  obtain ⟨p, c, rfl, _, _⟩ := hr
  clear hb1 K
  go_wp2_with fail
  refine J.out.mono ?_
  rintro e w2 ⟨r2, rfl, hr2, hb2⟩
  have HO2 := Lib.hid hr2
  have HB2 := Lib.hid hb2
  clear hr2 hb2 J
  go_wp2_with fail
  refine (ck_last _).mono ?_
  rintro e w3 ⟨r3, rfl, hr3, hb3⟩
  have HR3 := Lib.hid hr3
  have HB3 := Lib.hid hb3
  clear hr3 hb3
  go_wp2_with (at_builtin; refine wpList_append_brow _ rfl _ _ rfl w1.heap.size _ _ _ rfl (own_below HO2.out HB3.out) _ [48, 13, 10, 13, 10] rfl HR3.out ?c1 ?c2 ?_)
  case c1 =>
    have h1 := encs_len (pies M N l) (fun x hx => by have := HE.out x hx; omega)
    have h2 := HC.out
    rw [pies_len] at h1
    simp only [List.length_cons, List.length_nil]
    omega
  case c2 => exact Nat.le_trans HB2.out.size HB3.out.size
  intro v' w4 hown4 hgr4
  have hB3 : Below w1.heap.size w1 w3 := HB2.out.trans (HB3.out.mono HB2.out.size)
  have HB4 := Lib.hid (show Below w1.heap.size w1 w4 from hB3.grown hgr4 hB3.size (own8_ge HO2.out))
  have HR4 := Lib.hid (BRow.of_own (show w4.ownsRow w1.heap.size 5 1 v' _ ((encs (pies M N l) ++ [48, 13, 10, 13, 10]).map by8) by rw [List.map_append]; exact hown4))
  clear hown4 hgr4 hB3
  go_wp2
  refine bodyPost_ret (v := .tuple #[_, .int .i64 0]) (by simp [results, Tryd.results11, go_sem]) rfl ⟨_, rfl, HR4.out, HB1.out.trans (HB4.out.mono HB1.out.size)⟩
end Go.Proofs.YtaekcmoogobbjaaDoor

/- Single operations, for the stands of a drawn region. -/
namespace Go.Proofs.YtaekcmoogobbjaaDoor
set_option linter.unusedVariables false
set_option linter.unusedSimpArgs false
open Go.RowKit Go.Shelf
set_option maxHeartbeats 400000
theorem eval_at {a : Act} {t : Nat} {v : Value} (h : a.tmps.getD t undef = v) : a.eval (.tmp t) = v := h
theorem st_move {P : Program} {o : Oper} {a : Act} {w : World} {Q : Exit → Act → World → Prop} {F : World → Value → Prop} (t : Nat) (v : Value) (ho : o.op = Op.move (.tmp t)) (hv : a.tmps.getD t undef = v) (hF : F w v) :
    o.wp P a w (fun a' w' => ∃ u, a' = a.put o.dst u ∧ F w' u ∧ Below w.heap.size w w') Q := by
  have e := eval_at hv
  unfold Oper.wp execOp
  simp only [ho, e, Sem.run_bind, Sem.run_pure, Result.andThen_ok]
  exact ⟨v, rfl, hF, Below.refl _ _⟩
theorem st_assign {P : Program} {o : Oper} {a : Act} {w : World} {Q : Exit → Act → World → Prop} {F : World → Value → Prop} (t : Nat) (v : Value) (ho : o.op = Op.assign (.tmp t)) (hv : a.tmps.getD t undef = v) (hF : F w v) :
    o.wp P a w (fun a' w' => ∃ u, a' = a.put o.dst u ∧ F w' u ∧ Below w.heap.size w w') Q := by
  have e := eval_at hv
  unfold Oper.wp execOp
  simp only [ho, e, Sem.run_bind, Sem.run_pure, Result.andThen_ok]
  exact ⟨v, rfl, hF, Below.refl _ _⟩
theorem st_conv {P : Program} {o : Oper} {a : Act} {w : World} {Q : Exit → Act → World → Prop} {F : World → Value → Prop} (t : Nat) (s d : TypeId) (v r : Value) (ho : o.op = Op.convert s d (.tmp t)) (hv : a.tmps.getD t undef = v)
    (hc : (convert s d v).run P w = .ok r w) (hF : F w r) :
    o.wp P a w (fun a' w' => ∃ u, a' = a.put o.dst u ∧ F w' u ∧ Below w.heap.size w w') Q := by
  have e := eval_at hv
  unfold Oper.wp execOp
  simp only [ho, e, Sem.run_bind, Sem.run_pure, Result.andThen_ok, hc]
  exact ⟨r, rfl, hF, Below.refl _ _⟩
theorem st_call {P : Program} {o : Oper} {a : Act} {w : World} {Q : Exit → Act → World → Prop} {F : World → Value → Prop} (t k : Nat) (ty : Array TypeId) (v : Value) (ho : o.op = Op.call { callee := .value (.func k), args := #[.tmp t], argTypes := ty }) (hv : a.tmps.getD t undef = v)
    (eg : ∀ args w, (callFunc k args).run P w = .ok (.enter k args) w)
    (hc : Calls P k #[v] w fun e w' => ∃ r, e = .returned r ∧ F w' r ∧ Below w.heap.size w w') :
    o.wp P a w (fun a' w' => ∃ u, a' = a.put o.dst u ∧ F w' u ∧ Below w.heap.size w w') Q := by
  have e := eval_at hv
  have e2 : a.eval (.func k) = .func (.func k) #[] #[] := rfl
  have e3 : a.tmps[t]?.getD undef = v := by rw [← Array.getD_eq_getD_getElem?]; exact hv
  unfold Oper.wp execOp
  simp [ho, resolve, invoke, e2, e3, eg, go_sem]
  refine hc.mono ?_
  rintro z w' ⟨r, rfl, h1, h2⟩
  exact ⟨r, rfl, h1, h2⟩
theorem st_build1 {o : Oper} {a : Act} {w : World} {Q : Exit → Act → World → Prop} {F : World → Value → Prop} (t : Nat) (ao : Option Addr) (n c : Nat) (ho : o.op = Op.buildSlice 37 1 #[(0, .tmp t)]) (hv : a.tmps.getD t undef = .slice ao n c)
    (hF : F (w.alloc (.cells #[.slice ao n c] 22)) (.slice (some ⟨w.heap.size, 0, none⟩) 1 1)) :
    o.wp Tryd.prog a w (fun a' w' => ∃ u, a' = a.put o.dst u ∧ F w' u ∧ Below w.heap.size w w') Q := by
  have e := eval_at hv
  unfold Oper.wp execOp
  simp only [ho, List.map_toArray, List.map_cons, List.map_nil, e]
  go_simp
  exact ⟨_, rfl, hF, (Below.refl _ w).alloc (Nat.le_refl _) _⟩
end Go.Proofs.YtaekcmoogobbjaaDoor

/- A range over a function whose values hang on the world (memory made anew in each round): the laws of the text Rf, with a relation in the values' place. No condition but those that each lemma states. -/
namespace Go.Proofs.YtaekcmoogobbjaaDoor
set_option linter.unusedVariables false
set_option linter.unusedSimpArgs false
open Go.RowKit
/-- what an iterator at W does: N calls of yield at most, one behind the other, of values that meet Enc where they are handed over -/
def IterG (F : Fence) (n : Nat) (P : Program) (gf : Nat) (lb : Array Value) (Enc : Nat → Array Value → World → Prop) (N : Nat) (own : Nat → Prop) (Kp : World → World → Prop) (W : World) : Prop :=
  ∀ (l : Nat) (J : Nat → World → Prop) (Jx : World → Prop),
    (∀ k X Y, J k X → Turn W.heap.size own X Y → J k Y) → (∀ X Y, Jx X → Turn W.heap.size own X Y → Jx Y) →
    (∀ k X args, k < N → J k X → Enc k args X → YieldAt F (n - 1) P l args X fun e Y => (e = .returned (.bool true) ∧ J (k + 1) Y ∧ Kp X Y ∧ KeepsFrom W.heap.size X Y) ∨ (e = .returned (.bool false) ∧ Jx Y ∧ KeepsFrom W.heap.size X Y)) →
    J 0 W → CallsIn F n P gf (#[.func (.yield l) #[] #[]] ++ lb) W fun e Y => (∃ v, e = .returned v) ∧ (J N Y ∨ Jx Y)
theorem IterG.of {F : Fence} {n : Nat} {P : Program} {gf : Nat} {lb : Array Value} {encs : Nat → Array Value} {N : Nat} {own : Nat → Prop} {Kp : World → World → Prop} {W : World} (h : IterAt F n P gf lb encs N own Kp W) : IterG F n P gf lb (fun k a _ => a = encs k) N own Kp W :=
  fun l J Jx hJ hJx hY h0 => h l J Jx hJ hJx (fun k X hk hj => hY k X _ hk hj rfl) h0
variable {F : Fence} {n : Nat} {P : Program}
/-- the loop's one call, its record laid -/
theorem rg_core {fn : FuncId} {tmps : Array Value} {dfr : Nat} {ps : Array Tmp} {assign body : Code} {Q : Exit → Act → World → Prop} {a' : Act} {B l : Nat} {W1 : World} {rec : LoopState → Option Code → Loop}
    (hrec : rec = fun st pe => { state := st, pending := pe, fn, tmps, params := ps, assign, body, defers := dfr }) (hfn : F.fn fn)
    {gf : Nat} {lb : Array Value} {Enc : Nat → Array Value → World → Prop} {N : Nat} {own : Nat → Prop} {Kp : World → World → Prop} (hps : ∀ k a X, Enc k a X → a.size = ps.size)
    (hBl : B ≤ l) (hrow : ¬ own l) (hL1 : W1.heap[l]? = some (.loop (rec .ready none)))
    (hit : IterG F (n - 1) P gf lb Enc N own Kp W1)
    (hKt : ∀ {A B C : World}, Kp A B → Kp B C → Kp A C) (hKb : ∀ (W : World) (o o' : Obj), W.heap[l]? = some o → o.isCells = false → Kp W (W.putObj l o'))
    (I : Nat → World → Prop) (Ix : Code → World → Prop) (hIg : ∀ k X Y, I k X → Turn W1.heap.size own X Y → I k Y) (hIp : ∀ k X r o, I k X → X.heap[l]? = some (.loop r) → I k (X.putObj l o))
    (hXg : ∀ c X Y, Ix c X → Turn W1.heap.size own X Y → Ix c Y) (hXp : ∀ c X r o, Ix c X → X.heap[l]? = some (.loop r) → Ix c (X.putObj l o)) (h0 : I 0 W1)
    (Ax : Nat → Act → World → Prop) (hAp : ∀ k b X r o, Ax k b X → X.heap[l]? = some (.loop r) → Ax k b (X.putObj l o))
    (hassign : ∀ (k : Nat) (args : Array Value) (W : World) (K : Act → World → Prop), k < N → I k W → Enc k args W → (∀ b W', KeepsFrom B W W' → Kp W W' → I k W' → Ax k b W' → K b W') →
      assign.wpIn (F.inRound l) (n - 1 - 1) P (Exit.then K (fun _ _ _ => False)) { tmps := (ps.zip args).foldl (fun t (p, v) => t.setIfInBounds p v) tmps, defers := [] } W)
    (hbody : ∀ (k : Nat) (b : Act) (W : World), (∃ r, W.heap[l]? = some (.loop r)) → k < N → I k W → Ax k b W → body.wpIn (F.inRound l) (n - 1 - 1) P (rfPost B Kp (I (k + 1)) Ix W) b W)
    (hdone : ∀ (W : World), I N W → Q .normal a' W) (hstop : ∀ (c : Code) (W : World), Ix c W → c.wpIn F n P Q a' W) :
    CallsIn F (n - 1) P gf (#[.func (.yield l) #[] #[]] ++ lb) W1 (rangePost F n P l Q a') := by
  refine (hit l (fun k W => I k W ∧ W.heap[l]? = some (.loop (rec .ready none))) (fun W => ∃ c, Ix c W ∧ W.heap[l]? = some (.loop (rec .done (some c))))
    (fun k X Y hs hg => ⟨hIg k X Y hs.1 hg, hg.low hs.2 (Array.getElem?_eq_some_iff.1 hL1).1 hrow⟩)
    (fun X Y hs hg => by obtain ⟨c, hc, hl⟩ := hs; exact ⟨c, hXg c X Y hc hg, hg.low hl (Array.getElem?_eq_some_iff.1 hL1).1 hrow⟩) ?_ ⟨h0, hL1⟩).mono ?_
  · rintro k W args hkN ⟨hi, hl⟩ henc
    have hy := run_yield (P := P) (args := args) hl (by rw [hrec]; exact hps k args W henc)
    rw [hrec] at hy
    refine ⟨fn, _, assign, body, hy, roundIn_of_wpIn hfn (hassign k args W _ hkN hi henc ?_)⟩
    clear hy
    intro b Wa hkfa hkpa hia hax
    have hla := hkfa.same _ _ hBl hl rfl
    have hlt : l < Wa.heap.size := (Array.getElem?_eq_some_iff.1 hla).1
    refine ⟨_, run_beginRound hla (by rw [hrec]), ?_⟩
    have hl2 : (Wa.putObj l (.loop { rec .ready none with state := .busy })).heap[l]? = some (.loop { rec .ready none with state := .busy }) := World.putObj_heap_same hlt
    have hw2 : Kp Wa (Wa.putObj l (.loop { rec .ready none with state := .busy })) := hKb _ _ _ hla rfl
    refine wpIn_mono (hbody k b _ ⟨_, hl2⟩ hkN (hIp k _ _ _ hia hla) (hAp k b _ _ _ hax hla)) ?_
    have fin : ∀ (jump : Option Code) (W3 : World), KeepsFrom B (Wa.putObj l (.loop { rec .ready none with state := .busy })) W3 →
        (Instr.endRound l jump).run P W3 = .ok (.bool jump.isNone) (W3.putObj l (.loop (rec (if jump.isNone then .ready else .done) jump))) ∧
        W3.heap[l]? = some (.loop { rec .ready none with state := .busy }) ∧
        (W3.putObj l (.loop (rec (if jump.isNone then .ready else .done) jump))).heap[l]? = some (.loop (rec (if jump.isNone then .ready else .done) jump)) := fun jump W3 hk3 => by
      have hl3 := hk3.same _ _ hBl hl2 rfl
      have := run_endRound (P := P) jump hl3
      rw [hrec] at this ⊢
      exact ⟨this, by rw [hrec] at hl3; exact hl3, World.putObj_heap_same (Array.getElem?_eq_some_iff.1 hl3).1⟩
    have hsl : l < W1.heap.size := (Array.getElem?_eq_some_iff.1 hL1).1
    have kp : ∀ (X : World) (o : Obj), KeepsFrom W1.heap.size X (X.putObj l o) := fun X o => ⟨by simp, fun k o' hk h1 _ => (World.putObj_heap_other (by omega)).trans h1⟩
    have hBW : B ≤ W1.heap.size := by omega
    have up : ∀ {X Y : World}, KeepsFrom B X Y → KeepsFrom W1.heap.size X Y := fun h => ⟨h.size, fun k o hk h1 h2 => h.same k o (by omega) h1 h2⟩
    have kall : ∀ {W3 : World} (o : Obj), KeepsFrom B (Wa.putObj l (.loop { rec .ready none with state := .busy })) W3 → KeepsFrom W1.heap.size W (W3.putObj l o) := fun o h => (up hkfa).trans ((kp _ _).trans ((up h).trans (kp _ _)))
    rintro e a3 W3 hp
    cases e with
    | normal =>
      obtain ⟨hk3, hkp3, hi3⟩ := hp
      obtain ⟨hr, hl3, hl4⟩ := fin none W3 hk3
      exact ⟨_, _, hr, .inl ⟨rfl, ⟨hIp _ _ _ _ hi3 hl3, hl4⟩, hKt hkpa (hKt (hKt hw2 hkp3) (hKb _ _ _ hl3 rfl)), kall _ hk3⟩⟩
    | ret =>
      obtain ⟨hk3, hi3⟩ := hp
      obtain ⟨hr, hl3, hl4⟩ := fin (some .ret) W3 hk3
      exact ⟨_, _, hr, .inr ⟨rfl, ⟨.ret, hXp _ _ _ _ hi3 hl3, hl4⟩, kall _ hk3⟩⟩
    | exit id =>
      obtain ⟨hk3, hi3⟩ := hp
      obtain ⟨hr, hl3, hl4⟩ := fin (some (.exit id)) W3 hk3
      exact ⟨_, _, hr, .inr ⟨rfl, ⟨.exit id, hXp _ _ _ _ hi3 hl3, hl4⟩, kall _ hk3⟩⟩
    | goto t =>
      obtain ⟨hk3, hi3⟩ := hp
      obtain ⟨hr, hl3, hl4⟩ := fin (some (.goto t)) W3 hk3
      exact ⟨_, _, hr, .inr ⟨rfl, ⟨.goto t, hXp _ _ _ _ hi3 hl3, hl4⟩, kall _ hk3⟩⟩
    | panic ch => exact hp.elim
    | outgrown => exact hp.elim
  · rintro e W2 ⟨⟨v, rfl⟩, (⟨hi, hl⟩ | ⟨c, hi, hl⟩)⟩
    · exact ⟨none, _, by have := run_endLoop (P := P) hl (by rw [hrec]; simp); rw [hrec] at this; exact this, hdone _ (hIp _ _ _ _ hi hl)⟩
    · exact ⟨some c, _, by have := run_endLoop (P := P) hl (by rw [hrec]; simp); rw [hrec] at this; exact this, hstop c _ (hXp _ _ _ _ hi hl)⟩
/-- the statement, where no loop over an iterator is round it -/
theorem rg_outer {g : Operand} {ps : Array Tmp} {assign body : Code} {Q : Exit → Act → World → Prop} {a : Act} {w : World}
    (hro : F.round = none) (h1 : 1 ≤ n) {gf : Nat} {lb : Array Value} (hg : a.eval g = .func (.func gf) #[] lb) (hFg : F.fn gf) (eg : ∀ args w, (callFunc gf args).run P w = .ok (.enter gf args) w)
    {Enc : Nat → Array Value → World → Prop} {N : Nat} {own : Nat → Prop} {Kp : World → World → Prop} (hps : ∀ k a X, Enc k a X → a.size = ps.size) (hrow : ∀ b, own b → b ≠ w.heap.size ∧ b ≠ w.heap.size + 1)
    (hit : ∀ W, Below w.heap.size w W → W.heap.size = w.heap.size + 2 → IterG F (n - 1) P gf lb Enc N own Kp W)
    (hKt : ∀ {A B C : World}, Kp A B → Kp B C → Kp A C) (hKb : ∀ (W : World) (o o' : Obj), W.heap[w.heap.size + 1]? = some o → o.isCells = false → Kp W (W.putObj (w.heap.size + 1) o'))
    (I : Nat → World → Prop) (Ix : Code → World → Prop) (hI : ∀ k X Y, I k X → Turn w.heap.size own X Y → I k Y) (hIx : ∀ c X Y, Ix c X → Turn w.heap.size own X Y → Ix c Y) (h0 : I 0 w)
    (Ax : Nat → Act → World → Prop) (hAx : ∀ k b X Y, Ax k b X → Turn w.heap.size own X Y → Ax k b Y)
    (hassign : ∀ (l k : Nat) (args : Array Value) (W : World) (K : Act → World → Prop), k < N → I k W → Enc k args W → (∀ b W', KeepsFrom w.heap.size W W' → Kp W W' → I k W' → Ax k b W' → K b W') →
      assign.wpIn (F.inRound l) (n - 1 - 1) P (Exit.then K (fun _ _ _ => False)) { tmps := (ps.zip args).foldl (fun t (p, v) => t.setIfInBounds p v) a.tmps, defers := [] } W)
    (hbody : ∀ (l k : Nat) (b : Act) (W : World), w.heap.size ≤ l → (∃ r, W.heap[l]? = some (.loop r)) → k < N → I k W → Ax k b W → body.wpIn (F.inRound l) (n - 1 - 1) P (rfPost w.heap.size Kp (I (k + 1)) Ix W) b W)
    (hdone : ∀ (D : Nat) (W : World), w.heap.size ≤ D → I N W → W.heap[D]? = some (.deferred (some [])) → Q .normal { a with defers := { target := .collected D, args := #[] } :: a.defers } W)
    (hstop : ∀ (D : Nat) (c : Code) (W : World), w.heap.size ≤ D → Ix c W → W.heap[D]? = some (.deferred (some [])) → c.wpIn F n P Q { a with defers := { target := .collected D, args := #[] } :: a.defers } W) :
    (Code.rangeFunc g ps assign body).wpIn F n P Q a w := by
  refine wpIn_rangeFunc ?_
  intro fn hfn
  rw [hro]
  obtain ⟨rec, hrec⟩ : ∃ rec : LoopState → Option Code → Loop, rec = fun st pe => { state := st, pending := pe, fn, tmps := a.tmps, params := ps, assign, body, defers := w.heap.size } := ⟨_, rfl⟩
  obtain ⟨W1, hW1⟩ : ∃ W1, (w.alloc (.deferred (some []))).alloc (.loop (rec .ready none)) = W1 := ⟨_, rfl⟩
  have hL1 : W1.heap[w.heap.size + 1]? = some (.loop (rec .ready none)) := by
    rw [← hW1]; have := World.alloc_heap_new (w.alloc (.deferred (some []))) (.loop (rec .ready none)); rwa [World.size_alloc] at this
  have hK1 : W1.heap[w.heap.size]? = some (.deferred (some [])) := by
    rw [← hW1]; exact (Below.heap_alloc _ _ _ (by simp)).trans (World.alloc_heap_new w _)
  have hI1 : I 0 W1 := by rw [← hW1]; exact hI _ _ _ (hI _ _ _ h0 (.alloc _ _)) (.alloc _ _)
  have hb1 : Below w.heap.size w W1 := by
    rw [← hW1]; exact ((Below.refl _ w).alloc (Nat.le_refl _) _).alloc (by simp) _
  have hs1 : W1.heap.size = w.heap.size + 2 := by rw [← hW1]; simp
  have hr0 : ¬ own w.heap.size := fun e => (hrow _ e).1 rfl
  have hr1 : ¬ own (w.heap.size + 1) := fun e => (hrow _ e).2 rfl
  refine ⟨w.heap.size + 1, [{ target := .collected w.heap.size, args := #[] }], W1, { target := .fn (.func gf) lb, args := #[.func (.yield (w.heap.size + 1)) #[] #[]] }, W1, gf,
    #[.func (.yield (w.heap.size + 1)) #[] #[]] ++ lb, W1, ?_, ?_, ?_, ?_, fun _ => h1, ?_⟩
  · rw [← hW1, hrec]; exact run_enterLoop_outer _ _ _ _ _
  · simp only [resolve, hg]
    simp [go_sem]
  · intro f' hf'; simp [Target.leads] at hf'; subst hf'; exact hFg
  · simp [invoke, go_sem, eg]
  · have hne : w.heap.size ≠ w.heap.size + 1 := by omega
    refine rg_core hrec hfn (B := w.heap.size) hps (by omega) hr1 hL1 (hit W1 hb1 hs1) hKt hKb
      (fun k W => I k W ∧ W.heap[w.heap.size]? = some (.deferred (some []))) (fun c W => Ix c W ∧ W.heap[w.heap.size]? = some (.deferred (some [])))
      (fun k X Y hs hg => ⟨hI _ _ _ hs.1 (hg.mono (by omega) fun _ h => h), hg.low hs.2 (by omega) hr0⟩)
      (fun k X r o hs hl => ⟨hI _ _ _ hs.1 (.putObj _ (by omega) hl rfl), (World.putObj_heap_other hne).trans hs.2⟩)
      (fun c X Y hs hg => ⟨hIx _ _ _ hs.1 (hg.mono (by omega) fun _ h => h), hg.low hs.2 (by omega) hr0⟩)
      (fun c X r o hs hl => ⟨hIx _ _ _ hs.1 (.putObj _ (by omega) hl rfl), (World.putObj_heap_other hne).trans hs.2⟩)
      ⟨hI1, hK1⟩ Ax (fun k b X r o hs hl => hAx _ _ _ _ hs (.putObj _ (by omega) hl rfl)) ?_ ?_ ?_ ?_
    · intro k args W K hk hi he hK
      exact hassign _ k args W K hk hi.1 he (fun b W' h1 h2 h3 h4 => hK b W' h1 h2 ⟨h3, h1.same _ _ (Nat.le_refl _) hi.2 rfl⟩ h4)
    · intro k b W hr hk hi ha
      refine wpIn_mono (hbody _ k b W (by omega) hr hk hi.1 ha) ?_
      intro e a3 W3 hp
      cases e with
      | normal => exact ⟨hp.1, hp.2.1, hp.2.2, hp.1.same _ _ (Nat.le_refl _) hi.2 rfl⟩
      | ret => exact ⟨hp.1, hp.2, hp.1.same _ _ (Nat.le_refl _) hi.2 rfl⟩
      | exit id => exact ⟨hp.1, hp.2, hp.1.same _ _ (Nat.le_refl _) hi.2 rfl⟩
      | goto t => exact ⟨hp.1, hp.2, hp.1.same _ _ (Nat.le_refl _) hi.2 rfl⟩
      | panic ch => exact hp
      | outgrown => exact hp
    · exact fun W hi => hdone _ W (Nat.le_refl _) hi.1 hi.2
    · exact fun c W hi => hstop _ c W (Nat.le_refl _) hi.1 hi.2
/-- the statement within a round of another such loop -/
theorem rg_inner {g : Operand} {ps : Array Tmp} {assign body : Code} {Q : Exit → Act → World → Prop} {a : Act} {w : World} {l₀ : Nat} {r₀ : Loop}
    (hro : F.round = some l₀) (hr₀ : w.heap[l₀]? = some (.loop r₀)) (h1 : 1 ≤ n) {gf : Nat} {lb : Array Value} (hg : a.eval g = .func (.func gf) #[] lb) (hFg : F.fn gf) (eg : ∀ args w, (callFunc gf args).run P w = .ok (.enter gf args) w)
    {Enc : Nat → Array Value → World → Prop} {N : Nat} {own : Nat → Prop} {Kp : World → World → Prop} (hps : ∀ k a X, Enc k a X → a.size = ps.size) (hrow : ∀ b, own b → b ≠ w.heap.size)
    (hit : ∀ W, Below w.heap.size w W → W.heap.size = w.heap.size + 1 → IterG F (n - 1) P gf lb Enc N own Kp W)
    (hKt : ∀ {A B C : World}, Kp A B → Kp B C → Kp A C) (hKb : ∀ (W : World) (o o' : Obj), W.heap[w.heap.size]? = some o → o.isCells = false → Kp W (W.putObj w.heap.size o'))
    (I : Nat → World → Prop) (Ix : Code → World → Prop) (hI : ∀ k X Y, I k X → Turn w.heap.size own X Y → I k Y) (hIx : ∀ c X Y, Ix c X → Turn w.heap.size own X Y → Ix c Y) (h0 : I 0 w)
    (Ax : Nat → Act → World → Prop) (hAx : ∀ k b X Y, Ax k b X → Turn w.heap.size own X Y → Ax k b Y)
    (hassign : ∀ (l k : Nat) (args : Array Value) (W : World) (K : Act → World → Prop), k < N → I k W → Enc k args W → (∀ b W', KeepsFrom w.heap.size W W' → Kp W W' → I k W' → Ax k b W' → K b W') →
      assign.wpIn (F.inRound l) (n - 1 - 1) P (Exit.then K (fun _ _ _ => False)) { tmps := (ps.zip args).foldl (fun t (p, v) => t.setIfInBounds p v) a.tmps, defers := [] } W)
    (hbody : ∀ (l k : Nat) (b : Act) (W : World), w.heap.size ≤ l → (∃ r, W.heap[l]? = some (.loop r)) → k < N → I k W → Ax k b W → body.wpIn (F.inRound l) (n - 1 - 1) P (rfPost w.heap.size Kp (I (k + 1)) Ix W) b W)
    (hdone : ∀ (W : World), I N W → Q .normal a W)
    (hstop : ∀ (c : Code) (W : World), Ix c W → c.wpIn F n P Q a W) :
    (Code.rangeFunc g ps assign body).wpIn F n P Q a w := by
  refine wpIn_rangeFunc ?_
  intro fn hfn
  rw [hro]
  obtain ⟨rec, hrec⟩ : ∃ rec : LoopState → Option Code → Loop, rec = fun st pe => { state := st, pending := pe, fn, tmps := a.tmps, params := ps, assign, body, defers := r₀.defers } := ⟨_, rfl⟩
  obtain ⟨W1, hW1⟩ : ∃ W1, w.alloc (.loop (rec .ready none)) = W1 := ⟨_, rfl⟩
  have hL1 : W1.heap[w.heap.size]? = some (.loop (rec .ready none)) := by
    rw [← hW1]; exact World.alloc_heap_new _ _
  have hI1 : I 0 W1 := by rw [← hW1]; exact hI _ _ _ h0 (.alloc _ _)
  have hb1 : Below w.heap.size w W1 := by
    rw [← hW1]; exact (Below.refl _ w).alloc (Nat.le_refl _) _
  have hs1 : W1.heap.size = w.heap.size + 1 := by rw [← hW1]; simp
  have hr1 : ¬ own w.heap.size := fun e => hrow _ e rfl
  refine ⟨w.heap.size, [], W1, { target := .fn (.func gf) lb, args := #[.func (.yield w.heap.size) #[] #[]] }, W1, gf,
    #[.func (.yield w.heap.size) #[] #[]] ++ lb, W1, ?_, ?_, ?_, ?_, fun _ => h1, ?_⟩
  · rw [← hW1, hrec]; exact run_enterLoop_inner hr₀ _ _ _ _ _
  · simp only [resolve, hg]
    simp [go_sem]
  · intro f' hf'; simp [Target.leads] at hf'; subst hf'; exact hFg
  · simp [invoke, go_sem, eg]
  · exact rg_core hrec hfn (B := w.heap.size) hps (Nat.le_refl _) hr1 hL1 (hit W1 hb1 hs1) hKt hKb I Ix
      (fun k X Y hs hg => hI _ _ _ hs (hg.mono (by omega) fun _ h => h)) (fun k X r o hs hl => hI _ _ _ hs (.putObj _ (Nat.le_refl _) hl rfl))
      (fun c X Y hs hg => hIx _ _ _ hs (hg.mono (by omega) fun _ h => h)) (fun c X r o hs hl => hIx _ _ _ hs (.putObj _ (Nat.le_refl _) hl rfl))
      hI1 Ax (fun k b X r o hs hl => hAx _ _ _ _ hs (.putObj _ (Nat.le_refl _) hl rfl)) (fun k args W K hk hi he hK => hassign _ k args W K hk hi he hK) (fun k b W hr hk hi ha => hbody _ k b W (Nat.le_refl _) hr hk hi ha) (fun W hi => hdone W hi) (fun c W hi => hstop c W hi)
/-- the statement, its body left by a break alone -/
theorem rg_break {g : Operand} {ps : Array Tmp} {assign body : Code} {Q : Exit → Act → World → Prop} {id : Nat} {a : Act} {w : World}
    (hro : F.round = none) (h1 : 1 ≤ n) {gf : Nat} {lb : Array Value} (hg : a.eval g = .func (.func gf) #[] lb) (hFg : F.fn gf) (eg : ∀ args w, (callFunc gf args).run P w = .ok (.enter gf args) w)
    {Enc : Nat → Array Value → World → Prop} {N : Nat} {own : Nat → Prop} {Kp : World → World → Prop} (hps : ∀ k a X, Enc k a X → a.size = ps.size) (hrow : ∀ b, own b → b ≠ w.heap.size ∧ b ≠ w.heap.size + 1)
    (hit : ∀ W, Below w.heap.size w W → W.heap.size = w.heap.size + 2 → IterG F (n - 1) P gf lb Enc N own Kp W)
    (hKt : ∀ {A B C : World}, Kp A B → Kp B C → Kp A C) (hKb : ∀ (W : World) (o o' : Obj), W.heap[w.heap.size + 1]? = some o → o.isCells = false → Kp W (W.putObj (w.heap.size + 1) o'))
    (I : Nat → World → Prop) (IE : World → Prop) (hI : ∀ k X Y, I k X → Turn w.heap.size own X Y → I k Y) (hIE : ∀ X Y, IE X → Turn w.heap.size own X Y → IE Y) (h0 : I 0 w)
    (Ax : Nat → Act → World → Prop) (hAx : ∀ k b X Y, Ax k b X → Turn w.heap.size own X Y → Ax k b Y)
    (hassign : ∀ (l k : Nat) (args : Array Value) (W : World) (K : Act → World → Prop), k < N → I k W → Enc k args W → (∀ b W', KeepsFrom w.heap.size W W' → Kp W W' → I k W' → Ax k b W' → K b W') →
      assign.wpIn (F.inRound l) (n - 1 - 1) P (Exit.then K (fun _ _ _ => False)) { tmps := (ps.zip args).foldl (fun t (p, v) => t.setIfInBounds p v) a.tmps, defers := [] } W)
    (hbody : ∀ (l k : Nat) (b : Act) (W : World), w.heap.size ≤ l → (∃ r, W.heap[l]? = some (.loop r)) → k < N → I k W → Ax k b W → body.wpIn (F.inRound l) (n - 1 - 1) P (rfPost w.heap.size Kp (I (k + 1)) (fun c X => c = .exit id ∧ IE X) W) b W)
    (hall : ∀ W, I N W → IE W) (hend : ∀ (D : Nat) (W : World), w.heap.size ≤ D → IE W → W.heap[D]? = some (.deferred (some [])) → Q .normal { a with defers := { target := .collected D, args := #[] } :: a.defers } W) :
    (Code.rangeFunc g ps assign body).wpIn F n P (Exit.inBlock id Q) a w :=
  rg_outer hro h1 hg hFg eg hps hrow hit hKt hKb I (fun c X => c = .exit id ∧ IE X) hI (fun c X Y hs ht => ⟨hs.1, hIE X Y hs.2 ht⟩) h0 Ax hAx hassign hbody
    (fun D W h1 hi h2 => hend D W h1 (hall W hi) h2) (fun D c W h1 hi h2 => by obtain ⟨rfl, hi⟩ := hi; exact wpIn_exit (by simp only [Exit.inBlock, ↓reduceIte]; exact hend D W h1 hi h2))
/-- likewise, within a round of another such loop -/
theorem rg_break_inner {g : Operand} {ps : Array Tmp} {assign body : Code} {Q : Exit → Act → World → Prop} {id : Nat} {a : Act} {w : World} {l₀ : Nat} {r₀ : Loop}
    (hro : F.round = some l₀) (hr₀ : w.heap[l₀]? = some (.loop r₀)) (h1 : 1 ≤ n) {gf : Nat} {lb : Array Value} (hg : a.eval g = .func (.func gf) #[] lb) (hFg : F.fn gf) (eg : ∀ args w, (callFunc gf args).run P w = .ok (.enter gf args) w)
    {Enc : Nat → Array Value → World → Prop} {N : Nat} {own : Nat → Prop} {Kp : World → World → Prop} (hps : ∀ k a X, Enc k a X → a.size = ps.size) (hrow : ∀ b, own b → b ≠ w.heap.size)
    (hit : ∀ W, Below w.heap.size w W → W.heap.size = w.heap.size + 1 → IterG F (n - 1) P gf lb Enc N own Kp W)
    (hKt : ∀ {A B C : World}, Kp A B → Kp B C → Kp A C) (hKb : ∀ (W : World) (o o' : Obj), W.heap[w.heap.size]? = some o → o.isCells = false → Kp W (W.putObj w.heap.size o'))
    (I : Nat → World → Prop) (IE : World → Prop) (hI : ∀ k X Y, I k X → Turn w.heap.size own X Y → I k Y) (hIE : ∀ X Y, IE X → Turn w.heap.size own X Y → IE Y) (h0 : I 0 w)
    (Ax : Nat → Act → World → Prop) (hAx : ∀ k b X Y, Ax k b X → Turn w.heap.size own X Y → Ax k b Y)
    (hassign : ∀ (l k : Nat) (args : Array Value) (W : World) (K : Act → World → Prop), k < N → I k W → Enc k args W → (∀ b W', KeepsFrom w.heap.size W W' → Kp W W' → I k W' → Ax k b W' → K b W') →
      assign.wpIn (F.inRound l) (n - 1 - 1) P (Exit.then K (fun _ _ _ => False)) { tmps := (ps.zip args).foldl (fun t (p, v) => t.setIfInBounds p v) a.tmps, defers := [] } W)
    (hbody : ∀ (l k : Nat) (b : Act) (W : World), w.heap.size ≤ l → (∃ r, W.heap[l]? = some (.loop r)) → k < N → I k W → Ax k b W → body.wpIn (F.inRound l) (n - 1 - 1) P (rfPost w.heap.size Kp (I (k + 1)) (fun c X => c = .exit id ∧ IE X) W) b W)
    (hall : ∀ W, I N W → IE W) (hend : ∀ (W : World), IE W → Q .normal a W) :
    (Code.rangeFunc g ps assign body).wpIn F n P (Exit.inBlock id Q) a w :=
  rg_inner hro hr₀ h1 hg hFg eg hps hrow hit hKt hKb I (fun c X => c = .exit id ∧ IE X) hI (fun c X Y hs ht => ⟨hs.1, hIE X Y hs.2 ht⟩) h0 Ax hAx hassign hbody
    (fun W hi => hend W (hall W hi)) (fun c W hi => by obtain ⟨rfl, hi⟩ := hi; exact wpIn_exit (by simp only [Exit.inBlock, ↓reduceIte]; exact hend W hi))
/-- some old blocks as they were, from round to round -/
def KeepB (n E : Nat) (X Y : World) : Prop := ∀ b, (b < n ∨ b = E) → b < X.heap.size → Y.heap[b]? = X.heap[b]?
theorem KeepB.lt {n E : Nat} {X Y : World} (h : KeepB n E X Y) {b : Nat} (hb : b < n ∨ b = E) (hx : b < X.heap.size) : b < Y.heap.size := by
  have h1 := h b hb hx
  rw [Array.getElem?_eq_getElem hx] at h1
  exact (Array.getElem?_eq_some_iff.1 h1).1
theorem KeepB.trans {n E : Nat} {X Y Z : World} (h : KeepB n E X Y) (k : KeepB n E Y Z) : KeepB n E X Z := fun b hb hx => (k b hb (h.lt hb hx)).trans (h b hb hx)
theorem KeepB.refl (n E : Nat) (X : World) : KeepB n E X X := fun _ _ _ => rfl
theorem KeepB.putObj {n E l : Nat} (W : World) (o : Obj) (hl : ¬ (l < n ∨ l = E)) : KeepB n E W (W.putObj l o) := fun b hb _ => World.putObj_heap_other (fun e => hl (e ▸ hb))
theorem KeepB.below {n E : Nat} {X Y : World} (h : Below X.heap.size X Y) : KeepB n E X Y := fun b _ hx => h.block b hx
theorem KeepB.setCell {n E c : Nat} (W : World) (v : Value) (hc : ¬ (c < n ∨ c = E)) : KeepB n E W (W.setCell ⟨c, 0, none⟩ v) := fun b hb _ => Below.heap_setCell _ _ _ _ (fun e => hc (by have e2 : b = c := e; rw [← e2]; exact hb))
theorem IterG.any {m : Nat} (m' : Nat) {gf : Nat} {lb : Array Value} {Enc : Nat → Array Value → World → Prop} {N : Nat} {own : Nat → Prop} {Kp : World → World → Prop} {W : World} (h : IterG Fence.wide m P gf lb Enc N own Kp W) : IterG Fence.wide m' P gf lb Enc N own Kp W :=
  fun l J Jx hJ hJx hY h0 => callsIn_wide.2 (callsIn_wide.1 (h l J Jx hJ hJx (fun k X args hk hj he => yieldAt_any _ (hY k X args hk hj he)) h0))
end Go.Proofs.YtaekcmoogobbjaaDoor

/- The iterators over slices of bytes: slices.All's and chunk.Each's. -/
namespace Go.Proofs.YtaekcmoogobbjaaDoor
set_option linter.unusedVariables false
set_option linter.unusedSimpArgs false
open Go.RowKit Go.Shelf
attribute [local go_sem] Oper.semAt_some
set_option maxHeartbeats 2000000
theorem sl_all8 (p : Option Addr) (n c : Nat) (w : World) :
    Calls Tryd.prog 24 #[.slice p n c] w fun e w' => e = .returned (.func (.func 30) #[] #[.pointer (some ⟨w.heap.size, 0, none⟩)]) ∧ w' = w.alloc (.cells #[.slice p n c] 37) := by
  go_enter Tryd.func24, Tryd.ntmps24
  go_wp2
  go_ret
  exact ⟨rfl, rfl⟩
theorem all8_it (m : Nat) (g o n cap B : Nat) (xs : List Value) (own : Nat → Prop) (Kp : World → World → Prop) (hg : ¬ own g) (hKp : ∀ X Y, 0 < n → g < X.heap.size → Kp X Y → Y.heap[g]? = X.heap[g]?) (hn : n ≤ 1000000) (hnc : n ≤ cap) (W : World)
    (hWB : Boxed W B 37 (.slice (some ⟨g, o, none⟩) n cap)) (hc : ∀ k, k < n → W.cell? ⟨g, o + k, none⟩ = some (xs.getD k (.slice none 0 0))) :
    IterAt Fence.wide m Tryd.prog 30 #[.pointer (some ⟨B, 0, none⟩)] (fun k => #[.int .i64 k, xs.getD k (.slice none 0 0)]) n own Kp W := by
  intro l J Jx hJ hJx hY h0
  refine callsIn_of_wp Tryd.func30 rfl trivial ?_ rfl
  simp only [Tryd.ntmps30, List.size_toArray, List.length_cons, List.length_nil, Nat.reduceAdd, Nat.reduceSub, Array.replicate_succ, Array.replicate_zero, List.push_toArray, List.append_toArray, List.nil_append, List.cons_append]
  have hcB := hWB.cell
  have HC := Lib.hid hc
  have hgW : 0 < n → g < W.heap.size := fun h => lt_of_cell (hc 0 h)
  clear hc
  gi_wp2
  gi_loopw [7] (fun i wr => ∃ k : Nat, k ≤ n ∧ i = .int .i64 k ∧ J k wr ∧ wr.heap[g]? = W.heap[g]?) (fun i _ => n - (intOf i).toNat)
  case atStart => exact ⟨0, Nat.zero_le _, rfl, h0, rfl⟩
  case round =>
    obtain ⟨k, hk, rfl, hj, hb⟩ := hrel
    have HBG := Lib.hid hb
    by_cases hlt : k < n
    · have hx : wr.cell? ⟨g, o + k, none⟩ = some (xs.getD k (.slice none 0 0)) := (World.cell?_of_block (a := ⟨g, o + k, none⟩) hb).trans (HC.out k hlt)
      obtain ⟨fn, tmps, assign, body, hy, hR⟩ := hY k wr hlt hj
      obtain ⟨x, hxx⟩ : ∃ x, xs.getD k (.slice none 0 0) = x := ⟨_, rfl⟩
      rw [hxx] at hx hy
      clear hb hxx hcB
      gi_wp2
      refine ⟨(fun h => by cases h), hR.mono ?_⟩
      rintro z Y (⟨rfl, hj', hkp, _⟩ | ⟨rfl, hjx, _⟩)
      · have hgY : Y.heap[g]? = W.heap[g]? := (hKp _ _ (by omega) (lt_of_cell hx) hkp).trans HBG.out
        have HGY := Lib.hid hgY
        clear hgY hx hy
        gi_wp2
        go_roundw
        case rel => exact ⟨k + 1, by omega, by go_num, hj', HGY.out⟩
        case measure => simp [intOf]; omega
      · gi_wp2
        refine bodyPost_ret (results_none rfl _ _ _) rfl ?_
        exact ⟨⟨_, rfl⟩, .inr hjx⟩
    · gi_wp2
      go_end0
      have hkN : k = n := by omega
      exact ⟨⟨_, rfl⟩, .inl (hkN ▸ hj)⟩
theorem all8_nil (m : Nat) (B : Nat) (xs : List Value) (own : Nat → Prop) (Kp : World → World → Prop) (W : World)
    (hWB : Boxed W B 37 (.slice none 0 0)) :
    IterAt Fence.wide m Tryd.prog 30 #[.pointer (some ⟨B, 0, none⟩)] (fun k => #[.int .i64 k, xs.getD k (.slice none 0 0)]) 0 own Kp W := by
  intro l J Jx hJ hJx hY h0
  refine callsIn_of_wp Tryd.func30 rfl trivial ?_ rfl
  simp only [Tryd.ntmps30, List.size_toArray, List.length_cons, List.length_nil, Nat.reduceAdd, Nat.reduceSub, Array.replicate_succ, Array.replicate_zero, List.push_toArray, List.append_toArray, List.nil_append, List.cons_append]
  have hcB := hWB.cell
  gi_wp2
  gi_loopw [7] (fun i wr => i = .int .i64 0 ∧ J 0 wr) (fun i _ => 0)
  case atStart => exact ⟨rfl, h0⟩
  case round =>
    obtain ⟨rfl, hj⟩ := hrel
    gi_wp2
    go_end0
    exact ⟨⟨_, rfl⟩, .inl hj⟩
/-- the old blocks as they were -/
def Agree (W X : World) : Prop := ∀ b, b < W.heap.size → X.heap[b]? = W.heap[b]?
theorem Agree.size {W X : World} (h : Agree W X) : W.heap.size ≤ X.heap.size := by
  rcases Nat.eq_zero_or_pos W.heap.size with h0 | h0
  · omega
  · have h1 := h (W.heap.size - 1) (by omega)
    rw [Array.getElem?_eq_getElem (by omega : W.heap.size - 1 < W.heap.size)] at h1
    have := (Array.getElem?_eq_some_iff.1 h1).1
    omega
theorem Agree.of {W X : World} (h : Below W.heap.size W X) : Agree W X := fun b hb => h.block b hb
def likeW (W X : World) : World := { X with os := W.os, tape := W.tape, output := W.output }
theorem Agree.like {W X : World} (h : Agree W X) : Below W.heap.size W (likeW W X) := ⟨rfl, rfl, rfl, h.size, h⟩
theorem Agree.brow {W X : World} {v : Value} {l : List UInt8} (h : Agree W X) (hv : BRow W v l) : BRow X v l := BRow.below (w' := likeW W X) hv h.like
theorem Agree.tabs {W X : World} (h : Agree W X) (hv : Tabs W) : Tabs X := Tabs.below (w' := likeW W X) hv h.like
theorem Agree.turn {B : Nat} {W X Y : World} (h : Agree W X) (ht : Turn B (fun _ => False) X Y) (hB : W.heap.size ≤ B) : Agree W Y :=
  fun b hb => (ht.block b (Nat.lt_of_lt_of_le hb h.size) id (fun h => by omega)).trans (h b hb)
/-- the slots ahead of the call of yield -/
def eyF (l : Nat) (k : Nat) (x : Value) (p : List UInt8) : Nat → World → Value → Prop
  | 0, _, v => v = .func (.yield l) #[] #[]
  | 1, _, v => v = .int .i64 k
  | 2, _, v => v = x
  | 3, w, v => BRows w v [p]
  | 4, w, v => BRow w v (enc p)
  | _, _, _ => False
theorem eyF.below {l k : Nat} {x : Value} {p : List UInt8} (i : Nat) (w w' : World) (v : Value) (h : eyF l k x p i w v) (hb : Below w.heap.size w w') : eyF l k x p i w' v := by
  match i, h with
  | 0, h => exact h
  | 1, h => exact h
  | 2, h => exact h
  | 3, h => exact BRows.below h hb
  | 4, h => exact BRow.below h hb
  | n + 5, h => exact h
def eySlot (i : Nat) : Nat := ([9, 10, 11, 12, 13] : List Nat).getD i 9
theorem eySlot_lt (i : Nat) : eySlot i < 16 := by
  unfold eySlot
  match i with
  | 0 | 1 | 2 | 3 | 4 => decide
  | n + 5 => simp
theorem eySlot_inj : ∀ i, i < 5 → ∀ j, j < 5 → eySlot i = eySlot j → i = j := by decide
theorem st_load99 {o : Oper} {a : Act} {w : World} {Q : Exit → Act → World → Prop} {F : World → Value → Prop} (t : Nat) (ad : Addr) (v : Value) (ho : o.op = Op.load 58 (.tmp t)) (hv : a.tmps.getD t undef = .pointer (some ad)) (hc : w.cell? ad = some v)
    (hF : F w v) : o.wp Tryd.prog a w (fun a' w' => ∃ u, a' = a.put o.dst u ∧ F w' u ∧ Below w.heap.size w w') Q := by
  have e := eval_at hv
  unfold Oper.wp execOp
  simp only [ho, e]
  go_simp
  exact ⟨_, rfl, hF, Below.refl _ _⟩
theorem turn_of_below {B : Nat} {own : Nat → Prop} {X Y : World} (hb : Below X.heap.size X Y) : Turn B own X Y := ⟨hb.os, hb.tape, hb.output, hb.size, fun k hk _ _ => hb.block k hk⟩
theorem keeps_of_below {B : Nat} {X Y : World} (hb : Below X.heap.size X Y) : KeepsFrom B X Y :=
  ⟨hb.size, fun k o _ h1 _ => (hb.block k (Array.getElem?_eq_some_iff.1 h1).1).trans h1⟩
end Go.Proofs.YtaekcmoogobbjaaDoor

/- dechunk: Each$1, gathered, Each. -/
namespace Go.Proofs.YtaekcmoogobbjaaDoor
set_option linter.unusedVariables false
set_option linter.unusedSimpArgs false
open Go.RowKit Go.Shelf
set_option maxHeartbeats 8000000
set_option maxRecDepth 100000
theorem dc_each1 (ao : Option Addr) (n cap : Nat) (l : List UInt8) (w : World) (h : BRow w (.slice ao n cap) l) (hl : n ≤ 100000) :
    ∃ c, (∀ W, BRow W (.slice ao n cap) l → BRow W (.slice ao n c) l) ∧ Calls Tryd.prog 22 #[.slice ao n cap] w fun e w' => e = .returned (.slice ao n c) ∧ w' = w := by
  obtain ⟨ao', cap', h1, hc, hd⟩ := h
  cases h1
  rcases hd with ⟨rfl, rfl, rfl⟩ | ⟨g, o, rfl, hd⟩
  · refine ⟨0, fun W h => h, ?_⟩
    rw [show ([] : List UInt8).length = 0 from rfl]
    go_enter Tryd.func22, Tryd.ntmps22
    go_wp2_with fail
    go_ret
    exact ⟨rfl, rfl⟩
  · refine ⟨l.length, fun W h => ?_, ?_⟩
    · obtain ⟨ao', cap', h1, hc, hd⟩ := h
      cases h1
      exact ⟨_, _, rfl, Nat.le_refl _, hd.imp (fun ⟨a, _, _⟩ => by cases a) id⟩
    · obtain ⟨n, hn⟩ : ∃ n, l.length = n := ⟨_, rfl⟩
      rw [hn] at hc hl ⊢
      clear hd hn
      go_enter Tryd.func22, Tryd.ntmps22
      go_wp2_with fail
      go_ret
      exact ⟨rfl, rfl⟩
theorem dc_gathered (v : Value) (L : List (List UInt8)) (w : World) (h : BRows w v L) (hL : L.length ≤ 1000) (hne : ∀ l ∈ L, l.length ≤ 100000) :
    Calls Tryd.prog 21 #[v, .func (.func 22) #[] #[]] w fun e w' => ∃ r xs, e = .returned r ∧ w'.ownsRow w.heap.size 22 1 r L.length xs ∧ (∀ j, j < L.length → BRow w (xs.getD j (.slice none 0 0)) (L.getD j [])) ∧ Below w.heap.size w w' := by
  obtain ⟨i0, hi, hz0, hz1, hz2⟩ := info_parts (show (Tryd.prog.info? 22).map (fun i => (i.zero, i.size, i.bytes)) = some (some (.slice none 0 0), 1, 24) by kernel_rfl)
  obtain ⟨p, c, rfl, hc, h⟩ := h
  obtain ⟨n, hn⟩ : ∃ n, L.length = n := ⟨_, rfl⟩
  rw [hn] at h hL ⊢
  have H := Lib.hid h
  have HN := Lib.hid hn
  have HNE := Lib.hid hne
  clear h hn hne
  go_enter Tryd.func21, Tryd.ntmps21
  go_wp2_with fail
  obtain ⟨p0, q0, c0, hnil⟩ : ∃ p q c, Value.slice none 0 0 = .slice p q c := ⟨_, _, _, rfl⟩
  go_loopw [4, 9] (fun s i wr => ∃ (k : Nat) (xs : List Value), k ≤ n ∧ i = .int .i64 k ∧ (∃ p q c, s = .slice p q c) ∧ wr.ownsRow w.heap.size 22 1 s k xs ∧ (∀ j, j < k → BRow w (xs.getD j (.slice none 0 0)) (L.getD j [])) ∧ Below w.heap.size w wr) (fun _ i _ => n - (intOf i).toNat)
  case atStart => exact ⟨0, [], Nat.zero_le _, rfl, ⟨_, _, _, rfl⟩, World.ownsRow_nil _ _ _ _, fun j hj => absurd hj (Nat.not_lt_zero j), Below.refl _ _⟩
  case round =>
    obtain ⟨k, xs, hk, rfl, ⟨ps, qs, cs, rfl⟩, hown, hxs, hb⟩ := hrel
    have HO := Lib.hid hown
    have HX := Lib.hid hxs
    have HB := Lib.hid hb
    clear hown hxs hb
    by_cases hlt : k < n
    · obtain ⟨g, o, rfl, hcell⟩ := H.out.resolve_left (by rintro ⟨_, e, _⟩; have := HN.out; rw [e] at this; simp at this; omega)
      obtain ⟨x, hx, hbx⟩ := hcell k hlt
      have hx := cell_below HB.out hx
      obtain ⟨l, hll⟩ : ∃ l, L.getD k [] = l := ⟨_, rfl⟩
      have HLL := Lib.hid hll
      rw [hll] at hbx
      have hmem : l ∈ L := by
        have hkL : k < L.length := by rw [HN.out]; exact hlt
        rw [← hll, List.getD_eq_getElem?_getD, List.getElem?_eq_getElem hkL]
        exact List.getElem_mem hkL
      have hlm := HNE.out l hmem
      obtain ⟨m, hm⟩ : ∃ m, l.length = m := ⟨_, rfl⟩
      rw [hm] at hlm
      obtain ⟨ao, cp, rfl⟩ : ∃ ao cp, x = .slice ao m cp := by obtain ⟨ao, cp, rfl, _⟩ := hbx; exact ⟨_, _, by rw [hm]⟩
      obtain ⟨cr, hr, hK⟩ := dc_each1 ao m cp l wr (hbx.below HB.out) hlm
      have HR := Lib.hid (hr w hbx)
      have K := Lib.hid hK
      clear hcell hll hmem hm hbx hr hK hlm
      go_wp2_with fail
      refine K.out.mono ?_
      rintro e w1 ⟨rfl, hw1⟩
      rw [hw1]
      clear hw1 w1
      clear K hx
      go_wp2_with (at_builtin; refine wpList_append_own _ rfl _ _ 37 rfl w.heap.size 22 i0 (.slice none 0 0) 1 24 Tryd.underlying37 hi hz0 hz1 hz2 rfl (by decide) _ _ _ rfl (HO.out.alloc _) ⟨wr.heap.size, 0, none⟩ 1 1 [.slice ao m cr] rfl rfl (by intro j u hj; match j, hj with | 0, hj => (simp at hj; subst hj; simp [Addr.add])) (by intro u hu; simp at hu; subst hu; rfl) (by unfold maxLen; omega) (by omega) (by have := HB.out.size; simp <;> omega) ?_)
      intro v' w5 hown' hgrow _
      have hb5 : Below w.heap.size w w5 := Below.grown (HB.out.alloc (HB.out.size) _) hgrow (by have := HB.out.size; simp <;> omega) (fun g hg => (HO.out.lt g hg).1)
      obtain ⟨pv, qv, cv, rfl⟩ : ∃ p q c, v' = .slice p q c := by
        rcases hown'.2 with ⟨h, _⟩ | ⟨g, cap, cur, h, _⟩
        · exact ⟨_, _, _, h⟩
        · exact ⟨_, _, _, h⟩
      have HO5 := Lib.hid hown'
      have HB5 := Lib.hid hb5
      have HX5 := Lib.hid (show ∀ j, j < k + 1 → BRow w ((xs ++ [Value.slice ao m cr]).getD j (.slice none 0 0)) (L.getD j []) from fun j hj => by
        have hxl : xs.length = k := by rw [HO.out.1]; simp
        by_cases hjk : j < k
        · rw [List.getD_eq_getElem?_getD, List.getElem?_append_left (by omega), ← List.getD_eq_getElem?_getD]
          exact HX.out j hjk
        · obtain rfl : j = k := by omega
          rw [List.getD_eq_getElem?_getD, List.getElem?_append_right (by omega), hxl, Nat.sub_self, HLL.out]
          exact HR.out)
      clear hown' hgrow hb5
      go_wp2_with fail
      go_roundw
      case rel => exact ⟨k + 1, _, by omega, by go_num, ⟨_, _, _, rfl⟩, HO5.out, HX5.out, HB5.out⟩
      case measure => simp [intOf]; omega
    · obtain rfl : k = n := by omega
      go_wp2_with fail
      go_ret
      exact ⟨_, _, rfl, HO.out, HX.out, HB.out⟩
/-- the chunks that ended, in memory -/
theorem DD.rows [Gst] {w : World} {D cap : Nat} {s : Dn.St} (h : DD w D cap s) : ∃ vt vo ve vu, w.heap[D]? = some (.cells (dcC cap s vt vo ve vu) 50 (0, 0)) ∧ BRows w ve s.ended := by
  obtain ⟨vt, vo, ve, vu, hd⟩ := h
  obtain ⟨xs, hx, hg⟩ := hd.re
  refine ⟨vt, vo, ve, vu, hd.cells, brows_own hx rfl (fun k hk => ?_)⟩
  obtain ⟨v, h1, h2, _⟩ := hg.ed k hk
  rw [List.getD_eq_getElem?_getD, h1]
  exact BRow.of_own h2
theorem grown_set (w : World) (B : Nat) (u : Value) : w.grownBy (w.setCell ⟨B, 0, none⟩ u) (some B) :=
  ⟨rfl, rfl, rfl, by simp, fun k _ hne => Below.heap_setCell _ _ _ _ (fun e => hne (by rw [e]))⟩
theorem dc_Each (cap : Nat) (l : List UInt8) (v : Value) (w : World) (h1 : 1 ≤ cap) (h2 : cap ≤ 8192) (hb : BRow w v l) (hl : l.length ≤ 100000) (hen : (Dn.write cap l Dn.start 0).1.ended.length ≤ 1000) :
    Calls Tryd.prog 13 #[.int .i64 cap, v] w fun e w' => ∃ B r, e = .returned (.func (.func 23) #[] #[.pointer (some ⟨B, 0, none⟩)]) ∧ Boxed w' B 37 r ∧ BRows w' r (Dn.write cap l Dn.start 0).1.ended ∧ w.heap.size ≤ B ∧ Below w.heap.size w w' := by
  letI : Gst := ⟨fun _ => none⟩
  obtain ⟨S, hS⟩ : ∃ z, (Dn.write cap l Dn.start 0).1 = z := ⟨_, rfl⟩
  rw [hS] at hen
  have hea := Dn.write_each cap l
  rw [hS] at hea
  have HEA := Lib.hid (fun p hp => Nat.le_trans (hea p hp) hl)
  obtain ⟨B, hB⟩ : ∃ z, w.heap.size = z := ⟨_, rfl⟩
  obtain ⟨W0, hW0⟩ : ∃ Z, w.alloc (.cells #[.slice none 0 0] 37) = Z := ⟨_, rfl⟩
  have HBX := Lib.hid (show Boxed W0 B 37 (.slice none 0 0) by rw [← hW0, ← hB]; exact Boxed.new _ _ _)
  have HB0 := Lib.hid (show Below w.heap.size w W0 by rw [← hW0]; exact (Below.refl _ _).alloc (Nat.le_refl _) _)
  have HWB := Lib.hid hB
  have K := Lib.hid (dc_New cap W0 h1 h2)
  have KW := Lib.hid (fun W (h : DD W W0.heap.size cap Dn.start) (hB : Below W0.heap.size W0 W) => dc_Write W0.heap.size cap 0 l v Dn.start W h (fun W' h' => (hb.below HB0.out).below (hB.trans h')) (start_ok cap) h1 h2 (by omega))
  rw [show ({ Dn.start with out := [] } : Dn.St) = Dn.start from rfl, hS] at KW
  obtain ⟨pv, nv, cv, rfl⟩ : ∃ p q c, v = .slice p q c := by obtain ⟨p, c, rfl, _⟩ := hb; exact ⟨_, _, _, rfl⟩
  rw [hS]
  clear hS hea hb
  go_enter Tryd.func13, Tryd.ntmps13
  go_wp2_with fail
  clear hB hW0
  refine K.out.mono ?_
  rintro e w1 ⟨rfl, hdd, hb1⟩
  have HD1 := Lib.hid (hdd.dd (fun k o h => by cases h))
  have HB1 := Lib.hid hb1
  clear hdd hb1
  go_wp2_with fail
  refine (KW.out w1 HD1.out HB1.out).mono ?_
  rintro e w2 ⟨⟨r, rfl, hr⟩, hdd2, hb2⟩
  obtain ⟨vt, vo, ve, vu, hg, hro⟩ := hdd2.rows
  have HB2 := Lib.hid (HB1.out.trans hb2)
  have HRO := Lib.hid hro
  have HBX2 := Lib.hid (show Boxed w2 B 37 (.slice none 0 0) from (HB2.out.block _ HBX.out.lt).trans HBX.out)
  unfold dcC at hg
  have a7 : w2.cell? ⟨W0.heap.size, 7, none⟩ = some ve := by simp [World.cell?, hg]
  have KG := Lib.hid (dc_gathered ve S.ended w2 hro hen HEA.out)
  obtain ⟨pe, ne, ce, rfl⟩ : ∃ p q c, ve = .slice p q c := by obtain ⟨p, c, rfl, _⟩ := hro; exact ⟨_, _, _, rfl⟩
  clear hr hdd2 hb2 hg hro
  go_wp2_with fail
  refine KG.out.mono ?_
  rintro e w3 ⟨r3, xs, rfl, hown, hxs, hb3⟩
  have HBX3 := Lib.hid (show Boxed w3 B 37 (.slice none 0 0) from (hb3.block _ HBX2.out.lt).trans HBX2.out)
  have cB := (show Boxed w3 B 37 (.slice none 0 0) from HBX3.out).cell
  have fB := (show Boxed w3 B 37 (.slice none 0 0) from HBX3.out).frozen
  obtain ⟨p3, q3, c3, rfl⟩ : ∃ p q c, r3 = .slice p q c := by
    rcases hown.2 with ⟨h, _⟩ | ⟨g, cap, cur, h, _⟩
    · exact ⟨_, _, _, h⟩
    · exact ⟨_, _, _, h⟩
  have hBW : B < w2.heap.size := HBX2.out.lt
  have HF := Lib.hid (show BRows (w3.setCell ⟨B, 0, none⟩ (.slice p3 q3 c3)) (.slice p3 q3 c3) S.ended from
    brows_own (ownsRow_setCell_below (a := ⟨B, 0, none⟩) hown hBW _) rfl (fun j hj => BRow.grown ((hxs j hj).below hb3) HBX3.out (fun k n h => by cases h) (grown_set w3 B _)))
  have HLB := Lib.hid (show Below w.heap.size w (w3.setCell ⟨B, 0, none⟩ (.slice p3 q3 c3)) from
    Below.setCell (HB0.out.trans ((HB2.out.trans (hb3.mono HB2.out.size)).mono HB0.out.size)) (p := ⟨B, 0, none⟩) (by show w.heap.size ≤ B; rw [HWB.out]; exact Nat.le_refl _) _)
  clear hown hxs hb3 a7
  go_wp2_with fail
  go_ret
  exact ⟨_, _, rfl, (show Boxed w3 B 37 (.slice none 0 0) from HBX3.out).set _, HF.out, Nat.le_of_eq HWB.out, HLB.out⟩
end Go.Proofs.YtaekcmoogobbjaaDoor

/- dechunk: the iterator of Each. -/
namespace Go.Proofs.YtaekcmoogobbjaaDoor
set_option linter.unusedVariables false
set_option linter.unusedSimpArgs false
open Go.RowKit Go.Shelf
attribute [local go_sem] Oper.semAt_some
set_option maxHeartbeats 2000000
/-- the slots ahead of the call of yield -/
def dyF (l : Nat) (k : Nat) (x : Value) (p : List UInt8) : Nat → World → Value → Prop
  | 0, _, v => v = .func (.yield l) #[] #[]
  | 1, _, v => v = .int .i64 k
  | 2, _, v => v = x
  | 3, w, v => BRow w v p
  | _, _, _ => False
theorem dyF.below {l k : Nat} {x : Value} {p : List UInt8} (i : Nat) (w w' : World) (v : Value) (h : dyF l k x p i w v) (hb : Below w.heap.size w w') : dyF l k x p i w' v := by
  match i, h with
  | 0, h => exact h
  | 1, h => exact h
  | 2, h => exact h
  | 3, h => exact BRow.below h hb
  | n + 4, h => exact h
def dySlot (i : Nat) : Nat := ([9, 10, 11, 12] : List Nat).getD i 9
theorem dySlot_lt (i : Nat) : dySlot i < 15 := by
  unfold dySlot
  match i with
  | 0 | 1 | 2 | 3 => decide
  | n + 4 => simp
theorem dySlot_inj : ∀ i, i < 4 → ∀ j, j < 4 → dySlot i = dySlot j → i = j := by decide
set_option maxRecDepth 100000 in
theorem dceach_it (L : List (List UInt8)) (v : Value) (B E : Nat) (Kp : World → World → Prop) (V : World) (hKp : ∀ X Y, Kp X Y → KeepB V.heap.size E X Y) (W : World) (hE : W.heap.size = E) (hag : Agree V W)
    (hL : L.length ≤ 900) (hLl : ∀ p ∈ L, p.length ≤ 1000) (hVB : Boxed V B 37 v) (hv : BRows V v L) :
    IterG Fence.wide 9 Tryd.prog 23 #[.pointer (some ⟨B, 0, none⟩)] (fun k args X => ∃ x, args = #[.int .i64 k, x] ∧ BRow X x (L.getD k [])) L.length (fun _ => False) Kp W := by
  intro l J Jx hJ hJx hY h0
  obtain ⟨N, hN⟩ : ∃ N, L.length = N := ⟨_, rfl⟩
  rw [hN] at hY hL ⊢
  have HV := Lib.hid hv
  obtain ⟨p, cp, rfl, hnc, hvv⟩ := hv
  rw [hN] at hVB hnc hvv HV
  obtain ⟨g, o, xs, hxs⟩ : ∃ (g o : Nat) (xs : List Value), ∀ k, k < N → p = some ⟨g, o, none⟩ ∧ V.cell? ⟨g, o + k, none⟩ = some (xs.getD k (.slice none 0 0)) ∧ BRow V (xs.getD k (.slice none 0 0)) (L.getD k []) := by
    rcases hvv with ⟨_, h, _⟩ | ⟨g, o, rfl, h⟩
    · exact ⟨0, 0, [], fun k hk => by rw [h] at hN; simp at hN; omega⟩
    · obtain ⟨xs, _, h2⟩ := brows_vals (n := N) hN h
      exact ⟨g, o, xs, fun k hk => ⟨rfl, h2 k hk⟩⟩
  have HX := Lib.hid hxs
  clear hxs
  refine callsIn_of_wp_marks Tryd.func23 rfl trivial ?_ rfl
  simp only [Tryd.ntmps23, List.size_toArray, List.length_cons, List.length_nil, Nat.reduceAdd, Nat.reduceSub, Array.replicate_succ, Array.replicate_zero, List.push_toArray, List.append_toArray, List.nil_append, List.cons_append]
  have hVE : V.heap.size ≤ E := by rw [← hE]; exact hag.size
  have hW : Boxed W B 37 (.slice p N cp) := (hag B hVB.lt).trans hVB
  have hc := (hW.alloc (.cells #[.func (.yield l) #[] #[]] 58)).cell
  have LW := Lib.hid (fun X => (callsIn_wide (n := 8)).2 (sl_all8 p N cp X))
  gi_wp2_with fail
  refine wpW_scope ?_
  gi_step
  apply wpIn_label
  gi_wp2_with fail
  refine ⟨trivial, (LW.out _).mono ?_⟩
  rintro e w' ⟨rfl, rfl⟩
  have hBlt : B < E := by have := hW.lt; omega
  obtain ⟨W0, hW0⟩ : ∃ W0, (W.alloc (.cells #[.func (.yield l) #[] #[]] 58)).alloc (.cells #[.slice p N cp] 37) = W0 := ⟨_, rfl⟩
  have hs0 : W0.heap.size = E + 2 := by rw [← hW0]; simp; omega
  have bY : Boxed W0 E 58 (.func (.yield l) #[] #[]) := by
    rw [← hW0, ← hE]; exact (Boxed.new W _ _).alloc _
  have bN : Boxed W0 (E + 1) 37 (.slice p N cp) := by
    rw [← hW0, ← hE]; have := Boxed.new (W.alloc (.cells #[.func (.yield l) #[] #[]] 58)) 37 (.slice p N cp); rwa [World.size_alloc] at this
  have j0 : J 0 W0 := by rw [← hW0]; exact hJ _ _ _ (hJ _ _ _ h0 (.alloc _ _)) (.alloc _ _)
  have o0 : Agree V W0 := by
    intro b hb
    rw [← hW0]
    exact ((Below.heap_alloc _ _ _ (by simp; omega)).trans (Below.heap_alloc _ _ _ (by omega))).trans (hag b hb)
  have hsz : (W.alloc (.cells #[.func (.yield l) #[] #[]] 58)).heap.size = E + 1 := by simp; omega
  rw [hsz, hW0]
  clear hW0 hsz hc
  gi_wp2_with fail
  refine rf_outer (N := N) (own := fun _ => False) (Kp := KeepB V.heap.size E) (encs := fun k => #[.int .i64 k, xs.getD k (.slice none 0 0)]) rfl (by omega) (gf := 30) (lb := #[.pointer (some ⟨E + 1, 0, none⟩)]) rfl trivial (enters_of Tryd.func30 (by kernel_rfl) rfl)
    (fun _ => rfl) (fun b hb => hb.elim) ?iter
    KeepB.trans (fun X o o' h2 h3 => KeepB.putObj _ _ (by omega))
    (fun k X => J k X ∧ Boxed X E 58 (.func (.yield l) #[] #[]) ∧ Agree V X) (fun c X => c = .exit 0 ∧ Jx X)
    (fun k X Y hs ht => ⟨hJ _ _ _ hs.1 (ht.mono (by omega) (fun b hb => hb)), ht.boxed hs.2.1 id, hs.2.2.turn ht (by omega)⟩)
    (fun c X Y hs ht => ⟨hs.1, hJx _ _ hs.2 (ht.mono (by omega) (fun b hb => hb))⟩) ⟨j0, bY, o0⟩
    (fun k b _ => b = { tmps := #[.func (.yield l) #[] #[], .pointer (some ⟨B, 0, none⟩), .pointer (some ⟨E, 0, none⟩), .int .i64 k, xs.getD k (.slice none 0 0), .slice p N cp, .func (.func 30) #[] #[.pointer (some ⟨E + 1, 0, none⟩)], .int .i64 k, xs.getD k (.slice none 0 0), undef, undef, undef, undef, undef, undef], defers := [] })
    (fun _ _ _ _ hs _ => hs) ?assign ?body ?done ?stop
  case iter =>
    intro X hX hs
    have hbx : Boxed X (E + 1) 37 (.slice p N cp) := (hX.block _ (by omega)).trans bN
    by_cases h0N : N = 0
    · subst h0N
      rcases hvv with ⟨rfl, _, rfl⟩ | ⟨g', o', rfl, _⟩
      · exact all8_nil _ _ _ _ _ X hbx
      · refine all8_it _ g' o' 0 cp (E + 1) xs _ _ id (fun X Y h _ _ => absurd h (by omega)) (by omega) hnc X hbx (fun k hk => absurd hk (by omega))
    · have h1 := (HX.out 0 (by omega)).1
      have h2 := (HX.out 0 (by omega)).2.1
      subst h1
      have hgV : g < V.heap.size := lt_of_cell h2
      refine all8_it _ g o N cp (E + 1) xs _ _ id (fun X Y _ hgX h => h g (.inl hgV) hgX) (by omega) hnc X hbx (fun k hk => ?_)
      refine (World.cell?_of_block (a := ⟨g, o + k, none⟩) ?_).trans (HX.out k hk).2.1
      exact (hX.block g (by omega)).trans (o0 g hgV)
  case assign =>
    intro l' k X K hk hi hK
    gi_wp2
    exact hK _ _ (KeepsFrom.refl _ _) (KeepB.refl _ _ _) hi rfl
  case body =>
    rintro l' k b X hl' ⟨r, hr⟩ hk ⟨hj, hb, hO⟩ rfl
    have hBR := Lib.hid (hO.brow (HX.out k hk).2.2)
    obtain ⟨x, hx⟩ : ∃ x, xs.getD k (.slice none 0 0) = x := ⟨_, rfl⟩
    obtain ⟨q, hq⟩ : ∃ q, L.getD k [] = q := ⟨_, rfl⟩
    have hqm : q.length ≤ 1000 := by
      refine hLl q ?_
      rw [← hq, List.getD_eq_getElem?_getD, List.getElem?_eq_getElem (by omega)]
      exact List.getElem_mem _
    rw [hx, hq] at hBR
    rw [hx]
    have hyk := hY k
    rw [hq] at hyk
    obtain ⟨ax, cx, rfl, _, _⟩ := hBR.out
    gi_wp2_with fail
    refine region_yield 4 dySlot (dyF l k (.slice ax q.length cx) q) (fun a Y => ∃ (vs : Nat → Value) (t : Bool), a = { tmps := (fillN dySlot vs 4 #[.func (.yield l) #[] #[], .pointer (some ⟨B, 0, none⟩), .pointer (some ⟨E, 0, none⟩), .int .i64 k, .slice ax q.length cx, .slice p N cp, .func (.func 30) #[] #[.pointer (some ⟨E + 1, 0, none⟩)], .int .i64 k, .slice ax q.length cx, undef, undef, undef, undef, undef, undef]).setIfInBounds 13 (.bool t), defers := [] } ∧
        ((t = true ∧ KeepsFrom (E + 2) X Y ∧ KeepB V.heap.size E X Y ∧ J (k + 1) Y) ∨ (t = false ∧ KeepsFrom (E + 2) X Y ∧ Jx Y))) (by kernel_rfl) (by kernel_rfl) (by kernel_rfl) rfl (by kernel_rfl) (by kernel_rfl) dySlot_lt (fun i j hi hj => dySlot_inj i hi j hj) dyF.below ?dst ?step ?yield ?tail
    case dst =>
      intro i o hi ho
      match i, ho with
      | 0, ho | 1, ho | 2, ho | 3, ho => cases ho; rfl
      | n + 4, ho => omega
    case step =>
      intro f a' Wy i o hi ho hpre hbel hrest
      match i, ho with
      | 0, ho => cases ho; exact st_load99 2 ⟨E, 0, none⟩ (.func (.yield l) #[] #[]) rfl (hrest 2 (by decide)) (cell_below hbel hb.cell) rfl
      | 1, ho => cases ho; exact st_move 3 (.int .i64 k) rfl (hrest 3 (by decide)) rfl
      | 2, ho => cases ho; exact st_move 4 (.slice ax q.length cx) rfl (hrest 4 (by decide)) rfl
      | 3, ho =>
        cases ho
        have p0 : a'.tmps.getD 11 undef = .slice ax q.length cx := (hpre { on := 2, ground := .data } (by simp) rfl)
        exact st_call 11 16 _ _ rfl rfl (enters_of Tryd.func16 (by kernel_rfl) rfl) ((ck_clone _ q Wy (by rw [p0]; exact hBR.out.below hbel) (by omega)).mono fun e w1 ⟨r, he, hr, hb⟩ => ⟨r, he, hr, hb⟩)
      | n + 4, ho => omega
    case yield =>
      intro vs Wy o ho hbel hvs
      cases ho
      have v0 : vs 0 = .func (.yield l) #[] #[] := hvs 0 (by decide)
      have v1 : vs 1 = .int .i64 k := hvs 1 (by decide)
      have v4 : BRow Wy (vs 3) q := hvs 3 (by decide)
      refine op_yield 9 #[.tmp 10, .tmp 12] _ #[.int .i64 k, vs 3] rfl ?_ ?_ (hyk Wy _ hk (hJ k X Wy hj (turn_of_below hbel)) ⟨vs 3, rfl, v4⟩) ?_
      · exact v0
      · simp only [List.map_toArray, List.map_cons, List.map_nil]; rw [← v1]; rfl
      · rintro z Y (⟨rfl, hj', hkp, hkf⟩ | ⟨rfl, hjx, hkf⟩)
        · refine ⟨true, rfl, vs, true, rfl, .inl ⟨rfl, ?_, ?_, hj'⟩⟩
          · exact (keeps_of_below hbel).trans ⟨hkf.size, fun i o hi h1 h2 => hkf.same i o (by omega) h1 h2⟩
          · exact (KeepB.below hbel).trans (hKp _ _ hkp)
        · exact ⟨false, rfl, vs, false, rfl, .inr ⟨rfl, (keeps_of_below hbel).trans ⟨hkf.size, fun i o hi h1 h2 => hkf.same i o (by omega) h1 h2⟩, hjx⟩⟩
    case tail =>
      rintro a' Y o ho ⟨vs, t, rfl, hp⟩
      cases ho
      refine opR (fun c h => by cases h) ?_
      simp only [fillN, show List.range 4 = [0, 1, 2, 3] from rfl, List.foldl_cons, List.foldl_nil, show dySlot 0 = 9 from rfl, show dySlot 1 = 10 from rfl, show dySlot 2 = 11 from rfl, show dySlot 3 = 12 from rfl]
      go_simp
      rcases hp with ⟨rfl, h1, h2, h3⟩ | ⟨rfl, h1, h2⟩
      · gi_wp2
        exact ⟨by rw [hs0]; exact h1, h2, h3, (h2 E (.inr rfl) hb.lt).trans hb, fun b hb' => (h2 b (.inl hb') (Nat.lt_of_lt_of_le hb' hO.size)).trans (hO b hb')⟩
      · gi_wp2
        exact ⟨by rw [hs0]; exact h1, rfl, h2⟩
  case done =>
    rintro D X hD ⟨hj, _⟩ hK
    gi_wp2
    rw [Exit.noGoto_normal]
    refine ⟨by simp, .inl ⟨_, _, rfl, run_takeDeferred hK, ?_⟩⟩
    exact ⟨_, results_none rfl _ _ _, ⟨_, rfl⟩, .inl (hJ _ _ _ hj (.putObj _ (by omega) hK rfl))⟩
  case stop =>
    rintro D c X hD ⟨rfl, hjx⟩ hK
    gi_wp2
    rw [Exit.noGoto_normal]
    refine ⟨by simp, .inl ⟨_, _, rfl, run_takeDeferred hK, ?_⟩⟩
    exact ⟨_, results_none rfl _ _ _, ⟨_, rfl⟩, .inr (hJx _ _ hjx (.putObj _ (by omega) hK rfl))⟩
end Go.Proofs.YtaekcmoogobbjaaDoor

/- The decoder of chunks, plain: of chunks just the bytes are told. -/
namespace Go.Proofs.YtaekcmoogobbjaaDoor
set_option linter.unusedVariables false
set_option linter.unusedSimpArgs false
set_option maxRecDepth 100000
namespace Dn
def okC (x : UInt8) : Bool := hx.contains x && Tp.valB (x.toNat : Int) && (x != 13)
theorem dg_ok : ∀ i : Fin 16, okC (Dp.dg i.val) = true := by decide
theorem digs_ok (u : Nat) : ∀ x ∈ Dp.digs 16 u, okC x = true := by
  refine Nat.strongRecOn u fun u ih => ?_
  intro x hx
  by_cases h : u < 16
  · rw [Dp.digs_lt h, List.mem_singleton] at hx
    subst hx
    exact dg_ok ⟨u, h⟩
  · rw [Dp.digs_ge (by omega) h, List.mem_append, List.mem_singleton] at hx
    rcases hx with hx | rfl
    · exact ih (u / 16) (by omega) x hx
    · exact dg_ok ⟨u % 16, by omega⟩
theorem put_more {cap : Nat} {c : UInt8} {line : List UInt8} (h : okC c = true) (hl : line.length < cap) : put cap c line false = .more (line ++ [c]) false := by
  unfold okC at h
  simp only [Bool.and_eq_true, bne_iff_ne, ne_eq] at h
  unfold put
  rw [if_neg (by decide), if_neg h.2, if_neg (by rw [h.1.2]; decide), if_neg (by omega)]
theorem write_line (cap : Nat) (R : List UInt8) : ∀ (ds : List UInt8) (s : St) (i : Nat), (∀ x ∈ ds, okC x = true) → s.pt = 0 → s.why = 0 → s.cr = false → s.line.length + ds.length ≤ cap → write cap (ds ++ R) s i = write cap R { s with line := s.line ++ ds } (i + ds.length)
  | [], s, i, _, _, _, _, _ => by simp
  | c :: ds, s, i, h, hp, hw, hc, hl => by
    have hs : ¬ stopped s := by unfold stopped; omega
    rw [List.cons_append, write_go cap c _ i hs]
    have e : step cap c s = { s with line := s.line ++ [c] } := by
      unfold step
      rw [hp]
      simp only
      unfold sizes
      rw [hc, put_more (h c List.mem_cons_self) (by simp at hl; omega)]
      simp only [hp, hc]
    rw [e, write_line cap R ds { s with line := s.line ++ [c] } (i + 1) (fun x hx => h x (List.mem_cons_of_mem _ hx)) hp hw hc (by simp at hl ⊢; omega)]
    simp only [List.append_assoc, List.cons_append, List.nil_append, List.length_cons]
    congr 1
    omega
theorem put_cr {cap : Nat} {line : List UInt8} : put cap 13 line false = .more line true := rfl
theorem put_lf {cap : Nat} {line : List UInt8} : put cap 10 line true = .full := rfl
theorem write_end (cap : Nat) (R : List UInt8) (s : St) (i : Nat) (hp : s.pt = 0) (hw : s.why = 0) (hc : s.cr = false) : write cap (13 :: 10 :: R) s i = write cap R (sz s.line (told s)) (i + 2) := by
  obtain ⟨line, cr, pt, left, many, out, ended, under, why⟩ := s
  simp only at hp hw hc
  subst hp hw hc
  rw [write_go cap 13 _ i (by unfold stopped; simp)]
  rw [show step cap 13 ⟨line, false, 0, left, many, out, ended, under, 0⟩ = ⟨line, true, 0, left, many, out, ended, under, 0⟩ from rfl]
  rw [write_go cap 10 _ _ (by unfold stopped; simp)]
  rfl
theorem rest_nil (l : List UInt8) (h : ∀ x ∈ l, okC x = true) : restS l = [] := by
  unfold restS
  rw [Lib.trimLeftS_drop l hx l.length (Nat.le_refl _) (fun j b _ hb => ?_) (fun b hb => ?_), List.drop_length]
  · have := h b (List.mem_of_getElem? hb)
    unfold okC at this
    simp only [Bool.and_eq_true] at this
    exact this.1.1
  · rw [List.getElem?_eq_none (Nat.le_refl _)] at hb; cases hb
theorem sz_digs (n : Nat) (hn : n ≤ 16777216) (s : St) : sz (Dp.digs 16 n) s = { s with left := n, pt := if n = 0 then 4 else 1 } := by
  have hr := rest_nil _ (digs_ok n)
  have hd : digS (Dp.digs 16 n) = Dp.digs 16 n := by unfold digS; rw [hr]; simp
  obtain ⟨h1, h2⟩ := Dp.num_digs (b := 16) (by omega) (by omega) n (by omega)
  unfold sz
  rw [if_pos ⟨by rw [hd]; exact Dp.digs_ne _ _, .inl (by rw [hr]; rfl)⟩, if_pos ⟨by rw [hd]; exact h2, by rw [hd]; show Dp.numN ((16 : Nat) : Int) _ ≤ _; rw [h1]; omega⟩, hd]
  rw [show Dp.numN 16 (Dp.digs 16 n) = (n : Int) from h1]
  simp
theorem write_takes (cap : Nat) (R : List UInt8) : ∀ (p : List UInt8) (s : St) (i : Nat), s.pt = 1 → s.why = 0 → s.left = p.length → p ≠ [] → write cap (p ++ R) s i = write cap R { s with out := s.out ++ p, under := s.under ++ p, many := s.many + p.length, left := 0, pt := 2 } (i + p.length)
  | [], s, i, _, _, _, h => absurd rfl h
  | c :: p, s, i, hp, hw, hl, _ => by
    have hs : ¬ stopped s := by unfold stopped; omega
    rw [List.cons_append, write_go cap c _ i hs]
    have e : step cap c s = takes c s := by unfold step; rw [hp]; rfl
    rw [e]
    by_cases hn : p = []
    · subst hn
      have hl1 : s.left = 1 := by simpa using hl
      unfold takes
      rw [hl1]
      simp
    · have hpl : 0 < p.length := List.length_pos_iff.2 hn
      have hl1 : ¬ s.left = 1 := by simp at hl; omega
      have h := write_takes cap R p (takes c s) (i + 1) (by unfold takes; simp [hl1, hp]) (by unfold takes; exact hw) (by unfold takes; simp at hl ⊢; omega) hn
      rw [h]
      unfold takes
      simp only [List.append_assoc, List.cons_append, List.nil_append, List.length_cons]
      congr 1
      · congr 1; omega
      · omega
theorem write_over (cap : Nat) (R : List UInt8) (s : St) (i : Nat) (hp : s.pt = 2) (hw : s.why = 0) : write cap (13 :: 10 :: R) s i = write cap R { s with pt := 0, ended := s.ended ++ [s.under], under := [] } (i + 2) := by
  obtain ⟨line, cr, pt, left, many, out, ended, under, why⟩ := s
  simp only at hp hw
  subst hp hw
  rw [write_go cap 13 _ i (by unfold stopped; simp)]
  rw [show step cap 13 ⟨line, cr, 2, left, many, out, ended, under, 0⟩ = ⟨line, cr, 3, left, many, out, ended, under, 0⟩ from rfl]
  rw [write_go cap 10 _ _ (by unfold stopped; simp)]
  rfl
/-- between chunks -/
def mid (many : Nat) (out : List UInt8) (ended : List (List UInt8)) : St := ⟨[], false, 0, 0, many, out, ended, [], 0⟩
theorem write_enc (p R : List UInt8) (hp : p ≠ []) (hl : p.length ≤ 300) (m : Nat) (o : List UInt8) (E : List (List UInt8)) (i : Nat) : write 7 (enc p ++ R) (mid m o E) i = write 7 R (mid (m + p.length) (o ++ p) (E ++ [p])) (i + (enc p).length) := by
  have hdl := Dp.digs_length_le (b := 16) (by omega) 3 p.length (by omega) (by omega)
  have hpl : 0 < p.length := List.length_pos_iff.2 hp
  unfold enc
  rw [if_neg hp]
  rw [show Dp.digs 16 p.length ++ [13, 10] ++ p ++ [13, 10] ++ R = Dp.digs 16 p.length ++ (13 :: 10 :: (p ++ (13 :: 10 :: R))) by simp]
  rw [write_line 7 _ _ (mid m o E) i (digs_ok _) rfl rfl rfl (by show 0 + _ ≤ 7; omega), write_end 7 _ _ _ rfl rfl rfl]
  show write 7 _ (sz ([] ++ Dp.digs 16 p.length) _) _ = _
  rw [List.nil_append, sz_digs _ (by omega), if_neg (by omega), write_takes 7 _ p _ _ rfl rfl rfl hp, write_over 7 _ _ _ rfl rfl]
  unfold mid told
  simp only [List.nil_append, List.length_append, List.length_cons, List.length_nil]
  congr 1
  omega
theorem write_encs (R : List UInt8) : ∀ (L : List (List UInt8)) (m : Nat) (o : List UInt8) (E : List (List UInt8)) (i : Nat), (∀ p ∈ L, p ≠ [] ∧ p.length ≤ 300) → write 7 (encs L ++ R) (mid m o E) i = write 7 R (mid (m + (cat L).length) (o ++ cat L) (E ++ L)) (i + (encs L).length)
  | [], m, o, E, i, _ => by simp [encs, cat]
  | p :: L, m, o, E, i, h => by
    have e1 : encs (p :: L) = enc p ++ encs L := by simp [encs, cat]
    have e2 : cat (p :: L) = p ++ cat L := by simp [cat]
    rw [e1, e2, List.append_assoc, write_enc p _ (h p List.mem_cons_self).1 (h p List.mem_cons_self).2, write_encs R L _ _ _ _ (fun q hq => h q (List.mem_cons_of_mem _ hq))]
    simp only [List.append_assoc, List.cons_append, List.nil_append, List.length_append]
    congr 1
    · congr 1; omega
    · omega
theorem write_last (T : List UInt8) (m : Nat) (o : List UInt8) (E : List (List UInt8)) (i : Nat) : write 7 ([48, 13, 10, 13, 10] ++ T) (mid m o E) i = (⟨[], false, 5, 0, m, o, E, [], 0⟩, i + 5) := by
  rw [show ([48, 13, 10, 13, 10] : List UInt8) ++ T = Dp.digs 16 0 ++ (13 :: 10 :: (13 :: 10 :: T)) by rw [Dp.digs_lt (by omega)]; rfl]
  rw [write_line 7 _ _ (mid m o E) i (digs_ok _) rfl rfl rfl (by rw [Dp.digs_lt (by omega)]; show 0 + 1 ≤ 7; omega), write_end 7 _ _ _ rfl rfl rfl]
  show write 7 _ (sz ([] ++ Dp.digs 16 0) _) _ = _
  rw [List.nil_append, sz_digs _ (by omega), if_pos rfl]
  have hl : (Dp.digs 16 0).length = 1 := by rw [Dp.digs_lt (by omega)]; rfl
  rw [write_go 7 13 _ _ (by unfold stopped told mid; simp), write_go 7 10 _ _ (by unfold stopped told mid step lasts put; simp)]
  rw [write_stop]
  · rw [hl]; rfl
  · left; rfl
theorem back (L : List (List UInt8)) (T : List UInt8) (h : ∀ p ∈ L, p ≠ [] ∧ p.length ≤ 300) : write 7 (encs L ++ [48, 13, 10, 13, 10] ++ T) start 0 = (⟨[], false, 5, 0, (cat L).length, cat L, L, [], 0⟩, (encs L).length + 5) := by
  rw [List.append_assoc]
  have h1 := write_encs ([48, 13, 10, 13, 10] ++ T) L 0 [] [] 0 h
  rw [show mid 0 [] [] = start from rfl] at h1
  rw [h1, write_last]
  simp
end Dn
end Go.Proofs.YtaekcmoogobbjaaDoor

/- Chunks and pieces, plain lists. -/
namespace Go.Proofs.YtaekcmoogobbjaaDoor
set_option linter.unusedVariables false
set_option linter.unusedSimpArgs false
namespace Cp
theorem no13 (n : Nat) : ∀ x ∈ Dp.digs 16 n, x ≠ 13 := by
  have hd : ∀ i : Fin 16, Dp.dg i.val ≠ 13 := by decide +kernel
  induction n using Nat.strongRecOn with
  | _ n ih =>
    intro x h
    by_cases hn : n < 16
    · rw [Dp.digs_lt hn] at h
      obtain rfl := List.mem_singleton.1 h
      exact hd ⟨n, hn⟩
    · rw [Dp.digs_ge (by omega) hn] at h
      rcases List.mem_append.1 h with h | h
      · exact ih (n / 16) (Nat.div_lt_self (by omega) (by omega)) x h
      · obtain rfl := List.mem_singleton.1 h
        exact hd ⟨n % 16, Nat.mod_lt n (by omega)⟩
theorem split13 : ∀ {p q r s : List UInt8}, (∀ x ∈ p, x ≠ 13) → (∀ x ∈ q, x ≠ 13) → p ++ 13 :: r = q ++ 13 :: s → p = q ∧ r = s
  | [], [], r, s, _, _, h => ⟨rfl, by simpa using h⟩
  | [], y :: q, r, s, _, hq, h => by
    simp only [List.nil_append, List.cons_append, List.cons.injEq] at h
    exact absurd h.1.symm (hq y List.mem_cons_self)
  | x :: p, [], r, s, hp, _, h => by
    simp only [List.nil_append, List.cons_append, List.cons.injEq] at h
    exact absurd h.1 (hp x List.mem_cons_self)
  | x :: p, y :: q, r, s, hp, hq, h => by
    simp only [List.cons_append, List.cons.injEq] at h
    obtain ⟨rfl, h⟩ := h
    obtain ⟨rfl, h2⟩ := split13 (fun z hz => hp z (List.mem_cons_of_mem _ hz)) (fun z hz => hq z (List.mem_cons_of_mem _ hz)) h
    exact ⟨rfl, h2⟩
theorem pre_eq {a b t : List UInt8} (ha : a.length < 1000) (hb : b.length < 1000) (h : Dp.digs 16 a.length ++ [13, 10] ++ a ++ [13, 10] ++ t = Dp.digs 16 b.length ++ [13, 10] ++ b ++ [13, 10]) : a = b := by
  have h1 : Dp.digs 16 a.length ++ 13 :: (10 :: (a ++ ([13, 10] ++ t))) = Dp.digs 16 b.length ++ 13 :: (10 :: (b ++ [13, 10])) := by simpa using h
  obtain ⟨h2, h3⟩ := split13 (no13 _) (no13 _) h1
  have h4 := (Dp.num_digs (by decide : 2 ≤ 16) (by decide) a.length (by omega)).1
  rw [h2, (Dp.num_digs (by decide : 2 ≤ 16) (by decide) b.length (by omega)).1] at h4
  have h5 : a.length = b.length := by omega
  simp only [List.cons.injEq, true_and] at h3
  exact (List.append_inj h3 h5).1
theorem take_pies (n : Nat) (l : List UInt8) : ∀ N, ((List.range N).map fun k => (l.drop (k * n)).take n).flatten = l.take (N * n)
  | 0 => by simp
  | N + 1 => by
    rw [List.range_succ, List.map_append, List.flatten_append, take_pies n l N, Nat.add_mul, Nat.one_mul, List.take_add]
    simp
end Cp
end Go.Proofs.YtaekcmoogobbjaaDoor

/- A beginning of a text of bytes. -/
namespace Go.Proofs.YtaekcmoogobbjaaDoor
set_option linter.unusedVariables false
set_option linter.unusedSimpArgs false
open Go.RowKit Go.Shelf
theorem enc_inj {A B : List UInt8} (hA : A.length < 1000) (hB : B.length < 1000) (ha : A ≠ []) (hb : B ≠ []) (t : List UInt8) (h : enc A ++ t = enc B) : A = B := by
  unfold enc at h
  rw [if_neg ha, if_neg hb] at h
  exact Cp.pre_eq hA hB h
theorem enc_pre {A B : List UInt8} (hA : A.length < 1000) (hB : B.length < 1000) (ha : A ≠ []) (hb : B ≠ []) (hne : A ≠ B) : ((({ data := (enc B).toArray } : ByteArray).extract 0 (enc A).length).toList == enc A) = false := by
  cases h : ((({ data := (enc B).toArray } : ByteArray).extract 0 (enc A).length).toList == enc A) with
  | false => rfl
  | true =>
    exfalso
    obtain ⟨n, hn⟩ : ∃ n, (enc A).length = n := ⟨_, rfl⟩
    rw [hn] at h
    have h1 := eq_of_beq h
    have h2 : (({ data := (enc B).toArray } : ByteArray).extract 0 n).toList = (enc B).take n := by
      rw [Lib.toList_data, Lib.extract_eq]
      simp
    rw [h2] at h1
    refine hne (enc_inj hA hB ha hb ((enc B).drop n) ?_)
    rw [← h1]
    exact List.take_append_drop _ _
theorem pie_len {A : List UInt8} {M N k : Nat} (hN : PieN A.length M N) (hM : 1 ≤ M) (hk : k < N) : ((pies M N A).getD k []).length = min M (A.length - k * M) ∧ 0 < min M (A.length - k * M) ∧ (k + 1 < N → min M (A.length - k * M) = M) := by
  have h1 := (hN k).2 hk
  rw [pies_get _ _ _ _ hk, List.length_take, List.length_drop]
  refine ⟨rfl, by omega, fun h => ?_⟩
  have h2 := (hN (k + 1)).2 h
  rw [Nat.add_mul] at h2
  omega
theorem pies_cat {A : List UInt8} {M N : Nat} (hN : PieN A.length M N) : cat (pies M N A) = A := by
  unfold cat pies
  rw [Cp.take_pies]
  have : ¬ N * M < A.length := fun h => absurd ((hN N).1 h) (by omega)
  exact List.take_of_length_le (by omega)
theorem bytes_app (T P : List UInt8) : (({ data := T.toArray } : ByteArray) ++ ({ data := P.toArray } : ByteArray)) = { data := (T ++ P).toArray } := by
  apply ByteArray.ext
  simp
theorem pien_bound {len M N : Nat} (h : PieN len M N) (hM : 1 ≤ M) (hl : len ≤ 300) : N ≤ 400 := by
  by_cases hN : N ≤ 400
  · exact hN
  · have := (h 400).2 (by omega)
    omega
end Go.Proofs.YtaekcmoogobbjaaDoor
