/- Texts of this claim, one behind the other: LHE. -/
import Derived.Test.YtheaichiglfmjaaGreatDoorCHEm2
import Derived.Test.YtheaichiglfmjaaGreatDoorQtm4
/- ResponseEach returns true for any heads and any number: the walk. The library's cell of a bound reads as it is laid. -/
namespace Go.Proofs.YtheaichiglfmjaaGreatDoor
set_option linter.unusedVariables false
set_option linter.unusedSimpArgs false
open Go.RowKit Go.Shelf
attribute [local go_sem] Oper.semAt_some
set_option maxHeartbeats 8000000
set_option maxRecDepth 100000
structure KX (w : World) : Prop where
  kr : KR w
theorem KX.of {w : World} (h : ML w) : KX w := ⟨⟨h, by obtain ⟨m, hm⟩ := h; exact lt_of_cell hm⟩⟩
theorem KX.below {w w' : World} (h : KX w) (hb : Below w.heap.size w w') : KX w' := ⟨h.kr.below hb⟩
theorem at_maxR (ts : Array TypeId) (t : TypeId) (a b : Int) (w : World) : (Builtin.max_ ts t #[.int .i64 a, .int .i64 b]).run Tryz.prog w = .ok (.int .i64 (if b > a then b else a)) w := by
  simp [Builtin.max_, Builtin.max2, go_sem]
theorem at_minR (ts : Array TypeId) (t : TypeId) (a b : Int) (w : World) : (Builtin.min_ ts t #[.int .i64 a, .int .i64 b]).run Tryz.prog w = .ok (.int .i64 (if b < a then b else a)) w := by
  simp [Builtin.min_, Builtin.min2, go_sem]
theorem seq_nilT (f : Fn) (a c : Array Value) (W : World) : (binOp BinOp.eql 36 (.func f a c) .nilFunc).run Tryz.prog W = .ok (.bool false) W := by kernel_rfl
/-- what stays through the law -/
structure TQ (w W : World) (m : Int) (B : Nat) : Prop where
  hb : Below w.heap.size w W
  hB : w.heap.size = B
  m : Boxed W B 3 (.int .i64 m)
  r : Boxed W (B + 1) 4 (.bool false)
theorem TQ.next {w W W' : World} {m : Int} {B : Nat} (h : TQ w W m B) (k : Below W.heap.size W W') : TQ w W' m B :=
  ⟨h.hb.trans (k.mono h.hb.size), h.hB, (k.block _ h.m.lt).trans h.m, (k.block _ h.r.lt).trans h.r⟩
def puW (B n : Nat) (x : Int) (av V1 : Value) (xs : List Value) : Nat → World → Value → Prop
  | 0, _, v => v = V1
  | 1, _, v => v = av
  | 2, _, v => v = .int .i64 x
  | 3, w, v => ∃ g, v = .slice (some ⟨g, 0, none⟩) 1 1 ∧ w.heap[g]? = some (.cells #[.int .i64 x] 3 (0, 0)) ∧ some g ≠ V1.ownBlock
  | 4, w, v => w.ownsRow B 3 1 v (n + 1) (xs ++ [.int .i64 x])
  | _, _, _ => False
theorem puW_below {B n : Nat} {x : Int} {av V1 : Value} {xs : List Value} {w w' : World} (hb : Below w.heap.size w w') {j : Nat} {v : Value} (h : puW B n x av V1 xs j w v) : puW B n x av V1 xs j w' v := by
  match j, h with
  | 0, h | 1, h | 2, h => exact h
  | 3, ⟨g, h1, h2, h3⟩ => exact ⟨g, h1, (hb.block g (Array.getElem?_eq_some_iff.1 h2).1).trans h2, h3⟩
  | 4, h => exact own_bel h hb
  | n + 5, h => exact h.elim
theorem walkHE (v : Value) (hs : List HQ) (m : Int) (w : World) (hv : HdIn w v hs) (hq : ∀ q ∈ hs, q.1.length ≤ reachBytes ∧ (∀ f ∈ q.2.1, f.1.length ≤ reachBytes ∧ f.2.length ≤ reachBytes) ∧ q.2.1.length ≤ maxLen) (hl : hs.length ≤ maxLen) (hm : (Lit.int .i64 m).wf = true) (hml : ML w) :
    Calls Tryz.prog 3 #[v, .int .i64 m] w fun e w' => e = .returned (.bool true) ∧ Below w.heap.size w w' := by
  unfold reachBytes maxLen at hq
  unfold maxLen at hl
  have WK := Lib.hid (fun W (h : KX W) => rs_works W h.kr)
  have hk := KX.of hml
  have HK := Lib.hid hk
  clear hml
  have hsq := seq_nilT
  obtain ⟨p, c, rfl⟩ := hv.1.slice
  obtain ⟨N, hN⟩ : ∃ z, hs.length = z := ⟨_, rfl⟩
  rw [hN] at hv hl ⊢
  have HV := Lib.hid hv
  have HQQ := Lib.hid hq
  have HN := Lib.hid hN
  obtain ⟨B, hB⟩ : ∃ B, w.heap.size = B := ⟨_, rfl⟩
  obtain ⟨W1, hW1⟩ : ∃ W1, ((w.alloc (.cells #[.int .i64 m] 3)).alloc (.cells #[.bool false] 4)) = W1 := ⟨_, rfl⟩
  have e1 : TQ w W1 m B := by
    subst hW1
    have b1 := Boxed.new w 3 (.int .i64 m)
    have b2 := Boxed.new (w.alloc (.cells #[.int .i64 m] 3)) 4 (.bool false)
    simp only [World.size_alloc, hB] at b1 b2
    exact ⟨((Below.refl _ w).alloc (Nat.le_refl _) _).alloc (by simp) _, hB, b1.alloc _, b2⟩
  have HQ1 := Lib.hid e1
  have HBB := Lib.hid hB
  have HW1 := Lib.hid hW1
  clear hk hv hq hN e1 hB hW1 hm
  refine callsIn_wide.1 (callsIn_of_wp_marks (F := Fence.wide) (n := 9) Tryz.func3 rfl trivial ?_ rfl)
  simp only [Tryz.ntmps3, List.size_toArray, List.length_cons, List.length_nil, Nat.reduceAdd, Nat.reduceSub, Array.replicate_succ, Array.replicate_zero, List.push_toArray, List.append_toArray, List.nil_append, List.cons_append]
  refine wpIn_wide.2 ?_
  by_cases h8 : 8 < N
  · have q1 : ((8 : Int) < (N : Int)) := by omega
    go_wp2_with fail
    rw [HW1.out, HBB.out]
    refine (WK.out _ (HK.out.below HQ1.out.hb)).mono ?_
    rintro e w9 ⟨rfl, hb⟩
    have HQ9 := Lib.hid (HQ1.out.next hb)
    clear hb
    have cR := HQ9.out.r.cell
    have fR := HQ9.out.r.frozen
    go_wp2_with fail
    have c0 := (HQ9.out.r.set (.bool true)).cell
    refine ⟨.bool true, ?_, rfl, HQ9.out.hb.setCell (p := ⟨B + 1, 0, none⟩) (by have := HBB.out; show w.heap.size ≤ B + 1; omega) _⟩
    simp [results, Tryz.results3, go_sem, c0]
  have q1 : ¬ ((8 : Int) < (N : Int)) := by omega
  have hN8 : N ≤ 8 := by omega
  obtain ⟨Q, hQ⟩ : ∃ Q, W1.heap.size = Q := ⟨_, rfl⟩
  obtain ⟨W2, hW2⟩ : ∃ Z, W1.alloc (.cells #[.slice none 0 0] 24) = Z := ⟨_, rfl⟩
  have HST := Lib.hid (show RwI 3 24 W1 Q (Q + 1) [] W2 from ⟨.slice none 0 0, by rw [← hW2, ← hQ]; exact Boxed.new _ _ _, World.ownsRow_nil _ _ _ _, by rw [← hW2]; simp [hQ], by omega, by omega, by rw [← hW2]; exact (Below.refl _ _).alloc (Nat.le_refl _) _⟩)
  obtain ⟨i0, hi, hz0, hz1, hz2'⟩ := info_parts (show (Tryz.prog.info? 3).map (fun i => (i.zero, i.size, i.bytes)) = some (some (.int .i64 0), 1, 8) by kernel_rfl)
  have hz2 := hz2'
  have WH := Lib.hid (fun st ev ck sz ln W => rf_What st ev ck sz ln W)
  have HW2 := Lib.hid hW2
  have HQQ1 := Lib.hid hQ
  clear hW2 hQ hz2' h8
  go_upto_region 3 with (fail)
  rw [HW1.out, HBB.out]
  go_wp2_with fail
  rw [HW2.out, HQQ1.out]
  go_wp2_with fail
  go_loopw [6] (fun i wr => ∃ k : Nat, k ≤ N ∧ i = .int .i64 k ∧ RwI 3 24 W1 Q (Q + 1) ((hs.take k).map tdC) wr ∧ (∀ j, j < k → Rs.few (hs.getD j hqd).1 (hs.getD j hqd).2.1 = true)) (fun i _ => N - (intOf i).toNat)
  case atStart => exact ⟨0, Nat.zero_le _, rfl, HST.out, fun j hj => absurd hj (by omega)⟩
  case round =>
    obtain ⟨k, hk, rfl, hst, hfa⟩ := hrel
    have HBW := Lib.hid (show Below W1.heap.size W1 wr by obtain ⟨_, _, _, _, _, _, h⟩ := hst; exact h)
    have HQR := Lib.hid (HQ1.out.next HBW.out)
    by_cases hlt : k < N
    · have hI : (k : Int) < (N : Int) := by omega
      have HVR := Lib.hid (HV.out.below HQR.out.hb)
      obtain ⟨g, o, c', hsl, hcl⟩ := HVR.out.1.at (j := k) (by rw [HN.out]; exact hlt)
      obtain ⟨rfl, rfl⟩ : p = some ⟨g, o, none⟩ ∧ c = c' := by
        simp only [Value.slice.injEq] at hsl
        exact ⟨hsl.1, hsl.2.2⟩
      obtain ⟨⟨F, fs, V⟩, hqe⟩ : ∃ x, hs.getD k hqd = x := ⟨_, rfl⟩
      have hmem : hs.getD k hqd ∈ hs := by rw [List.getD_eq_getElem?_getD, List.getElem?_eq_getElem (by rw [HN.out]; exact hlt)]; exact List.getElem_mem _
      have hHS := HVR.out.2 _ hmem
      have hqs := HQQ.out _ hmem
      have htk : hs.take (k + 1) = hs.take k ++ [hs.getD k hqd] := by
        rw [List.take_add_one, List.getD_eq_getElem?_getD, List.getElem?_eq_getElem (by rw [HN.out]; exact hlt)]; rfl
      rw [hqe] at hHS hqs hcl htk
      have x0 := hcl 0 _ rfl
      have x1 := hcl 1 _ rfl
      rw [Nat.add_zero] at x0
      simp only at hHS hqs x1
      obtain ⟨p2, c2, rfl⟩ := hHS.slice
      obtain ⟨fb, hfb⟩ : ∃ z : ByteArray, (⟨F.toArray⟩ : ByteArray) = z := ⟨_, rfl⟩
      have KF := rs_few F (.slice p2 fs.length c2) fs wr hHS (by omega) (by omega) (fun f hf => by have := hqs.2.1 f hf; omega)
      obtain ⟨q, hq⟩ : ∃ z, Rs.few F fs = z := ⟨_, rfl⟩
      rw [hq] at KF
      unfold Hp.sx at KF x0
      rw [hfb] at KF x0
      have HFE := Lib.hid (fun (e : q = true) W (h : Below wr.heap.size wr W) => rf_OfAll F (.slice p2 fs.length c2) fs W (hHS.below h) (by rw [hq, e]))
      obtain ⟨mm, hmm⟩ : ∃ z, fs.length = z := ⟨_, rfl⟩
      rw [hmm] at KF x1
      have KFH := Lib.hid KF
      have HQE := Lib.hid hqe
      have HHS := Lib.hid hHS
      have HTK := Lib.hid htk
      have HFB := Lib.hid hfb
      have HMM := Lib.hid hmm
      have HQ := Lib.hid hq
      have HX0 := Lib.hid x0
      have HX1 := Lib.hid x1
      have HSS := Lib.hid hst
      have HFA := Lib.hid hfa
      clear hHS hqs hmem hsl hcl htk hfb KF hq hqe hmm hst hfa
      go_wp2_with fail
      refine KFH.out.mono ?_
      rintro e w3 ⟨rfl, hb⟩
      have HQ3 := Lib.hid (HQR.out.next hb)
      have HS3 := Lib.hid (HSS.out.next hb)
      have HBA := Lib.hid hb
      clear hb x0 x1
      cases q with
      | false =>
        go_wp2_with fail
        refine (WK.out _ (HK.out.below HQ3.out.hb)).mono ?_
        rintro e w9 ⟨rfl, hb⟩
        have HQ9 := Lib.hid (HQ3.out.next hb)
        clear hb
        have cR := HQ9.out.r.cell
        have fR := HQ9.out.r.frozen
        go_wp2_with fail
        have c0 := (HQ9.out.r.set (.bool true)).cell
        refine ⟨.bool true, ?_, rfl, HQ9.out.hb.setCell (p := ⟨B + 1, 0, none⟩) (by have := HBB.out; show w.heap.size ≤ B + 1; omega) _⟩
        simp [results, Tryz.results3, go_sem, c0]
      | true =>
        have KO := (HFE.out rfl)
        obtain ⟨n2, hn2⟩ := ofAll_pair F fs
        obtain ⟨⟨st, ev, ck, sz, ln⟩, hr⟩ : ∃ r, (if Hr.okB F fs = true then (Rs.of F fs).getD rep0 else rep0) = r := ⟨_, rfl⟩
        obtain ⟨x, hx⟩ : ∃ z, Rs.what (st, ev, ck, sz, ln) = z := ⟨_, rfl⟩
        have htd : tdC (F, fs, .slice p2 fs.length c2) = .int .i64 x := by unfold tdC Rs.todo; simp only; rw [hr, hx]
        rw [hn2, hr, HMM.out] at KO
        unfold Hp.sx at KO
        rw [HFB.out] at KO
        unfold repV at KO
        simp only at KO
        rw [HMM.out] at htd
        have WH2 := Lib.hid (fun W => WH.out st ev ck sz ln W)
        rw [hx] at WH2
        unfold repV at WH2
        simp only at WH2
        obtain ⟨xs, hxs⟩ : ∃ z, (hs.take k).map tdC = z := ⟨_, rfl⟩
        have hxl : xs.length = k := by rw [← hxs, List.length_map, List.length_take]; have := HN.out; omega
        have HTK2 := Lib.hid (show (hs.take (k + 1)).map tdC = xs ++ [.int .i64 x] by rw [HTK.out, HMM.out, List.map_append, hxs, List.map_singleton, htd])
        have hst := HS3.out
        rw [hxs] at hst
        have HLX := Lib.hid hxl
        have HS4 := Lib.hid hst
        have KO3 := Lib.hid (KO w3 HBA.out)
        have x0 := (HBA.out.cell (p := ⟨g, o + k * 2, none⟩) (lt_of_cell HX0.out)).trans HX0.out
        have x1 := (HBA.out.cell (p := ⟨g, o + k * 2 + 1, none⟩) (lt_of_cell HX1.out)).trans HX1.out
        have HFA2 := Lib.hid (show ∀ j, j < k + 1 → Rs.few (hs.getD j hqd).1 (hs.getD j hqd).2.1 = true from fun j hj => by
          by_cases h : j < k
          · exact HFA.out j h
          · obtain rfl : j = k := by omega
            rw [HQE.out]; exact HQ.out)
        clear KO hn2 hr hx htd hxs hxl hst
        go_wp2_with fail
        refine KO3.out.mono ?_
        rintro e w4 ⟨rfl, hb⟩
        have HS5 := Lib.hid (HS4.out.next hb)
        clear hb x0 x1
        obtain ⟨A, hA⟩ : ∃ z, w4.heap.size = z := ⟨_, rfl⟩
        obtain ⟨w5, hw5⟩ : ∃ z, w4.alloc (.cells #[.int .i64 st, .bool ev, .bool ck, .bool sz, .int .u64 ln] 31) = z := ⟨_, rfl⟩
        have hb5 : Below w4.heap.size w4 w5 := by rw [← hw5]; exact (Below.refl _ _).alloc (Nat.le_refl _) _
        have HR5 := Lib.hid (show w5.heap[A]? = some (repC (st, ev, ck, sz, ln)) by rw [← hw5, ← hA]; exact World.alloc_heap_new _ _)
        have hst := HS5.out.next hb5
        have HW5 := Lib.hid hw5
        have HA := Lib.hid hA
        obtain ⟨V1, hA1, hO1, hB1, h01, hA01, hb1⟩ := hst
        rw [HLX.out] at hO1
        have HA1 := Lib.hid hA1
        have HO1 := Lib.hid hO1
        have HBR0 := Lib.hid hB1
        have HQ1X := Lib.hid HQ1.out
        clear HQ1
        have HQ1 := Lib.hid (And.intro h01 (And.intro hA01 hb1))
        clear hA1 hO1 hB1 h01 hA01 hb1 hb5 hw5 hA
        go_upto_region 10 with (fail)
        rw [HW5.out, HA.out]
        refine region_last2 5 (fun i => 39 + min i 4) (puW (Q + 1) (k) (x) (.agg #[.int .i64 st, .bool ev, .bool ck, .bool sz, .int .u64 ln]) V1 xs) (PuI 3 24 w5 (Q) (Q + 1) (k) V1 xs) (by kernel_rfl) (by kernel_rfl) rfl (by kernel_rfl) (fun i => by show 39 + min i 4 < _; simp; omega) (fun i j hi hj h => by have h : 39 + min i 4 = 39 + min j 4 := h; omega) ?start ?dst ?step ?last
        case dst =>
          intro i o hi ho
          match i, hi, ho with
          | 0, _, ho => cases ho; rfl
          | 1, _, ho => cases ho; rfl
          | 2, _, ho => cases ho; rfl
          | 3, _, ho => cases ho; rfl
          | 4, _, ho => cases ho; rfl
          | n + 5, hi, _ => exact absurd hi (by omega)
        case step =>
          intro f a' W i o hib ho hfi hpre hT hrest
          match i, hib, ho with
          | 0, _, ho =>
            cases ho
            have q5 : a'.tmps.getD 5 undef = .pointer (some ⟨Q, 0, none⟩) := (hrest 5 (by intro i hi; show 39 + min i 4 ≠ _; omega))
            have hBW : Q + 1 ≤ W.heap.size := Nat.le_trans HBR0.out hT.bel.size
            have c1 : W.cell? ⟨Q, 0, none⟩ = some V1 := by simp [World.cell?, hT.an]
            have e5 := rg_ev q5
            exact rg_same2 (V1) (by unfold Oper.wp execOp; go_simp; all_goals ((try simp only [e5]); (try go_simp); (try rw [if_pos (by omega)]); (try rw [if_neg (by omega)]); first | done | rfl | exact ⟨rfl, rfl⟩ | trivial)) rfl (hT.step hBW (Below.refl _ _) (by decide))
          | 1, _, ho =>
            cases ho
            have q7 : a'.tmps.getD 7 undef = .pointer (some ⟨A, 0, none⟩) := (hrest 7 (by intro i hi; show 39 + min i 4 ≠ _; omega))
            have hBW : Q + 1 ≤ W.heap.size := Nat.le_trans HBR0.out hT.bel.size
            obtain ⟨c2, c3, c4, c5, c6⟩ := rep_cell (show W.heap[A]? = some (repC (st, ev, ck, sz, ln)) from hT.oth A _ _ (by decide) HR5.out)
            dsimp only at c2 c3 c4 c5 c6
            have e7 := rg_ev q7
            exact rg_same2 (.agg #[.int .i64 st, .bool ev, .bool ck, .bool sz, .int .u64 ln]) (by unfold Oper.wp execOp; go_simp; all_goals ((try simp only [e7]); (try go_simp); (try rw [if_pos (by omega)]); (try rw [if_neg (by omega)]); first | done | rfl | exact ⟨rfl, rfl⟩ | trivial)) rfl (hT.step hBW (Below.refl _ _) (by decide))
          | 2, _, ho =>
            cases ho
            have f40 := (hpre { on := 1, ground := .data } (by simp) rfl).1
            have q40 : a'.tmps.getD 40 undef = .agg #[.int .i64 st, .bool ev, .bool ck, .bool sz, .int .u64 ln] := (hpre { on := 1, ground := .data } (by simp) rfl).2
            have hBW : Q + 1 ≤ W.heap.size := Nat.le_trans HBR0.out hT.bel.size
            exact rg_call 40 9 _ _ _ rfl q40 (enters_of Tryz.func9 (by kernel_rfl) rfl) (WH2.out W) (fun e w' h => by
              obtain ⟨rfl, hb⟩ := h
              exact ⟨_, rfl, _, rfl, rfl, hT.step hBW hb (by decide), fun j u _ hF => puW_below hb hF⟩)
          | 3, _, ho =>
            cases ho
            have f41 := (hpre { on := 2, ground := .data } (by simp) rfl).1
            have q41 : a'.tmps.getD 41 undef = .int .i64 x := (hpre { on := 2, ground := .data } (by simp) rfl).2
            have hBW : Q + 1 ≤ W.heap.size := Nat.le_trans HBR0.out hT.bel.size
            have e41 := rg_ev q41
            have hO := hT.own (hT.n3 hfi)
            unfold Oper.wp execOp
            go_simp
            (try simp only [e41])
            (try go_simp)
            refine ⟨_, rfl, ⟨W.heap.size, rfl, World.alloc_heap_new _ _, fun h => Nat.lt_irrefl _ (hO.lt _ h.symm).2⟩, ?_, fun j u _ h => puW_below ((Below.refl _ _).alloc (Nat.le_refl _) _) h⟩
            first | exact hT.step (i := 3) hBW ((Below.refl _ _).alloc (Nat.le_refl _) _) (by decide) | (rw [show (fun j => decide (j = 3) || f j) = (fun j => if j = 3 then true else f j) by funext j; by_cases h : j = 3 <;> simp [h]]; exact hT.step (i := 3) hBW ((Below.refl _ _).alloc (Nat.le_refl _) _) (by decide))
          | 4, _, ho =>
            cases ho
            have f39 := (hpre { on := 0, ground := .data } (by simp) rfl).1
            have q39 : a'.tmps.getD 39 undef = V1 := (hpre { on := 0, ground := .data } (by simp) rfl).2
            have f42 := (hpre { on := 3, ground := .data } (by simp) rfl).1
            have h42 := (hpre { on := 3, ground := .data } (by simp) rfl).2
            have hBW : Q + 1 ≤ W.heap.size := Nat.le_trans HBR0.out hT.bel.size
            obtain ⟨g, hg1, hg2, hg3⟩ := h42
            have qa : a'.eval (.tmp 39) = V1 := q39
            have qb : a'.eval (.tmp 42) = .slice (some ⟨g, 0, none⟩) 1 1 := hg1
            have hO := hT.own hfi
            refine wp_append_own _ _ _ 24 rfl (Q + 1) 3 i0 (.int .i64 0) 1 8 Tryz.underlying24 hi hz0 hz1 hz2 rfl (by decide) V1 (k) xs qa hO ⟨g, 0, none⟩ 1 1 [.int .i64 (x)] qb rfl ?_ ?_ ?_ ?_ ?_ ?_
            · intro j u hj
              match j, hj with
              | 0, hj => simp at hj; subst hj; simp [Addr.add, World.cell?, hg2]
            · intro u hu; simp at hu; rcases hu with rfl; rfl
            · unfold maxLen; omega
            · omega
            · exact hBW
            · intro v' w' hown' hgrow _
              have keep : ∀ (k : Nat) (cs : Array Value) (t : TypeId) (fr : Nat × Nat), t ≠ 3 → W.heap[k]? = some (.cells cs t fr) → w'.heap[k]? = some (.cells cs t fr) := fun k cs t fr ht hk => (hgrow.block k (Array.getElem?_eq_some_iff.1 hk).1 (own_cellsQ hO ht hk)).trans hk
              refine ⟨v', rfl, hown', ⟨Below.grown hT.bel hgrow hBW (fun k hk => (hO.lt k hk).1), keep _ _ _ _ (by decide) hT.an, fun k cs t ht hk => keep _ _ _ _ ht (hT.oth k cs t ht hk), fun h => by simp at h, fun h => by simp [f39] at h, fun h => by simp [f42] at h⟩, fun j u hj hF => ?_⟩
              match j, hF with
              | 0, h | 1, h | 2, h => exact h
              | 3, ⟨g', h1, h2, h3⟩ => exact ⟨g', h1, (hgrow.block g' (Array.getElem?_eq_some_iff.1 h2).1 h3).trans h2, h3⟩
              | 4, h => rw [hfi] at hj; cases hj
              | n + 5, h => exact h.elim
          | n + 5, hib, _ => exact absurd hib (by omega)
        case last =>
          intro f vs W oL ho hall hT hvs
          have hopL : oL.op = Op.store 24 (.tmp 5) (.tmp 43) := by cases ho; rfl
          have hdsL : oL.dst = none := by cases ho; rfl
          clear ho hall
          have v0 : vs 0 = V1 := hvs 0 (by decide)
          have v1 : vs 1 = .agg #[.int .i64 st, .bool ev, .bool ck, .bool sz, .int .u64 ln] := hvs 1 (by decide)
          have v2 : vs 2 = .int .i64 x := hvs 2 (by decide)
          obtain ⟨y3, v3, w3⟩ : ∃ z, vs 3 = z ∧ puW (Q + 1) (k) (x) (.agg #[.int .i64 st, .bool ev, .bool ck, .bool sz, .int .u64 ln]) V1 xs 3 W z := ⟨_, rfl, hvs 3 (by decide)⟩
          obtain ⟨y4, v4, w4⟩ : ∃ z, vs 4 = z ∧ puW (Q + 1) (k) (x) (.agg #[.int .i64 st, .bool ev, .bool ck, .bool sz, .int .u64 ln]) V1 xs 4 W z := ⟨_, rfl, hvs 4 (by decide)⟩
          simp only [fillN, List.size_toArray, List.length_cons, List.length_nil, Nat.reduceAdd, show List.range 5 = [0, 1, 2, 3, 4] from rfl, List.foldl_cons, List.foldl_nil, show 39 + min 0 4 = 39 from rfl, show 39 + min 1 4 = 40 from rfl, show 39 + min 2 4 = 41 from rfl, show 39 + min 3 4 = 42 from rfl, show 39 + min 4 4 = 43 from rfl, v0, v1, v2, v3, v4]
          clear v0 v1 v2 v3 v4 hvs
          obtain ⟨g14, c14, rfl⟩ := Go.Joins.ownsRow_form (show W.ownsRow (Q + 1) 3 1 y4 (k + 1) (xs ++ [.int .i64 (x)]) from w4) (by omega)
          have hAn := hT.an
          have hcA : W.cell? ⟨Q, 0, none⟩ = some V1 := by simp [World.cell?, hAn]
          have hzA : W.frozen? ⟨Q, 0, none⟩ = false := frozen_of_row _ _ _ _ _ hAn
          have HST := Lib.hid (show RwI 3 24 W1 (Q) (Q + 1) (xs ++ [.int .i64 (x)]) (W.setCell ⟨Q, 0, none⟩ (.slice (some ⟨g14, 0, none⟩) (k + 1) c14)) from ⟨_, Boxed.set (v := V1) _ hAn, by
            rw [List.length_append, List.length_singleton, HLX.out]
            exact own_set w4 HQ1.out.2.1, by simpa using Nat.le_trans HBR0.out hT.bel.size, HQ1.out.1, HQ1.out.2.1, (HQ1.out.2.2.trans (hT.bel.mono (Nat.le_trans HQ1.out.1 (Nat.le_of_lt HQ1.out.2.1)))).setCell (p := ⟨Q, 0, none⟩) HQ1.out.1 _⟩)
  
          clear hT hAn
          unfold Oper.wp execOp
          simp only [hopL]
          go_simp
          clear hcA hzA w3 w4 hopL hdsL
          go_wp2_with fail
          go_roundw
          case rel => exact ⟨k + 1, hlt, by go_num, by rw [HTK2.out]; exact HST.out, HFA2.out⟩
          case measure => simp [intOf]; omega
        case start =>
          exact ⟨(Below.refl _ _).drew, HA1.out, fun k cs t ht h => h, fun _ => own_bel HO1.out (Below.refl _ _).drew, fun _ => rfl, fun _ => rfl⟩
    · obtain rfl : k = N := by omega
      have hI : ¬ (k : Int) < (k : Int) := by omega
      have HS2 := Lib.hid (show RwI 3 24 W1 Q (Q + 1) (hs.map tdC) wr by rwa [List.take_of_length_le (by rw [HN.out]; exact Nat.le_refl _)] at hst)
      have HFA := Lib.hid (show ∀ q ∈ hs, Rs.few q.1 q.2.1 = true from fun q hq => by
        obtain ⟨j, hj, rfl⟩ := List.mem_iff_getElem.1 hq
        have h := hfa j (by rw [← HN.out]; exact hj)
        rwa [List.getD_eq_getElem?_getD, List.getElem?_eq_getElem hj] at h)
      have KE := Lib.hid (rs_Each (.slice p k c) hs wr (HV.out.below HQR.out.hb) (by rw [HN.out]; exact hN8) HFA.out (HK.out.below HQR.out.hb).kr)
      clear hst hfa
      go_wp2_with fail
      refine KE.out.mono ?_
      rintro e V ⟨C, BC, rfl, hrw⟩
      obtain ⟨N, rfl⟩ : ∃ z, z = k := ⟨_, rfl⟩
      obtain ⟨vt, hvb, hvo, hvB, hvX, hvC, hVb⟩ := hrw
      obtain ⟨vw, hwb, hwo, hwB, hwX, hwC, hwb1⟩ := HS2.out.next hVb
      rw [List.length_map, HN.out] at hvo hwo
      obtain ⟨pt, ct, rfl⟩ := own_slQ hvo
      obtain ⟨pw, cw, rfl⟩ := own_slQ hwo
      obtain ⟨t, ht⟩ : ∃ t : Nat → Int, ∀ k, k < N → (hs.map tdC)[k]? = some (.int .i64 (t k)) := ⟨fun k => Rs.todo (hs.getD k hqd).1 (hs.getD k hqd).2.1, fun k hk => by
        show (hs.map tdC)[k]? = some (.int .i64 (Rs.todo (hs.getD k hqd).1 (hs.getD k hqd).2.1))
        rw [List.getElem?_map, List.getD_eq_getElem?_getD, List.getElem?_eq_getElem (by rw [HN.out]; exact hk)]; rfl⟩
      have HIT := Lib.hid (InRow.own hvo t ht)
      have HIW := Lib.hid (InRow.own hwo t ht)
      have HBT := Lib.hid hvb
      have HWQ := Lib.hid hwb
      have HQV := Lib.hid (HQR.out.next hVb)
      have hCV : C < V.heap.size := hvb.lt
      have hQV : Q < V.heap.size := hwb.lt
      clear hvb hvo hvB hvX hvC hVb hwb hwo hwB hwX hwC hwb1 ht KE HFA HS2 HBW HQR
      obtain ⟨TV, hTV⟩ : ∃ TV, V.heap.size = TV := ⟨_, rfl⟩
      obtain ⟨V0, hV0⟩ : ∃ V0, V.alloc (.cells #[.int .i64 0] 3) = V0 := ⟨_, rfl⟩
      have E0 : Below V.heap.size V V0 := by rw [← hV0]; exact (Below.refl _ _).alloc (Nat.le_refl _) _
      have bT : Boxed V0 TV 3 (.int .i64 0) := by rw [← hV0, ← hTV]; exact Boxed.new _ _ _
      have HTV := Lib.hid hTV
      have HV0 := Lib.hid hV0
      have hQT : Q < TV := by rw [← hTV]; exact hQV
      have hCT : C < TV := by rw [← hTV]; exact hCV
      have hBT : B + 1 < TV := by rw [← hTV]; exact HQV.out.r.lt
      clear hTV hV0 hQV hCV
      go_wp2_with fail
      rw [HV0.out, HTV.out]
      refine (wpIn_wide (n := 9)).1 ?_
      refine wpIn_loop_rounds 3 ?_
      rw [roundsIn_succ]
      have cT := bT.cell
      obtain ⟨T1, hT1⟩ : ∃ z, V0.heap.size = z := ⟨_, rfl⟩
      obtain ⟨X1, hX1⟩ : ∃ z, V0.alloc (.cells #[.int .i64 0] 3) = z := ⟨_, rfl⟩
      have hVT : V.heap.size = TV := HTV.out
      rw [hVT] at E0
      have HE1 : Hid (Below TV V X1) := Lib.hid (by rw [← hX1]; exact E0.alloc (Nat.le_trans (Nat.le_of_eq hVT.symm) E0.size) _)
      have HbT1 : Hid (Boxed X1 TV 3 (.int .i64 0)) := Lib.hid (by rw [← hX1]; exact bT.alloc _)
      have Hbn1 : Hid (Boxed X1 T1 3 (.int .i64 0)) := Lib.hid (by rw [← hX1, ← hT1]; exact Boxed.new _ _ _)
      have HS1 := Lib.hid (show X1.heap.size = T1 + 1 by rw [← hX1, ← hT1]; simp)
      have hTT : TV < T1 := by rw [← hT1]; exact bT.lt
      have HX1 := Lib.hid hX1
      have HT1 := Lib.hid hT1
      clear hX1 hT1 E0 hVT bT
      gi_wp2_with fail
      rw [HX1.out, HT1.out]
      refine rf_breakE (id := 4) (N := N) (own := fun _ => False) (Kp := KeepB TV (T1 + 3)) (encs := fun j => #[.int .i64 j, .int .i64 (t j)]) rfl (by omega) (gf := 27) (lb := #[.pointer (some ⟨C, 0, none⟩)]) rfl trivial (enters_of Tryz.func27 (by kernel_rfl) rfl)
        (fun _ => rfl) (fun b hb => hb.elim) ?iter KeepB.trans (fun X o o' h2 h3 => KeepB.putObj _ _ (by have := HS1.out; omega))
        (fun k X => Below TV V X ∧ Boxed X TV 3 (.int .i64 0) ∧ Boxed X T1 3 (.int .i64 (k : Int)) ∧ (1 ≤ k → (k : Int) < m))
        (fun X => ∃ k : Nat, k ≤ N ∧ (k = N ∨ m ≤ (k : Int)) ∧ (k = 0 → N = 0) ∧ (2 ≤ k → (k : Int) - 1 < m) ∧ Below TV V X ∧ Boxed X TV 3 (.int .i64 0) ∧ Boxed X T1 3 (.int .i64 (k : Int)))
        (fun k X Y hs ht => ⟨hs.1.trans (ht.below (by have := HS1.out; omega) (by have h1 := hs.1.size; have h2 := HTV.out; omega) (fun b hb => hb.elim)), ht.boxed hs.2.1 (fun h => h), ht.boxed hs.2.2.1 (fun h => h), hs.2.2.2⟩)
        (fun X Y hs ht => by
          obtain ⟨k, h2, h3, h4, h5, h6, h7, h8⟩ := hs
          exact ⟨k, h2, h3, h4, h5, h6.trans (ht.below (by have := HS1.out; omega) (by have h1 := h6.size; have h2 := HTV.out; omega) (fun b hb => hb.elim)), ht.boxed h7 (fun h => h), ht.boxed h8 (fun h => h)⟩)
        ⟨HE1.out, HbT1.out, Hbn1.out, by omega⟩ ?E
      case iter =>
        intro X hX hsz
        have hE1 := HS1.out
        have hVs := HTV.out
        exact (each1_it C (T1 + 3) pt N ct t (by omega) (KeepB TV (T1 + 3)) (AgV V) X (by omega) (fun Y hY => ⟨hY.row HIT.out, (hY C (by omega)).trans HBT.out⟩) (fun Y Z hk hy => hy.keep hVs hk) (fun Y Z ht hy => hy.turn ht (by omega))
          (fun Y l o' hl hy b hb => (World.putObj_heap_other (by omega)).trans (hy b hb)) (fun Y Z u hk hb => (hk _ (.inr rfl) hb.lt).trans hb) (fun b hb => (hX.block b (by omega)).trans (HE1.out.block b (by omega)))).any _
      case E =>
        apply Exists.intro
        refine ⟨?asg, ?bod, ?all, ?don⟩
        case asg =>
          intro l' k X K hk hi hK
          have HKK := Lib.hid hK
          clear hK hk
          gi_wp2
          exact HKK.out _ (KeepsFrom.refl _ _) (KeepB.refl _ _ _) hi
        case bod =>
          rintro l' k X hl' ⟨r, hr⟩ hk ⟨hE2, bT2, bn2, hkm⟩
          have HE2 := Lib.hid hE2
          have HbT2 := Lib.hid bT2
          have Hbn2 := Lib.hid bn2
          have HKM := Lib.hid hkm
          obtain ⟨g, off, rfl, y1⟩ := HIW.out k hk
          have x1 := (hE2.cell (p := ⟨g, off + k, none⟩) (by show g < TV; rw [← HTV.out]; exact lt_of_cell y1)).trans y1
          have cn := bn2.cell
          have fn := bn2.frozen
          have cT2 := bT2.cell
          have cw := (show Boxed X Q 24 _ from (hE2.block Q hQT).trans HWQ.out).cell
          have cm := (show Boxed X B 3 _ from (hE2.block B (by omega)).trans HQV.out.m).cell
          obtain ⟨a, ha⟩ : ∃ z : Int, t k = z := ⟨_, rfl⟩
          rw [ha] at x1 ⊢
          have hkI : ((k : Int) < (N : Int)) := by omega
          have hk12 : ((k : Int) < 12) := by omega
          clear hE2 bT2 bn2 hkm ha y1 cT
          gi_wp2
          · have h1 : m ≤ (k : Int) + 1 := by assumption
            exact ⟨(KeepsOthers.setCell _ _ _).from _, rfl, k + 1, by omega, .inr (by omega), by omega, fun h => by have := HKM.out (by omega); omega, HE2.out.setCell (p := ⟨T1, 0, none⟩) (by show TV ≤ T1; omega) _, HbT2.out.other (by omega) _, Hbn2.out.set _⟩
          · have h1 : (k : Int) + 1 < m := by assumption
            exact ⟨(KeepsOthers.setCell _ _ _).from _, KeepB.setCell _ _ (by omega), HE2.out.setCell (p := ⟨T1, 0, none⟩) (by show TV ≤ T1; omega) _, HbT2.out.other (by omega) _, Hbn2.out.set _, fun _ => by omega⟩
        case all =>
          rintro X ⟨h1, h2, h3, h4⟩
          exact ⟨N, Nat.le_refl _, .inl rfl, id, fun h => by have := h4 (by omega); omega, h1, h2, h3⟩
        case don =>
          rintro D1 X hD1 ⟨k, hkN, hkm, hk0, hkl, hE2, bT2, bn2⟩ hK1
          have HE2 := Lib.hid hE2
          have HbT2 := Lib.hid bT2
          have Hbn2 := Lib.hid bn2
          have HK1 := Lib.hid hK1
          have cn := bn2.cell
          have cT2 := bT2.cell
          have fT2 := bT2.frozen
          have cw := (show Boxed X Q 24 _ from (hE2.block Q hQT).trans HWQ.out).cell
          have cm := (show Boxed X B 3 _ from (hE2.block B (by omega)).trans HQV.out.m).cell
          obtain ⟨mx, hmx, hmi⟩ : ∃ mx : Int, (∀ W, (Builtin.max_ #[3, 3] 3 #[.int .i64 1, .int .i64 m]).run Tryz.prog W = .ok (.int .i64 mx) W) ∧ (∀ W, (Builtin.min_ #[3, 3] 3 #[.int .i64 N, .int .i64 mx]).run Tryz.prog W = .ok (.int .i64 (k : Int)) W) := by
            refine ⟨if m > 1 then m else 1, fun W => at_maxR _ _ _ _ W, fun W => ?_⟩
            rw [at_minR]
            congr 2
            split <;> split <;> omega
          clear hE2 bT2 bn2 hkm hK1 hkl hk0 cT
          gi_wp2_with fail
          rw [roundsIn_succ]
          obtain ⟨T2, hT2⟩ : ∃ T2, X.heap.size = T2 := ⟨_, rfl⟩
          obtain ⟨X2, hX2⟩ : ∃ X2, X.alloc (.cells #[.int .i64 1] 3) = X2 := ⟨_, rfl⟩
          obtain ⟨X3, hX3⟩ : ∃ X3, X2.alloc (.cells #[.int .i64 0] 3) = X3 := ⟨_, rfl⟩
          have hCX : T1 < X.heap.size := by have := Hbn2.out.lt; omega
          have hVT : V.heap.size = TV := HTV.out
          have E3 : Below TV V X3 := by rw [← hX3, ← hX2]; exact (HE2.out.alloc (by omega) _).alloc (by simp; omega) _
          have bT3 : Boxed X3 T2 3 (.int .i64 1) := by rw [← hX3, ← hX2, ← hT2]; exact (Boxed.new _ _ _).alloc _
          obtain ⟨C2, hC2⟩ : ∃ C2, X2.heap.size = C2 := ⟨_, rfl⟩
          have hTC2 : C2 = T2 + 1 := by rw [← hC2, ← hX2, ← hT2]; simp
          have bn3 : Boxed X3 C2 3 (.int .i64 0) := by rw [← hX3, ← hC2]; exact Boxed.new _ _ _
          have hs3 : X3.heap.size = C2 + 1 := by rw [← hX3, ← hC2]; simp
          have hD1s : D1 < T2 := by rw [← hT2]; exact (Array.getElem?_eq_some_iff.1 HK1.out).1
          have K3 : X3.heap[D1]? = some (.deferred (some [])) := by
            rw [← hX3, ← hX2]
            exact (Below.heap_alloc _ _ _ (by simp; omega)).trans ((Below.heap_alloc _ _ _ (by omega)).trans HK1.out)
          have cT2 : X2.cell? ⟨T2, 0, none⟩ = some (.int .i64 1) := by rw [← hX2, ← hT2]; exact (Boxed.new _ _ _).cell
          have cT2b : (X2.alloc (.cells #[.int .i64 0] 3)).cell? ⟨T2, 0, none⟩ = some (.int .i64 1) := by rw [hX3]; exact bT3.cell
          rw [hT2, hX2]
          have HX3 := Lib.hid hX3
          have HC2 := Lib.hid hC2
          have HTC2 := Lib.hid hTC2
          have HS3 := Lib.hid hs3
          have HE3 := Lib.hid E3
          have HbT3 := Lib.hid bT3
          have Hbn3 := Lib.hid bn3
          have HK3 := Lib.hid K3
          have hTT2 : T1 < T2 := by omega
          clear hX3 hC2 hT2 hX2 hTC2 cn fT2 cw cm hVT E3 bT3 bn3 K3 hs3 hCX
          gi_wp2_with fail
          rw [HX3.out, HC2.out]
          have hTC2 : T2 < C2 := by have := HTC2.out; omega
          clear cT2 cT2b
          refine rf_breakE (id := 4) (N := N) (own := fun _ => False) (Kp := KeepB TV (C2 + 3)) (encs := fun j => #[.int .i64 j, .int .i64 (t j)]) rfl (by omega) (gf := 27) (lb := #[.pointer (some ⟨C, 0, none⟩)]) rfl trivial (enters_of Tryz.func27 (by kernel_rfl) rfl)
            (fun _ => rfl) (fun b hb => hb.elim) ?iter2 KeepB.trans (fun X o o' h2 h3 => KeepB.putObj _ _ (by have := HS3.out; omega))
            (fun k Y => Below TV V Y ∧ Boxed Y T2 3 (.int .i64 1) ∧ Boxed Y C2 3 (.int .i64 (k : Int)) ∧ Y.heap[D1]? = some (.deferred (some [])))
            (fun Y => Below TV V Y ∧ Boxed Y T2 3 (.int .i64 1) ∧ Boxed Y C2 3 (.int .i64 (N : Int)) ∧ Y.heap[D1]? = some (.deferred (some [])))
            (fun k X Y hs ht => ⟨hs.1.trans (ht.below (by have := HS3.out; omega) (by have h1 := hs.1.size; have h2 := HTV.out; omega) (fun b hb => hb.elim)), ht.boxed hs.2.1 (fun h => h), ht.boxed hs.2.2.1 (fun h => h), ht.low hs.2.2.2 (by have := HS3.out; omega) (fun h => h)⟩)
            (fun X Y hs ht => ⟨hs.1.trans (ht.below (by have := HS3.out; omega) (by have h1 := hs.1.size; have h2 := HTV.out; omega) (fun b hb => hb.elim)), ht.boxed hs.2.1 (fun h => h), ht.boxed hs.2.2.1 (fun h => h), ht.low hs.2.2.2 (by have := HS3.out; omega) (fun h => h)⟩)
            ⟨HE3.out, HbT3.out, Hbn3.out, HK3.out⟩ ?E2
          case iter2 =>
            intro Y hY hsz
            have hE1 := HS3.out
            have hVs := HTV.out
            exact (each1_it C (C2 + 3) pt N ct t (by omega) (KeepB TV (C2 + 3)) (AgV V) Y (by omega) (fun Z hZ => ⟨hZ.row HIT.out, (hZ C (by omega)).trans HBT.out⟩) (fun Z U hk hy => hy.keep hVs hk) (fun Z U ht hy => hy.turn ht (by omega))
              (fun Z l o' hl hy b hb => (World.putObj_heap_other (by omega)).trans (hy b hb)) (fun Z U u hk hb => (hk _ (.inr rfl) hb.lt).trans hb) (fun b hb => (hY.block b (by omega)).trans (HE3.out.block b (by omega)))).any _
          case E2 =>
            apply Exists.intro
            refine ⟨?asg2, ?bod2, ?all2, ?don2⟩
            case asg2 =>
              intro l' k X K hk hi hK
              have HKK := Lib.hid hK
              clear hK hk
              gi_wp2
              exact HKK.out _ (KeepsFrom.refl _ _) (KeepB.refl _ _ _) hi
            case bod2 =>
              rintro l' k Y hl' ⟨r, hr⟩ hk ⟨hE4, bT4, bn4, K4⟩
              have HE4 := Lib.hid hE4
              have HbT4 := Lib.hid bT4
              have Hbn4 := Lib.hid bn4
              have HK4 := Lib.hid K4
              obtain ⟨g, off, rfl, y1⟩ := HIW.out k hk
              have x1 := (hE4.cell (p := ⟨g, off + k, none⟩) (by show g < TV; rw [← HTV.out]; exact lt_of_cell y1)).trans y1
              have cn := bn4.cell
              have fn := bn4.frozen
              have cT4 := bT4.cell
              have cw := (show Boxed Y Q 24 _ from (hE4.block Q hQT).trans HWQ.out).cell
              obtain ⟨a, ha⟩ : ∃ z : Int, t k = z := ⟨_, rfl⟩
              rw [ha] at x1 ⊢
              have hkI : ((k : Int) < (N : Int)) := by omega
              have hk12 : ((k : Int) < 12) := by omega
              clear hE4 bT4 bn4 K4 ha y1 hmx hmi
              gi_wp2
              exact ⟨(KeepsOthers.setCell _ _ _).from _, KeepB.setCell _ _ (by omega), HE4.out.setCell (p := ⟨C2, 0, none⟩) (by show TV ≤ C2; omega) _, HbT4.out.other (by omega) _, Hbn4.out.set _, (Below.heap_setCell _ _ _ _ (by show D1 ≠ C2; omega)).trans HK4.out⟩
            case all2 => exact fun Y h => h
            case don2 =>
              rintro D2 Y hD2 ⟨hE5, bT5, bn5, K5⟩ hK2
              have HE5 := Lib.hid hE5
              have HbT5 := Lib.hid bT5
              have HK5 := Lib.hid K5
              have HK2 := Lib.hid hK2
              have cn := bn5.cell
              have cT5 := bT5.cell
              have fT5 := bT5.frozen
              have cw := (show Boxed Y Q 24 _ from (hE5.block Q hQT).trans HWQ.out).cell
              have r3 : ((N : Int) != (N : Int)) = false := bne_self_eq_false _
              clear hE5 bT5 bn5 K5 hK2 hmx hmi
              gi_wp2_with fail
              rw [roundsIn_succ]
              obtain ⟨Z, hZ⟩ : ∃ Z, Y.alloc (.cells #[.int .i64 2] 3) = Z := ⟨_, rfl⟩
              obtain ⟨T3, hT3⟩ : ∃ T3, Y.heap.size = T3 := ⟨_, rfl⟩
              have hVT : V.heap.size = TV := HTV.out
              have cZ : Z.cell? ⟨T3, 0, none⟩ = some (.int .i64 2) := by rw [← hZ, ← hT3]; exact (Boxed.new _ _ _).cell
              have E6 : Below TV V Z := by rw [← hZ]; exact HE5.out.alloc (by have h := HE5.out.size; omega) _
              have K6 : Z.heap[D1]? = some (.deferred (some [])) := by rw [← hZ]; exact (Below.heap_alloc _ _ _ (Array.getElem?_eq_some_iff.1 HK5.out).1).trans HK5.out
              have K7 : Z.heap[D2]? = some (.deferred (some [])) := by rw [← hZ]; exact (Below.heap_alloc _ _ _ (Array.getElem?_eq_some_iff.1 HK2.out).1).trans HK2.out
              rw [hT3, hZ]
              rw [← hVT] at E6
              have HQZ := Lib.hid (HQV.out.next E6)
              have HK6 := Lib.hid K6
              have HK7 := Lib.hid K7
              have WKZ := Lib.hid (WK.out Z (HK.out.below HQZ.out.hb))
              have hD1s : D1 < T2 := hD1s
              clear hT3 hZ E6 K6 K7 cn cT5 fT5 cw r3 hVT
              gi_wp2_with fail
              go_wp2_with fail
              refine WKZ.out.mono ?_
              rintro e V' ⟨rfl, hbV⟩
              have bR : Boxed V' (B + 1) 4 (.bool false) := (hbV.block _ HQZ.out.r.lt).trans HQZ.out.r
              have K8 : V'.heap[D1]? = some (.deferred (some [])) := (hbV.block _ (Array.getElem?_eq_some_iff.1 HK6.out).1).trans HK6.out
              have K9 : V'.heap[D2]? = some (.deferred (some [])) := (hbV.block _ (Array.getElem?_eq_some_iff.1 HK7.out).1).trans HK7.out
              have bV := HQZ.out.hb.trans (hbV.mono HQZ.out.hb.size)
              have cR := bR.cell
              have fR := bR.frozen
              have HK8 := Lib.hid K8
              have HK9 := Lib.hid K9
              have HbR := Lib.hid bR
              have HbV := Lib.hid bV
              clear bR K8 K9 bV hbV cZ
              first | go_wp2_with fail | skip
              have hBw := HQZ.out.hB
              have hX1 := HS1.out
              have hX3 := HS3.out
              have d1 : B + 1 < D1 := by omega
              have d2 : B + 1 < D2 := by omega
              have d12 : D1 ≠ D2 := by omega
              have L9 : (V'.setCell ⟨B + 1, 0, none⟩ (.bool true)).heap[D2]? = some (.deferred (some [])) := (Below.heap_setCell _ _ _ _ (by show D2 ≠ B + 1; omega)).trans HK9.out
              have L8 : ((V'.setCell ⟨B + 1, 0, none⟩ (.bool true)).putObj D2 (.deferred none)).heap[D1]? = some (.deferred (some [])) := (World.putObj_heap_other d12).trans ((Below.heap_setCell _ _ _ _ (by show D1 ≠ B + 1; omega)).trans HK8.out)
              have L0 : Boxed (((V'.setCell ⟨B + 1, 0, none⟩ (.bool true)).putObj D2 (.deferred none)).putObj D1 (.deferred none)) (B + 1) 4 (.bool true) := (World.putObj_heap_other (by omega)).trans ((World.putObj_heap_other (by omega)).trans (HbR.out.set _))
              have c0 := L0.cell
              refine ⟨by simp, .inl ⟨_, _, rfl, run_takeDeferred L9, ?_⟩⟩
              refine ⟨by simp, .inl ⟨_, _, rfl, run_takeDeferred L8, ?_⟩⟩
              refine ⟨.bool true, ?_, rfl, ?_⟩
              · simp [results, Tryz.results3, go_sem, c0]
              · refine (HbV.out.setCell (p := ⟨B + 1, 0, none⟩) (by show w.heap.size ≤ B + 1; omega) _).trans ((belowK_b (w := w) (Nat.le_refl _) _ D2 _ _ (by omega) L9 rfl rfl).trans (belowK_b (w := w) (Nat.le_refl _) _ D1 _ _ (by omega) L8 rfl rfl))
end Go.Proofs.YtheaichiglfmjaaGreatDoor
