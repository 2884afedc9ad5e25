/- Texts of this claim, one behind the other: Hk, Hl, Hi, Hh, Hm, Hn, Ho, LAP, LAS, Jp, Ry, Jb, Jc, Ja, Jd. -/
import Derived.Test.YthfdnlcalefjeaaDoorCAHm2
import Derived.Test.YthfdnlcalefjeaaDoorCAHm1
/- The reference's reasons and answers. -/
namespace Go.Proofs.YthfdnlcalefjeaaDoor
set_option linter.unusedVariables false
set_option linter.unusedSimpArgs false
open Go.RowKit Go.Shelf
set_option maxHeartbeats 8000000
set_option maxRecDepth 100000
namespace Hp
def stI : List Value := stats.map fun s => .int .i64 s.1
def stR : List Value := stats.map fun s => sx s.2
theorem st_at : ∀ j, j < 8 → stI[j]? = some (.int .i64 (st j).1) ∧ stR[j]? = some (sx (st j).2) := by
  intro j hj
  match j, hj with
  | 0, _ | 1, _ | 2, _ | 3, _ | 4, _ | 5, _ | 6, _ | 7, _ => exact ⟨rfl, rfl⟩
end Hp
theorem ref_Statuses (w : World) : Calls Tryd.prog 22 #[] w fun e w' => e = .returned (.slice (some ⟨w.heap.size, 0, none⟩) 8 8) ∧ w' = w.alloc (.cells Hp.stI.toArray 3) := by
  go_enter Tryd.func22, Tryd.ntmps22
  go_wp2_with fail
  go_ret
  exact ⟨rfl, rfl⟩
theorem ref_Reasons (w : World) : Calls Tryd.prog 23 #[] w fun e w' => e = .returned (.slice (some ⟨w.heap.size, 0, none⟩) 8 8) ∧ w' = w.alloc (.cells Hp.stR.toArray 9) := by
  go_enter Tryd.func23, Tryd.ntmps23
  go_wp2_with fail
  go_ret
  exact ⟨rfl, rfl⟩
theorem ref_Reason (n : Int) (w : World) :
    Calls Tryd.prog 11 #[.int .i64 n] w fun e w' => e = .returned (Hp.reaOut (Hp.reason n)) ∧ Below w.heap.size w w' := by
  obtain ⟨S, hS⟩ : ∃ S, w.heap.size = S := ⟨_, rfl⟩
  obtain ⟨W1, hW1⟩ : ∃ Z, w.alloc (.cells Hp.stI.toArray 3) = Z := ⟨_, rfl⟩
  have HB1 := Lib.hid (show Below w.heap.size w W1 by rw [← hW1]; exact (Below.refl _ _).alloc (Nat.le_refl _) _)
  have HG1 := Lib.hid (show W1.heap[S]? = some (.cells Hp.stI.toArray 3 (0, 0)) by rw [← hW1, ← hS]; exact World.alloc_heap_new _ _)
  have HK := Lib.hid (ref_Statuses w)
  have HSS := Lib.hid hS
  have HW1 := Lib.hid hW1
  have HRS := Lib.hid (ref_Reasons W1)
  clear hS hW1
  go_enter Tryd.func11, Tryd.ntmps11
  go_wp2_with fail
  refine HK.out.mono ?_
  rintro e w1 ⟨rfl, rfl⟩
  rw [HW1.out, HSS.out]
  go_wp2_with fail
  go_loop [5] (fun i => ∃ k : Nat, k ≤ 8 ∧ i = .int .i64 k ∧ Hp.NoS n k) (fun i => 8 - (intOf i).toNat)
  case atStart => exact ⟨0, Nat.zero_le _, rfl, fun s hs => by simp at hs⟩
  case round =>
    obtain ⟨k, hk, rfl, hall⟩ := hrel
    have HA := Lib.hid hall
    clear hall
    by_cases hlt : k < 8
    · obtain ⟨h1, h2⟩ := Hp.st_at k hlt
      have hc : W1.cell? ⟨S, k, none⟩ = some (.int .i64 (Hp.st k).1) := by simp only [World.cell?, HG1.out, List.getElem?_toArray, h1]; rfl
      obtain ⟨a, ha⟩ : ∃ a, (Hp.st k).1 = a := ⟨_, rfl⟩
      rw [ha] at hc
      have HAA := Lib.hid ha
      clear ha
      by_cases he : a = n
      · have HR := Lib.hid (Hp.noS_hit HA.out hlt (HAA.out.trans he))
        have e1 : (a == n) = true := beq_iff_eq.2 he
        obtain ⟨R, hR⟩ : ∃ R, W1.heap.size = R := ⟨_, rfl⟩
        obtain ⟨W2, hW2⟩ : ∃ Z, W1.alloc (.cells Hp.stR.toArray 9) = Z := ⟨_, rfl⟩
        have HB2 := Lib.hid (show Below w.heap.size w W2 by rw [← hW2]; exact HB1.out.alloc HB1.out.size _)
        have hg2 : W2.heap[R]? = some (.cells Hp.stR.toArray 9 (0, 0)) := by rw [← hW2, ← hR]; exact World.alloc_heap_new _ _
        have hc2 : W2.cell? ⟨R, k, none⟩ = some (Hp.sx (Hp.st k).2) := by simp only [World.cell?, hg2, List.getElem?_toArray, h2]; rfl
        obtain ⟨x, hx⟩ : ∃ x, Hp.sx (Hp.st k).2 = x := ⟨_, rfl⟩
        rw [hx] at hc2
        have HX := Lib.hid hx
        have HW2 := Lib.hid hW2
        have HRR := Lib.hid hR
        clear he h1 h2 hg2 hx hW2 hR
        go_wp2_with fail
        refine HRS.out.mono ?_
        rintro e w3 ⟨rfl, hw3⟩
        rw [HW2.out] at hw3
        subst hw3
        rw [HRR.out]
        go_wp2_with fail
        go_ret2
        exact ⟨by rw [HR.out, ← HX.out]; rfl, HB2.out⟩
      · have HN := Lib.hid (Hp.noS_next HA.out hlt (by rw [HAA.out]; exact he))
        have e1 : (a == n) = false := beq_eq_false_iff_ne.2 he
        clear he h1 h2
        go_wp2_with fail
        go_round
        case rel => exact ⟨k + 1, by omega, by go_num, HN.out⟩
        case measure => simp [intOf]; omega
    · have HF := Lib.hid (Hp.noS_end (n := n) (by have := HA.out; rwa [show k = 8 by omega] at this))
      go_wp2_with fail
      go_ret2
      exact ⟨by rw [HF.out]; rfl, HB1.out⟩
/-- a head that the reference puts together -/
def RSt (w0 : World) (A B : Nat) (F : ByteArray) (fs : List Hp.Hd) (w : World) : Prop := ∃ V, w.heap[A]? = some (.cells #[.string F, V] 45 (0, 0)) ∧ w.ownsRow B 74 2 V fs.length (hds fs) ∧ B ≤ w.heap.size ∧ w0.heap.size ≤ B ∧ w0.heap.size ≤ A ∧ Below w0.heap.size w0 w
theorem rst_put {w0 w w' : World} {A B : Nat} {F : ByteArray} {fs : List Hp.Hd} {V v' : Value} (hA : w.heap[A]? = some (.cells #[.string F, V] 45 (0, 0))) (hO : w.ownsRow B 74 2 V fs.length (hds fs)) (hB : B ≤ w.heap.size) (h0 : w0.heap.size ≤ B) (hA0 : w0.heap.size ≤ A) (hb : Below w0.heap.size w0 w)
    (p : Hp.Hd) (ob : Obj) (hown : w'.ownsRow B 74 2 v' (fs.length + 1) (hds fs ++ [Hp.sx p.1, Hp.sx p.2])) (hg : (w.alloc ob).grownBy w' V.ownBlock) :
    w'.heap[A]? = some (.cells #[.string F, V] 45 (0, 0)) ∧ RSt w0 A B F (fs ++ [p]) (w'.setCell ⟨A, 1, none⟩ v') := by
  have hA2 := heap_alloc_old' ob hA
  have h1 : w'.heap[A]? = some (.cells #[.string F, V] 45 (0, 0)) := (hg.block A (Array.getElem?_eq_some_iff.1 hA2).1 (own_ne hO hA (by decide))).trans hA2
  refine ⟨h1, v', heap_setCell_same _ _ 1 _ _ _ h1, ?_, ?_, h0, hA0, ?_⟩
  · rw [hds_snoc, List.length_append]
    refine ⟨hown.1, hown.2.imp id ?_⟩
    rintro ⟨g, cap, cur, e1, e2, e3, e4⟩
    refine ⟨g, cap, cur, e1, e2, ?_, e4⟩
    rw [Below.heap_setCell _ _ _ _ (fun e => by
      have e5 : g = A := e
      rw [e5, h1] at e3
      injection Option.some.inj e3 with _ h5 _
      exact absurd h5 (by decide))]
    exact e3
  · have := hg.size
    simp at this ⊢
    omega
  · exact (Below.grown (hb.alloc (Nat.le_trans h0 hB) _) hg (by simp; omega) (fun k hk => Nat.le_trans h0 (own_geH hO k hk))).setCell (p := ⟨A, 1, none⟩) hA0 _
/-- what the reference tells -/
def RfOut (o : Option (List UInt8)) : Value := .tuple #[Hp.sx (o.getD []), .int .i64 (erOf o)]
theorem rst_bytes {w0 w : World} {A B : Nat} {F : List UInt8} {fs : List Hp.Hd} (h : RSt w0 A B ⟨F.toArray⟩ fs w) (hF : F.length ≤ 100000) (hl : fs.length ≤ 1000) (hs : ∀ f ∈ fs, f.1.length ≤ 100000 ∧ f.2.length ≤ 100000) :
    ∃ V, w.cell? ⟨A, 0, none⟩ = some (.string ⟨F.toArray⟩) ∧ w.cell? ⟨A, 1, none⟩ = some V ∧ Calls Tryd.prog 32 #[.agg #[.string ⟨F.toArray⟩, V]] w fun e w' => e = .returned (.string ⟨(Hp.hbytes F fs).toArray⟩) ∧ Below w0.heap.size w0 w' := by
  obtain ⟨V, hA, hO, hB, h0, hA0, hb⟩ := h
  refine ⟨V, by simp [World.cell?, hA], by simp [World.cell?, hA], (ref_Bytes F V fs w (HS.own hO) hF hl hs).mono ?_⟩
  rintro e w' ⟨rfl, hb2⟩
  exact ⟨rfl, hb.trans (hb2.mono hb.size)⟩
end Go.Proofs.YthfdnlcalefjeaaDoor

/- The reference's plain answers. -/
namespace Go.Proofs.YthfdnlcalefjeaaDoor
set_option linter.unusedVariables false
set_option linter.unusedSimpArgs false
open Go.RowKit Go.Shelf
set_option maxHeartbeats 8000000
set_option maxRecDepth 100000
theorem ba_len (l : List UInt8) : (⟨l.toArray⟩ : ByteArray).size = l.length := by simp [ByteArray.size]
theorem ref_Plain (n : Int) (text : ByteArray) (w : World) (hn : -9223372036854775808 ≤ n ∧ n ≤ 9223372036854775807) (ht : text.size ≤ 9223372036854775807) :
    Calls Tryd.prog 12 #[.int .i64 n, .string text] w fun e w' => e = .returned (RfOut (Hp.plain n text.data.toList)) ∧ Below w.heap.size w w' := by
  obtain ⟨i0, hi, hz0, hz1, hz2⟩ := info_parts (show (Tryd.prog.info? 74).map (fun i => (i.zero, i.size, i.bytes)) = some (some (.agg #[.string ByteArray.empty, .string ByteArray.empty]), 2, 32) by kernel_rfl)
  have KR := Lib.hid (ref_Reason n w)
  have HTS := Lib.hid (show text.data.toList.length = text.size from rfl)
  obtain ⟨o, ho⟩ : ∃ o, Hp.reason n = o := ⟨_, rfl⟩
  rw [ho] at KR
  cases o with
  | none =>
    have HPL := Lib.hid (show Hp.plain n text.data.toList = none by unfold Hp.plain; rw [ho])
    unfold Hp.reaOut at KR
    clear ho
    go_enter Tryd.func12, Tryd.ntmps12
    go_wp2_with fail
    refine KR.out.mono ?_
    rintro e w2 ⟨rfl, hb2⟩
    have HB2 := Lib.hid hb2
    clear hb2
    go_wp2_with fail
    go_ret2
    exact ⟨by rw [HPL.out]; rfl, HB2.out⟩
  | some r =>
    have hok := Hp.reason_ok ho
    by_cases hlen : text.size ≤ 1000
    · obtain ⟨m, rfl⟩ : ∃ m : Nat, n = (m : Int) := ⟨n.toNat, by omega⟩
      have HPL := Lib.hid (show Hp.plain m text.data.toList = some (Hp.hbytes (Hp.first m r) (Hp.fields m text.size) ++ text.data.toList ++ [10]) by
        unfold Hp.plain; rw [ho]; simp only [HTS.out]; rw [if_pos hlen])
      have KD := Lib.hid (fun W => ref_text m (by omega) W)
      have KE := Lib.hid (fun W => ref_text (text.size + 1) (by omega) W)
      rw [show ((text.size + 1 : Nat) : Int) = (text.size : Int) + 1 by omega] at KE
      have hm1 : 200 ≤ m ∧ m ≤ 505 := by omega
      unfold Hp.reaOut Hp.sx at KR
      simp only at KR
      have hrs := (show (⟨r.toArray⟩ : ByteArray).size = r.length by simp [ByteArray.size])
      have hds' := (show (⟨(Dp.digs 10 m).toArray⟩ : ByteArray).size = (Dp.digs 10 m).length by simp [ByteArray.size])
      have hfirst : (⟨#[72, 84, 84, 80, 47, 49, 46, 49, 32]⟩ : ByteArray) ++ ⟨(Dp.digs 10 m).toArray⟩ ++ ⟨#[32]⟩ ++ ⟨r.toArray⟩ = ⟨(Hp.first m r).toArray⟩ := by
        apply ByteArray.ext; apply Array.ext'; simp [Hp.first, Hp.http]
      obtain ⟨rb, hrb⟩ : ∃ z : ByteArray, (⟨r.toArray⟩ : ByteArray) = z := ⟨_, rfl⟩
      obtain ⟨db, hdb⟩ : ∃ z : ByteArray, (⟨(Dp.digs 10 m).toArray⟩ : ByteArray) = z := ⟨_, rfl⟩
      rw [hrb] at KR hfirst hrs
      rw [hdb] at KD hfirst hds'
      have hrs2 : rb.size ≤ 31 := by omega
      have hdl := digs_len_le m
      have hdb2 : db.size ≤ 506 := by omega
      obtain ⟨fb, hfb⟩ : ∃ z : ByteArray, (⟨(Hp.first m r).toArray⟩ : ByteArray) = z := ⟨_, rfl⟩
      rw [hfb] at hfirst
      have HFB := Lib.hid hfb
      have HFL := Lib.hid (show (Hp.first m r).length ≤ 1000 by
        have h1 := hok.2.2.2
        unfold Hp.first Hp.http
        simp only [List.length_append, List.length_cons, List.length_nil, Int.toNat_natCast]
        omega)
      have HFS := Lib.hid (fields_sz m text.size hlen)
      have HTL := Lib.hid (hbytes_len (Hp.first m r) (Hp.fields m text.size) (by have := HFL.out; omega) (fields_len _ _) HFS.out)
      clear ho hok hrs hds' hrb hdb hdl hfb
      go_enter Tryd.func12, Tryd.ntmps12
      go_wp2_with fail
      refine KR.out.mono ?_
      rintro e w2 ⟨rfl, hb2⟩
      have HB2 := Lib.hid hb2
      clear hb2
      go_wp2_with fail
      refine (KD.out w2).mono ?_
      rintro e w3 ⟨rfl, rfl⟩
      go_wp2_with fail
      refine (KE.out w2).mono ?_
      rintro e w3 ⟨rfl, rfl⟩
      obtain ⟨B, hB⟩ : ∃ B, w2.heap.size = B := ⟨_, rfl⟩
      obtain ⟨w4, hw4⟩ : ∃ Z, (w2.alloc (.cells #[.string ⟨#[99, 111, 110, 116, 101, 110, 116, 45, 116, 121, 112, 101]⟩, .string ⟨#[116, 101, 120, 116, 47, 112, 108, 97, 105, 110]⟩, .string ⟨#[99, 111, 110, 116, 101, 110, 116, 45, 108, 101, 110, 103, 116, 104]⟩, .string ⟨(Dp.digs 10 (text.size + 1)).toArray⟩] 74)).alloc (.cells #[.string fb, .slice (some ⟨w2.heap.size, 0, none⟩) 2 2] 45) = Z := ⟨_, rfl⟩
      obtain ⟨A, hA⟩ : ∃ A, B + 1 = A := ⟨_, rfl⟩
      have h1 := HB2.out.size
      have h3 := World.ownsRow_lit (base := B) (size := 2) (e := 74) w2 #[.string ⟨#[99, 111, 110, 116, 101, 110, 116, 45, 116, 121, 112, 101]⟩, .string ⟨#[116, 101, 120, 116, 47, 112, 108, 97, 105, 110]⟩, .string ⟨#[99, 111, 110, 116, 101, 110, 116, 45, 108, 101, 110, 103, 116, 104]⟩, .string ⟨(Dp.digs 10 (text.size + 1)).toArray⟩] 2 (by omega) (by unfold maxLen; omega) rfl
      have hA4 : w4.heap[A]? = some (.cells #[.string fb, .slice (some ⟨B, 0, none⟩) 2 2] 45 (0, 0)) := by
        rw [← hw4, ← hA, ← hB]
        have := World.alloc_heap_new (w2.alloc (.cells #[.string ⟨#[99, 111, 110, 116, 101, 110, 116, 45, 116, 121, 112, 101]⟩, .string ⟨#[116, 101, 120, 116, 47, 112, 108, 97, 105, 110]⟩, .string ⟨#[99, 111, 110, 116, 101, 110, 116, 45, 108, 101, 110, 103, 116, 104]⟩, .string ⟨(Dp.digs 10 (text.size + 1)).toArray⟩] 74)) (.cells #[.string fb, .slice (some ⟨w2.heap.size, 0, none⟩) 2 2] 45)
        simpa using this
      have hO4 : w4.ownsRow B 74 2 (.slice (some ⟨B, 0, none⟩) 2 2) [(Hp.ct, Hp.tp), (Hp.cl, Dp.digs 10 (text.size + 1))].length (hds [(Hp.ct, Hp.tp), (Hp.cl, Dp.digs 10 (text.size + 1))]) := by
        rw [← hw4]
        rw [hB] at h3
        exact h3.alloc _
      have hB4 : B ≤ w4.heap.size := by rw [← hw4]; simp; omega
      have h04 : w.heap.size ≤ B := by omega
      have hA04 : w.heap.size ≤ A := by omega
      have hb4 : Below w.heap.size w w4 := by rw [← hw4]; exact (HB2.out.alloc h1 _).alloc (by simp; omega) _
      have HZ4 := Lib.hid (show w4.heap.size = A + 1 by rw [← hw4]; simp; omega)
      have HW4 := Lib.hid hw4
      have HBB := Lib.hid hB
      have HAA := Lib.hid hA
      clear hw4 hB hA h1 h3
      by_cases h5 : (m : Int) = 405
      · have he5 : ((m : Int) == 405) = true := beq_iff_eq.2 h5
        have HMO := Lib.hid (show Hp.more m = [(Hp.al, Hp.gt)] by unfold Hp.more; rw [if_pos h5])
        have he6 : ((m : Int) == 503) = false := beq_eq_false_iff_ne.2 (by omega)
        clear h5
        have HA4 := Lib.hid hA4
        have HO4 := Lib.hid hO4
        have HB4 := Lib.hid hB4
        have HQ4 := Lib.hid (And.intro h04 (And.intro hA04 hb4))
        clear hA4 hO4 hB4 h04 hA04 hb4
        go_wp2_with (at_builtin; rw [HW4.out, HBB.out, HAA.out]; refine wpList_append_own _ rfl _ _ 43 rfl B 74 i0 (.agg #[.string ByteArray.empty, .string ByteArray.empty]) 2 32 Tryd.underlying43 hi hz0 hz1 hz2 rfl (by decide) (.slice (some ⟨B, 0, none⟩) 2 2) _ _ rfl (HO4.out.alloc _) ⟨A + 1, 0, none⟩ 1 1 [Hp.sx Hp.al, Hp.sx Hp.gt] rfl rfl ?c41 ?c42 ?c43 ?c44 ?c45 ?_)
        case c41 =>
          intro j u hj
          rw [← HZ4.out]
          match j, hj with
          | 0, hj => simp at hj; subst hj; simp [Addr.add]; rfl
          | 1, hj => simp at hj; subst hj; simp [Addr.add]; rfl
        case c42 => intro u hu; simp at hu; rcases hu with rfl | rfl <;> rfl
        case c43 => simp; unfold maxLen; omega
        case c44 => simp
        case c45 => have := HB4.out; simp; omega
        intro v' w' hown' hgrow _
        obtain ⟨hAn, hSn⟩ := rst_put HA4.out HO4.out HB4.out HQ4.out.1 HQ4.out.2.1 HQ4.out.2.2 (Hp.al, Hp.gt) _ hown' hgrow
        have cB4 : w'.cell? ⟨A, 1, none⟩ = some (.slice (some ⟨B, 0, none⟩) 2 2) := by simp [World.cell?, hAn]
        have zB4 : w'.frozen? ⟨A, 1, none⟩ = false := frozen_of_row _ _ _ _ _ hAn
        obtain ⟨w5, hw5⟩ : ∃ Z, w'.setCell ⟨A, 1, none⟩ v' = Z := ⟨_, rfl⟩
        rw [hw5] at hSn
        obtain ⟨g4, k4, rfl⟩ := Go.Joins.ownsRow_form hown' (by simp)
        have HS5 := Lib.hid hSn
        clear hown' hgrow hAn hSn
        obtain ⟨V5, hA5, hO5, hB5, h05, hA05, hb5⟩ := HS5.out
        have cA5 : w5.cell? ⟨A, 1, none⟩ = some V5 := by simp [World.cell?, hA5]
        have HA5 := Lib.hid hA5
        have HO5 := Lib.hid hO5
        have HB5 := Lib.hid hB5
        have HQ5 := Lib.hid (And.intro h05 (And.intro hA05 hb5))
        clear hA5 hO5 hB5 h05 hA05 hb5
        go_wp2_with (at_builtin; refine wpList_append_own _ rfl _ _ 43 rfl B 74 i0 (.agg #[.string ByteArray.empty, .string ByteArray.empty]) 2 32 Tryd.underlying43 hi hz0 hz1 hz2 rfl (by decide) V5 _ _ rfl (HO5.out.alloc _) ⟨w5.heap.size, 0, none⟩ 1 1 [Hp.sx Hp.cn, Hp.sx Hp.cs] rfl rfl ?c51 ?c52 ?c53 ?c54 ?c55 ?_)
        case c51 =>
          intro j u hj
          match j, hj with
          | 0, hj => simp at hj; subst hj; simp [Addr.add]; rfl
          | 1, hj => simp at hj; subst hj; simp [Addr.add]; rfl
        case c52 => intro u hu; simp at hu; rcases hu with rfl | rfl <;> rfl
        case c53 => simp; unfold maxLen; omega
        case c54 => simp
        case c55 => have := HB5.out; simp; omega
        intro v' w' hown' hgrow _
        obtain ⟨hAn, hSn⟩ := rst_put HA5.out HO5.out HB5.out HQ5.out.1 HQ5.out.2.1 HQ5.out.2.2 (Hp.cn, Hp.cs) _ hown' hgrow
        have cB5 : w'.cell? ⟨A, 1, none⟩ = some V5 := by simp [World.cell?, hAn]
        have zB5 : w'.frozen? ⟨A, 1, none⟩ = false := frozen_of_row _ _ _ _ _ hAn
        obtain ⟨w6, hw6⟩ : ∃ Z, w'.setCell ⟨A, 1, none⟩ v' = Z := ⟨_, rfl⟩
        rw [hw6] at hSn
        obtain ⟨g5, k5, rfl⟩ := Go.Joins.ownsRow_form hown' (by simp)
        have HS6 := Lib.hid hSn
        clear hown' hgrow hAn hSn cA5
        have HS8 := Lib.hid (show RSt w A B ⟨(Hp.first m r).toArray⟩ (Hp.fields m text.size) w6 by
          rw [HFB.out]
          have e : Hp.fields m text.size = [(Hp.ct, Hp.tp), (Hp.cl, Dp.digs 10 (text.size + 1))] ++ [(Hp.al, Hp.gt)] ++ [(Hp.cn, Hp.cs)] := by unfold Hp.fields; rw [HMO.out]; try rfl
          rw [e]
          exact HS6.out)
        obtain ⟨V8, c80, c81, K8⟩ := rst_bytes HS8.out (by have := HFL.out; omega) (fields_len _ _) HFS.out
        have K8 := Lib.hid K8
        rw [HFB.out] at c80 K8
        go_wp2_with fail
        refine K8.out.mono ?_
        rintro e w9 ⟨rfl, hb9⟩
        have HB9 := Lib.hid hb9
        clear hb9 c80 c81 hw6
        have hbs := ba_len (Hp.hbytes (Hp.first m r) (Hp.fields m text.size))
        have HQ := Lib.hid (show (⟨(Hp.hbytes (Hp.first m r) (Hp.fields m text.size)).toArray⟩ : ByteArray) ++ text ++ ⟨#[10]⟩ = ⟨(Hp.hbytes (Hp.first m r) (Hp.fields m text.size) ++ text.data.toList ++ [10]).toArray⟩ by
          apply ByteArray.ext; apply Array.ext'; simp)
        obtain ⟨hb, hhb⟩ : ∃ z : ByteArray, (⟨(Hp.hbytes (Hp.first m r) (Hp.fields m text.size)).toArray⟩ : ByteArray) = z := ⟨_, rfl⟩
        rw [hhb] at hbs HQ ⊢
        have hbs2 : hb.size ≤ 1000000000 := by rw [hbs]; exact HTL.out
        have hbs3 : (hb ++ text).size ≤ 1100000000 := by rw [ByteArray.size_append]; omega
        clear hhb hbs
        go_wp2_with fail
        go_ret2
        refine ⟨?_, HB9.out⟩
        rw [HPL.out, HQ.out]; rfl
      · have he5 : ((m : Int) == 405) = false := beq_eq_false_iff_ne.2 h5
        by_cases h6 : (m : Int) = 503
        · have he6 : ((m : Int) == 503) = true := beq_iff_eq.2 h6
          have HMO := Lib.hid (show Hp.more m = [(Hp.ra, [49])] by unfold Hp.more; rw [if_neg h5, if_pos h6])
          clear h5 h6
          have HA4 := Lib.hid hA4
          have HO4 := Lib.hid hO4
          have HB4 := Lib.hid hB4
          have HQ4 := Lib.hid (And.intro h04 (And.intro hA04 hb4))
          clear hA4 hO4 hB4 h04 hA04 hb4
          go_wp2_with (at_builtin; rw [HW4.out, HBB.out, HAA.out]; refine wpList_append_own _ rfl _ _ 43 rfl B 74 i0 (.agg #[.string ByteArray.empty, .string ByteArray.empty]) 2 32 Tryd.underlying43 hi hz0 hz1 hz2 rfl (by decide) (.slice (some ⟨B, 0, none⟩) 2 2) _ _ rfl (HO4.out.alloc _) ⟨A + 1, 0, none⟩ 1 1 [Hp.sx Hp.ra, Hp.sx [49]] rfl rfl ?c41 ?c42 ?c43 ?c44 ?c45 ?_)
          case c41 =>
            intro j u hj
            rw [← HZ4.out]
            match j, hj with
            | 0, hj => simp at hj; subst hj; simp [Addr.add]; rfl
            | 1, hj => simp at hj; subst hj; simp [Addr.add]; rfl
          case c42 => intro u hu; simp at hu; rcases hu with rfl | rfl <;> rfl
          case c43 => simp; unfold maxLen; omega
          case c44 => simp
          case c45 => have := HB4.out; simp; omega
          intro v' w' hown' hgrow _
          obtain ⟨hAn, hSn⟩ := rst_put HA4.out HO4.out HB4.out HQ4.out.1 HQ4.out.2.1 HQ4.out.2.2 (Hp.ra, [49]) _ hown' hgrow
          have cB4 : w'.cell? ⟨A, 1, none⟩ = some (.slice (some ⟨B, 0, none⟩) 2 2) := by simp [World.cell?, hAn]
          have zB4 : w'.frozen? ⟨A, 1, none⟩ = false := frozen_of_row _ _ _ _ _ hAn
          obtain ⟨w5, hw5⟩ : ∃ Z, w'.setCell ⟨A, 1, none⟩ v' = Z := ⟨_, rfl⟩
          rw [hw5] at hSn
          obtain ⟨g4, k4, rfl⟩ := Go.Joins.ownsRow_form hown' (by simp)
          have HS5 := Lib.hid hSn
          clear hown' hgrow hAn hSn
          obtain ⟨V5, hA5, hO5, hB5, h05, hA05, hb5⟩ := HS5.out
          have cA5 : w5.cell? ⟨A, 1, none⟩ = some V5 := by simp [World.cell?, hA5]
          have HA5 := Lib.hid hA5
          have HO5 := Lib.hid hO5
          have HB5 := Lib.hid hB5
          have HQ5 := Lib.hid (And.intro h05 (And.intro hA05 hb5))
          clear hA5 hO5 hB5 h05 hA05 hb5
          go_wp2_with (at_builtin; refine wpList_append_own _ rfl _ _ 43 rfl B 74 i0 (.agg #[.string ByteArray.empty, .string ByteArray.empty]) 2 32 Tryd.underlying43 hi hz0 hz1 hz2 rfl (by decide) V5 _ _ rfl (HO5.out.alloc _) ⟨w5.heap.size, 0, none⟩ 1 1 [Hp.sx Hp.cn, Hp.sx Hp.cs] rfl rfl ?c51 ?c52 ?c53 ?c54 ?c55 ?_)
          case c51 =>
            intro j u hj
            match j, hj with
            | 0, hj => simp at hj; subst hj; simp [Addr.add]; rfl
            | 1, hj => simp at hj; subst hj; simp [Addr.add]; rfl
          case c52 => intro u hu; simp at hu; rcases hu with rfl | rfl <;> rfl
          case c53 => simp; unfold maxLen; omega
          case c54 => simp
          case c55 => have := HB5.out; simp; omega
          intro v' w' hown' hgrow _
          obtain ⟨hAn, hSn⟩ := rst_put HA5.out HO5.out HB5.out HQ5.out.1 HQ5.out.2.1 HQ5.out.2.2 (Hp.cn, Hp.cs) _ hown' hgrow
          have cB5 : w'.cell? ⟨A, 1, none⟩ = some V5 := by simp [World.cell?, hAn]
          have zB5 : w'.frozen? ⟨A, 1, none⟩ = false := frozen_of_row _ _ _ _ _ hAn
          obtain ⟨w6, hw6⟩ : ∃ Z, w'.setCell ⟨A, 1, none⟩ v' = Z := ⟨_, rfl⟩
          rw [hw6] at hSn
          obtain ⟨g5, k5, rfl⟩ := Go.Joins.ownsRow_form hown' (by simp)
          have HS6 := Lib.hid hSn
          clear hown' hgrow hAn hSn cA5
          have HS8 := Lib.hid (show RSt w A B ⟨(Hp.first m r).toArray⟩ (Hp.fields m text.size) w6 by
            rw [HFB.out]
            have e : Hp.fields m text.size = [(Hp.ct, Hp.tp), (Hp.cl, Dp.digs 10 (text.size + 1))] ++ [(Hp.ra, [49])] ++ [(Hp.cn, Hp.cs)] := by unfold Hp.fields; rw [HMO.out]; try rfl
            rw [e]
            exact HS6.out)
          obtain ⟨V8, c80, c81, K8⟩ := rst_bytes HS8.out (by have := HFL.out; omega) (fields_len _ _) HFS.out
          have K8 := Lib.hid K8
          rw [HFB.out] at c80 K8
          go_wp2_with fail
          refine K8.out.mono ?_
          rintro e w9 ⟨rfl, hb9⟩
          have HB9 := Lib.hid hb9
          clear hb9 c80 c81 hw6
          have hbs := ba_len (Hp.hbytes (Hp.first m r) (Hp.fields m text.size))
          have HQ := Lib.hid (show (⟨(Hp.hbytes (Hp.first m r) (Hp.fields m text.size)).toArray⟩ : ByteArray) ++ text ++ ⟨#[10]⟩ = ⟨(Hp.hbytes (Hp.first m r) (Hp.fields m text.size) ++ text.data.toList ++ [10]).toArray⟩ by
            apply ByteArray.ext; apply Array.ext'; simp)
          obtain ⟨hb, hhb⟩ : ∃ z : ByteArray, (⟨(Hp.hbytes (Hp.first m r) (Hp.fields m text.size)).toArray⟩ : ByteArray) = z := ⟨_, rfl⟩
          rw [hhb] at hbs HQ ⊢
          have hbs2 : hb.size ≤ 1000000000 := by rw [hbs]; exact HTL.out
          have hbs3 : (hb ++ text).size ≤ 1100000000 := by rw [ByteArray.size_append]; omega
          clear hhb hbs
          go_wp2_with fail
          go_ret2
          refine ⟨?_, HB9.out⟩
          rw [HPL.out, HQ.out]; rfl
        · have he6 : ((m : Int) == 503) = false := beq_eq_false_iff_ne.2 h6
          have HMO := Lib.hid (show Hp.more m = [] by unfold Hp.more; rw [if_neg h5, if_neg h6])
          clear h5 h6
          have HA4 := Lib.hid hA4
          have HO4 := Lib.hid hO4
          have HB4 := Lib.hid hB4
          have HQ4 := Lib.hid (And.intro h04 (And.intro hA04 hb4))
          clear hA4 hO4 hB4 h04 hA04 hb4
          go_wp2_with (at_builtin; rw [HW4.out, HBB.out, HAA.out]; refine wpList_append_own _ rfl _ _ 43 rfl B 74 i0 (.agg #[.string ByteArray.empty, .string ByteArray.empty]) 2 32 Tryd.underlying43 hi hz0 hz1 hz2 rfl (by decide) (.slice (some ⟨B, 0, none⟩) 2 2) _ _ rfl (HO4.out.alloc _) ⟨A + 1, 0, none⟩ 1 1 [Hp.sx Hp.cn, Hp.sx Hp.cs] rfl rfl ?c41 ?c42 ?c43 ?c44 ?c45 ?_)
          case c41 =>
            intro j u hj
            rw [← HZ4.out]
            match j, hj with
            | 0, hj => simp at hj; subst hj; simp [Addr.add]; rfl
            | 1, hj => simp at hj; subst hj; simp [Addr.add]; rfl
          case c42 => intro u hu; simp at hu; rcases hu with rfl | rfl <;> rfl
          case c43 => simp; unfold maxLen; omega
          case c44 => simp
          case c45 => have := HB4.out; simp; omega
          intro v' w' hown' hgrow _
          obtain ⟨hAn, hSn⟩ := rst_put HA4.out HO4.out HB4.out HQ4.out.1 HQ4.out.2.1 HQ4.out.2.2 (Hp.cn, Hp.cs) _ hown' hgrow
          have cB4 : w'.cell? ⟨A, 1, none⟩ = some (.slice (some ⟨B, 0, none⟩) 2 2) := by simp [World.cell?, hAn]
          have zB4 : w'.frozen? ⟨A, 1, none⟩ = false := frozen_of_row _ _ _ _ _ hAn
          obtain ⟨w5, hw5⟩ : ∃ Z, w'.setCell ⟨A, 1, none⟩ v' = Z := ⟨_, rfl⟩
          rw [hw5] at hSn
          obtain ⟨g4, k4, rfl⟩ := Go.Joins.ownsRow_form hown' (by simp)
          have HS5 := Lib.hid hSn
          clear hown' hgrow hAn hSn
          have HS8 := Lib.hid (show RSt w A B ⟨(Hp.first m r).toArray⟩ (Hp.fields m text.size) w5 by
            rw [HFB.out]
            have e : Hp.fields m text.size = [(Hp.ct, Hp.tp), (Hp.cl, Dp.digs 10 (text.size + 1))] ++ [(Hp.cn, Hp.cs)] := by unfold Hp.fields; rw [HMO.out]; try rfl
            rw [e]
            exact HS5.out)
          obtain ⟨V8, c80, c81, K8⟩ := rst_bytes HS8.out (by have := HFL.out; omega) (fields_len _ _) HFS.out
          have K8 := Lib.hid K8
          rw [HFB.out] at c80 K8
          go_wp2_with fail
          refine K8.out.mono ?_
          rintro e w9 ⟨rfl, hb9⟩
          have HB9 := Lib.hid hb9
          clear hb9 c80 c81 hw5
          have hbs := ba_len (Hp.hbytes (Hp.first m r) (Hp.fields m text.size))
          have HQ := Lib.hid (show (⟨(Hp.hbytes (Hp.first m r) (Hp.fields m text.size)).toArray⟩ : ByteArray) ++ text ++ ⟨#[10]⟩ = ⟨(Hp.hbytes (Hp.first m r) (Hp.fields m text.size) ++ text.data.toList ++ [10]).toArray⟩ by
            apply ByteArray.ext; apply Array.ext'; simp)
          obtain ⟨hb, hhb⟩ : ∃ z : ByteArray, (⟨(Hp.hbytes (Hp.first m r) (Hp.fields m text.size)).toArray⟩ : ByteArray) = z := ⟨_, rfl⟩
          rw [hhb] at hbs HQ ⊢
          have hbs2 : hb.size ≤ 1000000000 := by rw [hbs]; exact HTL.out
          have hbs3 : (hb ++ text).size ≤ 1100000000 := by rw [ByteArray.size_append]; omega
          clear hhb hbs
          go_wp2_with fail
          go_ret2
          refine ⟨?_, HB9.out⟩
          rw [HPL.out, HQ.out]; rfl
    · have HPL := Lib.hid (show Hp.plain n text.data.toList = none by unfold Hp.plain; rw [ho]; simp only [HTS.out]; rw [if_neg hlen])
      unfold Hp.reaOut at KR
      clear ho hok
      go_enter Tryd.func12, Tryd.ntmps12
      go_wp2_with fail
      refine KR.out.mono ?_
      rintro e w2 ⟨rfl, hb2⟩
      have HB2 := Lib.hid hb2
      clear hb2
      go_wp2_with fail
      go_ret2
      exact ⟨by rw [HPL.out]; rfl, HB2.out⟩
end Go.Proofs.YthfdnlcalefjeaaDoor

/- answer: Stream. -/
namespace Go.Proofs.YthfdnlcalefjeaaDoor
set_option linter.unusedVariables false
set_option linter.unusedSimpArgs false
open Go.RowKit Go.Shelf
set_option maxHeartbeats 8000000
set_option maxRecDepth 100000
theorem ans_Stream (b : Bool) (w : World) :
    Calls Tryd.prog 17 #[.bool b] w fun e w' => ∃ r, e = .returned r ∧ BRow w' r (Hp.stream b) ∧ Below w.heap.size w w' := by
  obtain ⟨A, hA⟩ : ∃ A, w.heap.size = A := ⟨_, rfl⟩
  have HAA := Lib.hid hA
  obtain ⟨W1, hW1⟩ : ∃ Z, w.alloc (.cells #[.string ⟨#[72, 84, 84, 80, 47, 49, 46, 49, 32, 50, 48, 48, 32, 79, 75]⟩, .slice none 0 0] 69) = Z := ⟨_, rfl⟩
  have HS1 := Lib.hid (show Stg w A ⟨Hp.ok200.toArray⟩ [] W1 by
    refine ⟨by rw [← hW1, ← hA]; simp, ⟨_, by unfold AnAt; rw [← hW1, ← hA]; exact World.alloc_heap_new _ _, World.ownsRow_nil _ _ _ _⟩, by rw [← hW1, ← hA]; exact (Below.refl _ _).alloc (Nat.le_refl _) _⟩)
  have HW1 := Lib.hid hW1
  have HZ1 := Lib.hid (show W1.heap.size = A + 1 by rw [← hW1, ← hA]; simp)
  clear hA hW1
  cases b with
  | true =>
    go_enter Tryd.func17, Tryd.ntmps17
    go_wp2_with fail
    rw [HW1.out, HAA.out, ← HZ1.out]
    refine (stg_put HS1.out [(Hp.ct, Hp.es), (Hp.cc, Hp.ns)] _ 4 rfl rfl (by simp)).mono ?_
    rintro e w6 ⟨rfl, hs6⟩
    have HS6 := Lib.hid hs6
    clear hs6
    go_wp2_with fail
    refine (stg_put HS6.out [(Hp.te, Hp.ch)] _ 2 rfl rfl (by simp)).mono ?_
    rintro e w7 ⟨rfl, hs7⟩
    have HS7 := Lib.hid (show Stg w A ⟨Hp.ok200.toArray⟩ (Hp.sfields true) w7 from hs7)
    clear hs7
    go_wp2_with fail
    refine (stg_told HS7.out (Hp.hok_stream true) (by decide) (by decide) (by decide)).mono ?_
    rintro e w9 ⟨v9, rfl, ⟨g, cap, rfl, h1, h2, h3, h4, h5⟩, hb9⟩
    have HF9 := Lib.hid (show BRow w9 (.slice (some ⟨g, 0, none⟩) (Hp.hbytes Hp.ok200 (Hp.sfields true)).length cap) (Hp.stream true) from ⟨_, cap, rfl, h3, .inr ⟨g, 0, rfl, fun j hj => by rw [Nat.zero_add]; exact h4 j hj⟩⟩)
    have HB9 := Lib.hid hb9
    clear h1 h2 h3 h4 h5 hb9
    go_wp2_with fail
    go_ret
    exact ⟨_, rfl, HF9.out, HAA.out ▸ HB9.out⟩
  | false =>
    go_enter Tryd.func17, Tryd.ntmps17
    go_wp2_with fail
    rw [HW1.out, HAA.out, ← HZ1.out]
    refine (stg_put HS1.out [(Hp.ct, Hp.es), (Hp.cc, Hp.ns)] _ 4 rfl rfl (by simp)).mono ?_
    rintro e w6 ⟨rfl, hs6⟩
    have HS6 := Lib.hid hs6
    clear hs6
    go_wp2_with fail
    refine (stg_put HS6.out [(Hp.cn, Hp.cs)] _ 2 rfl rfl (by simp)).mono ?_
    rintro e w7 ⟨rfl, hs7⟩
    have HS7 := Lib.hid (show Stg w A ⟨Hp.ok200.toArray⟩ (Hp.sfields false) w7 from hs7)
    clear hs7
    go_wp2_with fail
    refine (stg_told HS7.out (Hp.hok_stream false) (by decide) (by decide) (by decide)).mono ?_
    rintro e w9 ⟨v9, rfl, ⟨g, cap, rfl, h1, h2, h3, h4, h5⟩, hb9⟩
    have HF9 := Lib.hid (show BRow w9 (.slice (some ⟨g, 0, none⟩) (Hp.hbytes Hp.ok200 (Hp.sfields false)).length cap) (Hp.stream false) from ⟨_, cap, rfl, h3, .inr ⟨g, 0, rfl, fun j hj => by rw [Nat.zero_add]; exact h4 j hj⟩⟩)
    have HB9 := Lib.hid hb9
    clear h1 h2 h3 h4 h5 hb9
    go_wp2_with fail
    go_ret
    exact ⟨_, rfl, HF9.out, HAA.out ▸ HB9.out⟩
end Go.Proofs.YthfdnlcalefjeaaDoor

/- answer: Health. -/
namespace Go.Proofs.YthfdnlcalefjeaaDoor
set_option linter.unusedVariables false
set_option linter.unusedSimpArgs false
open Go.RowKit Go.Shelf
set_option maxHeartbeats 8000000
set_option maxRecDepth 100000
theorem ans_Health (t c : Int) (d : Bool) (w : World) (ht : -9223372036854775808 ≤ t ∧ t ≤ 9223372036854775807) (hc : -9223372036854775808 ≤ c ∧ c ≤ 9223372036854775807) (htb : Tabs w) :
    Calls Tryd.prog 15 #[.int .i64 t, .int .i64 c, .bool d] w fun e w' => AnOut w' (Hp.health t c d) e ∧ Below w.heap.size w w' := by
  have HTB := Lib.hid htb
  clear htb
  by_cases h1 : t < 0
  · have HPL := Lib.hid (show Hp.health t c d = none by unfold Hp.health; rw [if_pos (.inl h1)])
    go_enter Tryd.func15, Tryd.ntmps15
    go_wp2_with fail
    go_ret2
    exact ⟨by rw [HPL.out]; exact ⟨_, rfl, BRow.nil _⟩, Below.refl _ _⟩
  · by_cases h2 : c < 0
    · have HPL := Lib.hid (show Hp.health t c d = none by unfold Hp.health; rw [if_pos (.inr h2)])
      go_enter Tryd.func15, Tryd.ntmps15
      go_wp2_with fail
      go_ret2
      exact ⟨by rw [HPL.out]; exact ⟨_, rfl, BRow.nil _⟩, Below.refl _ _⟩
    · cases d with
      | true =>
        have HPL := Lib.hid (show Hp.health t c true = Hp.plain 503 Hp.drain by unfold Hp.health; rw [if_neg (by omega)]; rfl)
        have KP := Lib.hid (plain_any 503 ⟨#[100, 114, 97, 105, 110, 105, 110, 103]⟩ w (by omega) (by decide) HTB.out)
        rw [show (⟨#[100, 114, 97, 105, 110, 105, 110, 103]⟩ : ByteArray).data.toList = Hp.drain from rfl, ← HPL.out] at KP
        go_enter Tryd.func15, Tryd.ntmps15
        go_wp2_with fail
        refine KP.out.mono ?_
        rintro e w5 ⟨⟨v5, rfl, hv5⟩, hb5⟩
        have HV5 := Lib.hid hv5
        have HB5 := Lib.hid hb5
        clear hb5 hv5
        go_wp2_with fail
        go_ret2
        exact ⟨⟨_, rfl, HV5.out⟩, HB5.out⟩
      | false =>
        obtain ⟨m, rfl⟩ : ∃ m : Nat, t = (m : Int) := ⟨t.toNat, by omega⟩
        obtain ⟨k, rfl⟩ : ∃ m : Nat, c = (m : Int) := ⟨c.toNat, by omega⟩
        have HPL := Lib.hid (show Hp.health m k false = Hp.plain 200 ([111, 107, 32] ++ Dp.digs 10 m ++ 32 :: Dp.digs 10 k) by unfold Hp.health; rw [if_neg (by omega)]; simp)
        have KD := Lib.hid (fun W (h : Tabs W) => dec_text m W (by omega) h)
        have KE := Lib.hid (fun W (h : Tabs W) => dec_text k W (by omega) h)
        have hds := (show (⟨(Dp.digs 10 m).toArray⟩ : ByteArray).size = (Dp.digs 10 m).length by simp [ByteArray.size])
        have hls := (show (⟨(Dp.digs 10 k).toArray⟩ : ByteArray).size = (Dp.digs 10 k).length by simp [ByteArray.size])
        have hcat : ((⟨#[111, 107, 32]⟩ : ByteArray) ++ ⟨(Dp.digs 10 m).toArray⟩ ++ ⟨#[32]⟩ ++ ⟨(Dp.digs 10 k).toArray⟩).data.toList = [111, 107, 32] ++ Dp.digs 10 m ++ 32 :: Dp.digs 10 k := by simp
        obtain ⟨db, hdb⟩ : ∃ z : ByteArray, (⟨(Dp.digs 10 m).toArray⟩ : ByteArray) = z := ⟨_, rfl⟩
        obtain ⟨lb, hlb⟩ : ∃ z : ByteArray, (⟨(Dp.digs 10 k).toArray⟩ : ByteArray) = z := ⟨_, rfl⟩
        rw [hdb] at KD hds hcat
        rw [hlb] at KE hls hcat
        have hdl := digs_len64 m (by omega)
        have hdl2 := digs_len64 k (by omega)
        have hdb2 : db.size ≤ 20 := by omega
        have hlb2 : lb.size ≤ 20 := by omega
        obtain ⟨xb, hxb⟩ : ∃ z : ByteArray, (⟨#[111, 107, 32]⟩ : ByteArray) ++ db ++ ⟨#[32]⟩ ++ lb = z := ⟨_, rfl⟩
        have hxs : xb.size ≤ 1000 := by
          rw [← hxb, ByteArray.size_append, ByteArray.size_append, ByteArray.size_append]
          have h1 : (⟨#[32]⟩ : ByteArray).size = 1 := rfl
          have h2 : (⟨#[111, 107, 32]⟩ : ByteArray).size = 3 := rfl
          omega
        rw [hxb] at hcat
        have KP := Lib.hid (fun W (h : Tabs W) => plain_any 200 xb W (by omega) (by omega) h)
        rw [hcat, ← HPL.out] at KP
        clear hds hls hdb hlb hdl hdl2 hcat hxs
        go_enter Tryd.func15, Tryd.ntmps15
        go_wp2_with fail
        refine (KD.out w HTB.out).mono ?_
        rintro e w3 ⟨rfl, hb3⟩
        have HB3 := Lib.hid hb3
        clear hb3
        go_wp2_with fail
        refine (KE.out w3 (HTB.out.bel HB3.out)).mono ?_
        rintro e w4 ⟨rfl, hb4⟩
        have HB4 := Lib.hid (HB3.out.trans (hb4.mono HB3.out.size))
        clear hb4
        go_wp2_with fail
        refine (KP.out w4 (HTB.out.bel HB4.out)).mono ?_
        rintro e w5 ⟨⟨v5, rfl, hv5⟩, hb5⟩
        have HV5 := Lib.hid hv5
        have HB5 := Lib.hid (HB4.out.trans (hb5.mono HB4.out.size))
        clear hb5 hv5
        go_wp2_with fail
        go_ret2
        exact ⟨⟨_, rfl, HV5.out⟩, HB5.out⟩
end Go.Proofs.YthfdnlcalefjeaaDoor

/- The reference's refusals, health, stream. -/
namespace Go.Proofs.YthfdnlcalefjeaaDoor
set_option linter.unusedVariables false
set_option linter.unusedSimpArgs false
open Go.RowKit Go.Shelf
set_option maxHeartbeats 8000000
set_option maxRecDepth 100000
theorem ref_Refusal (n : Int) (w : World) (hn : -9223372036854775808 ≤ n ∧ n ≤ 9223372036854775807)  :
    Calls Tryd.prog 13 #[.int .i64 n] w fun e w' => e = .returned (RfOut (Hp.refusal n)) ∧ Below w.heap.size w w' := by
  have KR := Lib.hid (ref_Reason n w)
  obtain ⟨o, ho⟩ : ∃ o, Hp.reason n = o := ⟨_, rfl⟩
  rw [ho] at KR
  cases o with
  | none =>
    have HPL := Lib.hid (show Hp.refusal n = none by unfold Hp.refusal; rw [ho])
    unfold Hp.reaOut at KR
    clear ho
    go_enter Tryd.func13, Tryd.ntmps13
    go_wp2_with fail
    refine KR.out.mono ?_
    rintro e w2 ⟨rfl, hb2⟩
    have HB2 := Lib.hid hb2
    clear hb2
    go_wp2_with fail
    go_ret2
    exact ⟨by rw [HPL.out]; rfl, HB2.out⟩
  | some r =>
    have hok := Hp.reason_ok ho
    unfold Hp.reaOut Hp.sx at KR
    simp only at KR
    by_cases h2 : n = 200
    · have HPL := Lib.hid (show Hp.refusal n = none by unfold Hp.refusal; rw [ho]; simp only; rw [if_pos h2])
      have he : (n == 200) = true := beq_iff_eq.2 h2
      clear ho hok h2
      go_enter Tryd.func13, Tryd.ntmps13
      go_wp2_with fail
      refine KR.out.mono ?_
      rintro e w2 ⟨rfl, hb2⟩
      have HB2 := Lib.hid hb2
      clear hb2
      go_wp2_with fail
      go_ret2
      exact ⟨by rw [HPL.out]; rfl, HB2.out⟩
    · have he : (n == 200) = false := beq_eq_false_iff_ne.2 h2
      obtain ⟨m, rfl⟩ : ∃ m : Nat, n = (m : Int) := ⟨n.toNat, by omega⟩
      have hm1 : 200 ≤ m ∧ m ≤ 505 := by omega
      have HPL := Lib.hid (show Hp.refusal m = Hp.plain m (Dp.digs 10 m ++ 32 :: Tp.lower r) by unfold Hp.refusal; rw [ho]; simp only; rw [if_neg h2]; simp)
      have KD := Lib.hid (fun W => ref_text m (by omega) W)
      have hrd : (⟨r.toArray⟩ : ByteArray).data.toList = r := by simp
      have hrs := (show (⟨r.toArray⟩ : ByteArray).size = r.length by simp [ByteArray.size])
      have hds := (show (⟨(Dp.digs 10 m).toArray⟩ : ByteArray).size = (Dp.digs 10 m).length by simp [ByteArray.size])
      have hls := (show (⟨(Tp.lower r).toArray⟩ : ByteArray).size = r.length by simp [ByteArray.size, Tp.lower])
      have hcat : ((⟨(Dp.digs 10 m).toArray⟩ : ByteArray) ++ ⟨#[32]⟩ ++ ⟨(Tp.lower r).toArray⟩).data.toList = Dp.digs 10 m ++ 32 :: Tp.lower r := by simp
      obtain ⟨rb, hrb⟩ : ∃ z : ByteArray, (⟨r.toArray⟩ : ByteArray) = z := ⟨_, rfl⟩
      rw [hrb] at KR hrd hrs
      have KL := Lib.hid (fun W => rtk_lower rb W (by omega))
      rw [hrd] at KL
      obtain ⟨db, hdb⟩ : ∃ z : ByteArray, (⟨(Dp.digs 10 m).toArray⟩ : ByteArray) = z := ⟨_, rfl⟩
      obtain ⟨lb, hlb⟩ : ∃ z : ByteArray, (⟨(Tp.lower r).toArray⟩ : ByteArray) = z := ⟨_, rfl⟩
      rw [hdb] at KD hds hcat
      rw [hlb] at KL hls hcat
      have hdl := digs_len_le m
      have hdb2 : db.size ≤ 506 := by omega
      have hlb2 : lb.size ≤ 31 := by omega
      obtain ⟨xb, hxb⟩ : ∃ z : ByteArray, db ++ ⟨#[32]⟩ ++ lb = z := ⟨_, rfl⟩
      have hxs : xb.size ≤ 1000 := by
        rw [← hxb, ByteArray.size_append, ByteArray.size_append]
        have : (⟨#[32]⟩ : ByteArray).size = 1 := rfl
        omega
      rw [hxb] at hcat
      have KP := Lib.hid (fun W => ref_Plain m xb W (by omega) (by omega))
      rw [hcat, ← HPL.out] at KP
      unfold RfOut at KP
      clear ho hok h2 hrd hrs hds hls hrb hdb hlb hdl hcat hxs
      go_enter Tryd.func13, Tryd.ntmps13
      go_wp2_with fail
      refine KR.out.mono ?_
      rintro e w2 ⟨rfl, hb2⟩
      have HB2 := Lib.hid hb2
      clear hb2
      go_wp2_with fail
      refine (KD.out w2).mono ?_
      rintro e w3 ⟨rfl, hw3⟩
      subst hw3
      go_wp2_with fail
      refine (KL.out w2).mono ?_
      rintro e w4 ⟨rfl, hb4⟩
      have HB4 := Lib.hid (HB2.out.trans (hb4.mono HB2.out.size))
      clear hb4
      go_wp2_with fail
      refine (KP.out _).mono ?_
      rintro e w5 ⟨rfl, hb5⟩
      have HB5 := Lib.hid (HB4.out.trans (hb5.mono HB4.out.size))
      clear hb5
      go_wp2_with fail
      go_ret2
      exact ⟨rfl, HB5.out⟩
theorem ref_Health (t c : Int) (d : Bool) (w : World) (ht : -9223372036854775808 ≤ t ∧ t ≤ 9223372036854775807) (hc : -9223372036854775808 ≤ c ∧ c ≤ 9223372036854775807)  :
    Calls Tryd.prog 16 #[.int .i64 t, .int .i64 c, .bool d] w fun e w' => e = .returned (RfOut (Hp.health t c d)) ∧ Below w.heap.size w w' := by
  by_cases h1 : t < 0
  · have HPL := Lib.hid (show Hp.health t c d = none by unfold Hp.health; rw [if_pos (.inl h1)])
    go_enter Tryd.func16, Tryd.ntmps16
    go_wp2_with fail
    go_ret2
    exact ⟨by rw [HPL.out]; rfl, Below.refl _ _⟩
  · by_cases h2 : c < 0
    · have HPL := Lib.hid (show Hp.health t c d = none by unfold Hp.health; rw [if_pos (.inr h2)])
      go_enter Tryd.func16, Tryd.ntmps16
      go_wp2_with fail
      go_ret2
      exact ⟨by rw [HPL.out]; rfl, Below.refl _ _⟩
    · cases d with
      | true =>
        have HPL := Lib.hid (show Hp.health t c true = Hp.plain 503 Hp.drain by unfold Hp.health; rw [if_neg (by omega)]; rfl)
        have KP := Lib.hid (ref_Plain 503 ⟨#[100, 114, 97, 105, 110, 105, 110, 103]⟩ w (by omega) (by decide))
        rw [show (⟨#[100, 114, 97, 105, 110, 105, 110, 103]⟩ : ByteArray).data.toList = Hp.drain from rfl, ← HPL.out] at KP
        unfold RfOut at KP
        go_enter Tryd.func16, Tryd.ntmps16
        go_wp2_with fail
        refine KP.out.mono ?_
        rintro e w5 ⟨rfl, hb5⟩
        have HB5 := Lib.hid hb5
        clear hb5
        go_wp2_with fail
        go_ret2
        exact ⟨rfl, HB5.out⟩
      | false =>
        obtain ⟨m, rfl⟩ : ∃ m : Nat, t = (m : Int) := ⟨t.toNat, by omega⟩
        obtain ⟨k, rfl⟩ : ∃ m : Nat, c = (m : Int) := ⟨c.toNat, by omega⟩
        have HPL := Lib.hid (show Hp.health m k false = Hp.plain 200 ([111, 107, 32] ++ Dp.digs 10 m ++ 32 :: Dp.digs 10 k) by unfold Hp.health; rw [if_neg (by omega)]; simp)
        have KD := Lib.hid (fun W => ref_text m (by omega) W)
        have KE := Lib.hid (fun W => ref_text k (by omega) W)
        have hds := (show (⟨(Dp.digs 10 m).toArray⟩ : ByteArray).size = (Dp.digs 10 m).length by simp [ByteArray.size])
        have hls := (show (⟨(Dp.digs 10 k).toArray⟩ : ByteArray).size = (Dp.digs 10 k).length by simp [ByteArray.size])
        have hcat : ((⟨#[111, 107, 32]⟩ : ByteArray) ++ ⟨(Dp.digs 10 m).toArray⟩ ++ ⟨#[32]⟩ ++ ⟨(Dp.digs 10 k).toArray⟩).data.toList = [111, 107, 32] ++ Dp.digs 10 m ++ 32 :: Dp.digs 10 k := by simp
        obtain ⟨db, hdb⟩ : ∃ z : ByteArray, (⟨(Dp.digs 10 m).toArray⟩ : ByteArray) = z := ⟨_, rfl⟩
        obtain ⟨lb, hlb⟩ : ∃ z : ByteArray, (⟨(Dp.digs 10 k).toArray⟩ : ByteArray) = z := ⟨_, rfl⟩
        rw [hdb] at KD hds hcat
        rw [hlb] at KE hls hcat
        have hdl := digs_len64 m (by omega)
        have hdl2 := digs_len64 k (by omega)
        have hdb2 : db.size ≤ 20 := by omega
        have hlb2 : lb.size ≤ 20 := by omega
        obtain ⟨xb, hxb⟩ : ∃ z : ByteArray, (⟨#[111, 107, 32]⟩ : ByteArray) ++ db ++ ⟨#[32]⟩ ++ lb = z := ⟨_, rfl⟩
        have hxs : xb.size ≤ 1000 := by
          rw [← hxb, ByteArray.size_append, ByteArray.size_append, ByteArray.size_append]
          have h1 : (⟨#[32]⟩ : ByteArray).size = 1 := rfl
          have h2 : (⟨#[111, 107, 32]⟩ : ByteArray).size = 3 := rfl
          omega
        rw [hxb] at hcat
        have KP := Lib.hid (fun W => ref_Plain 200 xb W (by omega) (by omega))
        rw [hcat, ← HPL.out] at KP
        unfold RfOut at KP
        clear hds hls hdb hlb hdl hdl2 hcat hxs
        go_enter Tryd.func16, Tryd.ntmps16
        go_wp2_with fail
        refine (KD.out w).mono ?_
        rintro e w3 ⟨rfl, hw3⟩
        subst hw3
        go_wp2_with fail
        refine (KE.out w).mono ?_
        rintro e w4 ⟨rfl, hw4⟩
        subst hw4
        go_wp2_with fail
        refine (KP.out _).mono ?_
        rintro e w5 ⟨rfl, hb5⟩
        have HB5 := Lib.hid hb5
        clear hb5
        go_wp2_with fail
        go_ret2
        exact ⟨rfl, HB5.out⟩
end Go.Proofs.YthfdnlcalefjeaaDoor

/- The reference's stream. -/
namespace Go.Proofs.YthfdnlcalefjeaaDoor
set_option linter.unusedVariables false
set_option linter.unusedSimpArgs false
open Go.RowKit Go.Shelf
set_option maxHeartbeats 8000000
set_option maxRecDepth 100000
theorem hs_six (w : World) (G : Nat) (cs : Array Value) (fs : List Hp.Hd) (hG : w.heap[G]? = some (.cells cs 74 (0, 0))) (hc : cs = (hds fs).toArray) (n : Nat) (hn : n = fs.length) : HS w (.slice (some ⟨G, 0, none⟩) n n) fs := by
  subst hn
  refine .inr ⟨G, 0, fs.length, rfl, fun j hj => ?_⟩
  obtain ⟨h1, h2⟩ := hds_get fs j hj
  rw [Nat.zero_add]
  subst hc
  constructor
  · simp only [World.cell?, hG, List.getElem?_toArray, h1]; rfl
  · simp only [World.cell?, hG, List.getElem?_toArray, h2]; rfl
theorem ref_stream0 (w : World) :
    Calls Tryd.prog 18 #[.bool false] w fun e w' => e = .returned (.string ⟨(Hp.stream false).toArray⟩) ∧ Below w.heap.size w w' := by
  obtain ⟨G, hG⟩ : ∃ G, w.heap.size = G := ⟨_, rfl⟩
  obtain ⟨W2, hW2⟩ : ∃ Z, (w.alloc (.cells #[.string ⟨#[99, 111, 110, 116, 101, 110, 116, 45, 116, 121, 112, 101]⟩, .string ⟨#[116, 101, 120, 116, 47, 101, 118, 101, 110, 116, 45, 115, 116, 114, 101, 97, 109]⟩, .string ⟨#[99, 97, 99, 104, 101, 45, 99, 111, 110, 116, 114, 111, 108]⟩, .string ⟨#[110, 111, 45, 115, 116, 111, 114, 101]⟩, .string ⟨#[99, 111, 110, 110, 101, 99, 116, 105, 111, 110]⟩, .string ⟨#[99, 108, 111, 115, 101]⟩] 74)).alloc (.cells #[.string ⟨#[72, 84, 84, 80, 47, 49, 46, 49, 32, 50, 48, 48, 32, 79, 75]⟩, .slice (some ⟨w.heap.size, 0, none⟩) 3 3] 45) = Z := ⟨_, rfl⟩
  have hG2 : W2.heap[G]? = some (.cells #[.string ⟨#[99, 111, 110, 116, 101, 110, 116, 45, 116, 121, 112, 101]⟩, .string ⟨#[116, 101, 120, 116, 47, 101, 118, 101, 110, 116, 45, 115, 116, 114, 101, 97, 109]⟩, .string ⟨#[99, 97, 99, 104, 101, 45, 99, 111, 110, 116, 114, 111, 108]⟩, .string ⟨#[110, 111, 45, 115, 116, 111, 114, 101]⟩, .string ⟨#[99, 111, 110, 110, 101, 99, 116, 105, 111, 110]⟩, .string ⟨#[99, 108, 111, 115, 101]⟩] 74 (0, 0)) := by
    rw [← hW2, ← hG, Below.heap_alloc _ _ _ (by simp)]; exact World.alloc_heap_new _ _
  have HB2 := Lib.hid (show Below w.heap.size w W2 by rw [← hW2]; exact ((Below.refl _ _).alloc (Nat.le_refl _) _).alloc (by simp) _)
  have K := Lib.hid (ref_Bytes Hp.ok200 _ (Hp.sfields false) W2 (hs_six W2 G _ (Hp.sfields false) hG2 rfl 3 rfl) (by decide) (by decide) (by decide))
  have HGG := Lib.hid hG
  have HW2 := Lib.hid hW2
  clear hG hW2 hG2
  go_enter Tryd.func18, Tryd.ntmps18
  go_wp2_with fail
  rw [HW2.out, HGG.out]
  refine K.out.mono ?_
  rintro e w3 ⟨rfl, hb3⟩
  have HB3 := Lib.hid (HB2.out.trans (hb3.mono HB2.out.size))
  clear hb3
  go_wp2_with fail
  go_ret
  exact ⟨rfl, HB3.out⟩
theorem ref_stream1 (w : World) :
    Calls Tryd.prog 18 #[.bool true] w fun e w' => e = .returned (.string ⟨(Hp.stream true).toArray⟩) ∧ Below w.heap.size w w' := by
  obtain ⟨G, hG⟩ : ∃ G, w.heap.size = G := ⟨_, rfl⟩
  obtain ⟨W2, hW2⟩ : ∃ Z, (w.alloc (.cells #[.string ⟨#[99, 111, 110, 116, 101, 110, 116, 45, 116, 121, 112, 101]⟩, .string ⟨#[116, 101, 120, 116, 47, 101, 118, 101, 110, 116, 45, 115, 116, 114, 101, 97, 109]⟩, .string ⟨#[99, 97, 99, 104, 101, 45, 99, 111, 110, 116, 114, 111, 108]⟩, .string ⟨#[110, 111, 45, 115, 116, 111, 114, 101]⟩, .string ⟨#[116, 114, 97, 110, 115, 102, 101, 114, 45, 101, 110, 99, 111, 100, 105, 110, 103]⟩, .string ⟨#[99, 104, 117, 110, 107, 101, 100]⟩] 74)).alloc (.cells #[.string ⟨#[72, 84, 84, 80, 47, 49, 46, 49, 32, 50, 48, 48, 32, 79, 75]⟩, .slice (some ⟨w.heap.size, 0, none⟩) 3 3] 45) = Z := ⟨_, rfl⟩
  have hG2 : W2.heap[G]? = some (.cells #[.string ⟨#[99, 111, 110, 116, 101, 110, 116, 45, 116, 121, 112, 101]⟩, .string ⟨#[116, 101, 120, 116, 47, 101, 118, 101, 110, 116, 45, 115, 116, 114, 101, 97, 109]⟩, .string ⟨#[99, 97, 99, 104, 101, 45, 99, 111, 110, 116, 114, 111, 108]⟩, .string ⟨#[110, 111, 45, 115, 116, 111, 114, 101]⟩, .string ⟨#[116, 114, 97, 110, 115, 102, 101, 114, 45, 101, 110, 99, 111, 100, 105, 110, 103]⟩, .string ⟨#[99, 104, 117, 110, 107, 101, 100]⟩] 74 (0, 0)) := by
    rw [← hW2, ← hG, Below.heap_alloc _ _ _ (by simp)]; exact World.alloc_heap_new _ _
  have HB2 := Lib.hid (show Below w.heap.size w W2 by rw [← hW2]; exact ((Below.refl _ _).alloc (Nat.le_refl _) _).alloc (by simp) _)
  have K := Lib.hid (ref_Bytes Hp.ok200 _ (Hp.sfields true) W2 (hs_six W2 G _ (Hp.sfields true) hG2 rfl 3 rfl) (by decide) (by decide) (by decide))
  have HGG := Lib.hid hG
  have HW2 := Lib.hid hW2
  clear hG hW2 hG2
  go_enter Tryd.func18, Tryd.ntmps18
  go_wp2_with fail
  rw [HW2.out, HGG.out]
  refine K.out.mono ?_
  rintro e w3 ⟨rfl, hb3⟩
  have HB3 := Lib.hid (HB2.out.trans (hb3.mono HB2.out.size))
  clear hb3
  go_wp2_with fail
  go_ret
  exact ⟨rfl, HB3.out⟩
theorem ref_Stream (b : Bool) (w : World) :
    Calls Tryd.prog 18 #[.bool b] w fun e w' => e = .returned (.string ⟨(Hp.stream b).toArray⟩) ∧ Below w.heap.size w w' := by
  cases b
  · exact ref_stream0 w
  · exact ref_stream1 w
end Go.Proofs.YthfdnlcalefjeaaDoor

/- The law's num and works. -/
namespace Go.Proofs.YthfdnlcalefjeaaDoor
set_option linter.unusedVariables false
set_option linter.unusedSimpArgs false
open Go.RowKit Go.Shelf
set_option maxHeartbeats 8000000
set_option maxRecDepth 100000
theorem an_num (n : Int) (w : World) (h : -9223372036854775808 ≤ n ∧ n ≤ 9223372036854775807) :
    Calls Tryd.prog 14 #[.int .i64 n] w fun e w' => e = .returned (.int .i64 n) ∧ w' = w := by
  go_enter Tryd.func14, Tryd.ntmps14
  go_wp2
  go_ret
  exact ⟨rfl, rfl⟩
namespace Hp
theorem d405 : Dp.digs 10 405 = [52, 48, 53] := by
  have h1 : Dp.digs 10 405 = Dp.digs 10 40 ++ [Dp.dg 5] := Dp.digs_ge (by omega) (by omega)
  have h2 : Dp.digs 10 40 = Dp.digs 10 4 ++ [Dp.dg 0] := Dp.digs_ge (by omega) (by omega)
  rw [h1, h2, Dp.digs_lt (by omega)]; rfl
theorem d23 : Dp.digs 10 23 = [50, 51] := by
  have h1 : Dp.digs 10 23 = Dp.digs 10 2 ++ [Dp.dg 3] := Dp.digs_ge (by omega) (by omega)
  rw [h1, Dp.digs_lt (by omega)]; rfl
def body405 : List UInt8 := [72, 84, 84, 80, 47, 49, 46, 49, 32, 52, 48, 53, 32, 77, 101, 116, 104, 111, 100, 32, 78, 111, 116, 32, 65, 108, 108, 111, 119, 101, 100, 13, 10, 99, 111, 110, 116, 101, 110, 116, 45, 116, 121, 112, 101, 58, 32, 116, 101, 120, 116, 47, 112, 108, 97, 105, 110, 13, 10, 99, 111, 110, 116, 101, 110, 116, 45, 108, 101, 110, 103, 116, 104, 58, 32, 50, 51, 13, 10, 97, 108, 108, 111, 119, 58, 32, 71, 69, 84, 13, 10, 99, 111, 110, 110, 101, 99, 116, 105, 111, 110, 58, 32, 99, 108, 111, 115, 101, 13, 10, 13, 10, 52, 48, 53, 32, 109, 101, 116, 104, 111, 100, 32, 110, 111, 116, 32, 97, 108, 108, 111, 119, 101, 100, 10]
theorem r405 : reason 405 = some [77, 101, 116, 104, 111, 100, 32, 78, 111, 116, 32, 65, 108, 108, 111, 119, 101, 100] := by decide +kernel
theorem refusal405 : refusal 405 = some body405 := by
  have h2 : Dp.digs 10 (405 : Int).toNat ++ 32 :: Tp.lower [77, 101, 116, 104, 111, 100, 32, 78, 111, 116, 32, 65, 108, 108, 111, 119, 101, 100] = [52, 48, 53, 32, 109, 101, 116, 104, 111, 100, 32, 110, 111, 116, 32, 97, 108, 108, 111, 119, 101, 100] := by
    rw [show (405 : Int).toNat = 405 from rfl, d405]; decide +kernel
  have h1 : refusal 405 = plain 405 (Dp.digs 10 (405 : Int).toNat ++ 32 :: Tp.lower [77, 101, 116, 104, 111, 100, 32, 78, 111, 116, 32, 65, 108, 108, 111, 119, 101, 100]) := by
    unfold refusal; rw [r405]; rfl
  rw [h1, h2]
  unfold plain
  rw [r405]
  simp only
  rw [if_pos (by decide)]
  unfold first fields
  rw [show (405 : Int).toNat = 405 from rfl, d405, show ([52, 48, 53, 32, 109, 101, 116, 104, 111, 100, 32, 110, 111, 116, 32, 97, 108, 108, 111, 119, 101, 100] : List UInt8).length + 1 = 23 from rfl, d23]
  decide +kernel
theorem r404 : reason 404 = some [78, 111, 116, 32, 70, 111, 117, 110, 100] := by decide +kernel
theorem r418 : reason 418 = none := by decide +kernel
theorem refusal200 : refusal 200 = none := by
  unfold refusal
  rw [show reason 200 = some [79, 75] by decide +kernel]; rfl
end Hp
theorem an_works (w : World) (ht : Tabs w) :
    Calls Tryd.prog 7 #[] w fun e w' => e = .returned (.bool true) ∧ Below w.heap.size w w' := by
  have HT := Lib.hid ht
  have HN := Lib.hid an_num
  have K1 := Lib.hid (fun W => ans_Reason 404 W)
  have K2 := Lib.hid (fun W => ans_Reason 418 W)
  have K3 := Lib.hid (fun W (h : Tabs W) => ans_Refusal 200 W (by omega) h)
  have K4 := Lib.hid (fun W (h : Tabs W) => ans_Refusal 405 W (by omega) h)
  rw [Hp.r404] at K1
  rw [Hp.r418] at K2
  rw [Hp.refusal200] at K3
  rw [Hp.refusal405] at K4
  unfold Hp.reaOut at K1 K2
  unfold Hp.sx at K1
  simp only at K1 K2
  clear ht
  go_enter Tryd.func7, Tryd.ntmps7
  go_wp2_with fail
  refine (K1.out w).mono ?_
  rintro e w1 ⟨rfl, hb1⟩
  have HB1 := Lib.hid hb1
  clear hb1
  go_wp2_with fail
  refine (K2.out w1).mono ?_
  rintro e w2 ⟨rfl, hb2⟩
  have HB2 := Lib.hid (HB1.out.trans (hb2.mono HB1.out.size))
  clear hb2
  go_wp2_with fail
  refine (K3.out w2 (HT.out.bel HB2.out)).mono ?_
  rintro e w3 ⟨⟨v3, rfl, hv3⟩, hb3⟩
  have HB3 := Lib.hid (HB2.out.trans (hb3.mono HB2.out.size))
  clear hb3 hv3
  unfold erOf
  simp only [Option.isSome_none, Bool.false_eq_true, if_false]
  go_wp2_with fail
  refine (K4.out w3 (HT.out.bel HB3.out)).mono ?_
  rintro e w4 ⟨⟨v4, rfl, hv4⟩, hb4⟩
  have HB4 := Lib.hid (HB3.out.trans (hb4.mono HB3.out.size))
  have hcv := conv_brow hv4
  simp only [Option.getD_some] at hcv
  clear hb4 hv4
  unfold erOf
  simp only [Option.isSome_some, if_true]
  go_wp2_with fail
  refine (HN.out 0 _ (by omega)).mono ?_
  rintro e w5 ⟨rfl, hw5⟩
  subst w5
  go_wp2_with fail
  refine (HN.out 0 _ (by omega)).mono ?_
  rintro e w5 ⟨rfl, hw5⟩
  subst w5
  go_wp2_with fail
  refine (HN.out 2 _ (by omega)).mono ?_
  rintro e w5 ⟨rfl, hw5⟩
  subst w5
  go_wp2_with fail
  refine (HN.out 2 _ (by omega)).mono ?_
  rintro e w5 ⟨rfl, hw5⟩
  subst w5
  go_wp2_with fail
  go_ret
  refine ⟨?_, HB4.out⟩
  show Ending.returned (.bool (Hp.body405 == Hp.body405)) = _
  rw [beq_self_eq_true]
end Go.Proofs.YthfdnlcalefjeaaDoor

/- AnswerPlain returns true for any status and any text: the walk. The tables of the library read as they are laid. -/
namespace Go.Proofs.YthfdnlcalefjeaaDoor
set_option linter.unusedVariables false
set_option linter.unusedSimpArgs false
open Go.RowKit Go.Shelf
set_option maxHeartbeats 8000000
set_option maxRecDepth 100000
theorem er_range (o : Option (List UInt8)) : -9223372036854775808 ≤ erOf o ∧ erOf o ≤ 9223372036854775807 := by
  unfold erOf; split <;> omega
theorem rea_form (o : Option (List UInt8)) : ∃ (x : ByteArray) (n : Int), Hp.reaOut o = .tuple #[.string x, .int .i64 n] ∧ -9223372036854775808 ≤ n ∧ n ≤ 9223372036854775807 := by
  cases o with
  | none => exact ⟨_, _, rfl, by omega, by omega⟩
  | some r => exact ⟨_, _, rfl, by omega, by omega⟩
theorem walkAP (n : Int) (text : ByteArray) (w : World) (hn : (Lit.int .i64 n).wf = true) (hs : text.size ≤ maxLen) (ht : Tabs w) :
    Calls Tryd.prog 3 #[.int .i64 n, .string text] w fun e w' => e = .returned (.bool true) ∧ Below w.heap.size w w' := by
  have hn2 : -9223372036854775808 ≤ n ∧ n ≤ 9223372036854775807 := by simpa [Lit.wf, IntKind.min, IntKind.max, IntKind.signed, IntKind.bits] using hn
  have hs2 : text.size ≤ 9223372036854775807 := hs
  have HT := Lib.hid ht
  have WK := Lib.hid (fun W (h : Tabs W) => an_works W h)
  have HN := Lib.hid an_num
  clear ht hs
  by_cases hl : text.size ≤ 1100
  · have K1 := Lib.hid (fun W => ans_Reason n W)
    have K2 := Lib.hid (fun W (h : Tabs W) => plain_any n text W hn2 hs2 h)
    have K3 := Lib.hid (fun W (h : Tabs W) => ans_Refusal n W hn2 h)
    have K4 := Lib.hid (fun W => ref_Reason n W)
    have K5 := Lib.hid (fun W => ref_Plain n text W hn2 hs2)
    have K6 := Lib.hid (fun W => ref_Refusal n W hn2)
    unfold RfOut Hp.sx at K5 K6
    obtain ⟨x1, n1, hr, hr1, hr2⟩ := rea_form (Hp.reason n)
    rw [hr] at K1 K4
    have hp := er_range (Hp.plain n text.data.toList)
    have hq := er_range (Hp.refusal n)
    obtain ⟨o2, ho2⟩ : ∃ o, Hp.plain n text.data.toList = o := ⟨_, rfl⟩
    obtain ⟨o3, ho3⟩ : ∃ o, Hp.refusal n = o := ⟨_, rfl⟩
    rw [ho2] at K2 K5 hp
    rw [ho3] at K3 K6 hq
    unfold AnOut at K2 K3
    obtain ⟨n2, hn2'⟩ : ∃ z, erOf o2 = z := ⟨_, rfl⟩
    obtain ⟨n3, hn3'⟩ : ∃ z, erOf o3 = z := ⟨_, rfl⟩
    rw [hn2'] at K2 K5 hp
    rw [hn3'] at K3 K6 hq
    obtain ⟨l2, hl2⟩ : ∃ z, o2.getD [] = z := ⟨_, rfl⟩
    obtain ⟨l3, hl3⟩ : ∃ z, o3.getD [] = z := ⟨_, rfl⟩
    rw [hl2] at K2 K5
    rw [hl3] at K3 K6
    have HP := Lib.hid hp
    have HQ := Lib.hid hq
    have HR := Lib.hid (And.intro hr1 hr2)
    have e1 : (x1.toList == x1.toList) = true := beq_self_eq_true _
    have e2 : (n1 == n1) = true := beq_self_eq_true _
    have e3 : (n2 == n2) = true := beq_self_eq_true _
    have e4 : (n3 == n3) = true := beq_self_eq_true _
    have e5 : (l2 == l2) = true := beq_self_eq_true _
    have e6 : (l3 == l3) = true := beq_self_eq_true _
    clear hr hr1 hr2 hp hq ho2 ho3 hn2' hn3' hl2 hl3
    go_enter Tryd.func3, Tryd.ntmps3
    go_wp2_with fail
    refine (K1.out w).mono ?_
    rintro e w1 ⟨rfl, hb1⟩
    have HB1 := Lib.hid hb1
    clear hb1
    go_wp2_with fail
    refine (K2.out w1 (HT.out.bel HB1.out)).mono ?_
    rintro e w2 ⟨⟨v2, rfl, hv2⟩, hb2⟩
    have HB2 := Lib.hid (HB1.out.trans (hb2.mono HB1.out.size))
    have HV2 := Lib.hid hv2
    clear hb2 hv2
    go_wp2_with fail
    refine (K3.out w2 (HT.out.bel HB2.out)).mono ?_
    rintro e w3 ⟨⟨v3, rfl, hv3⟩, hb3⟩
    have HB3 := Lib.hid (HB2.out.trans (hb3.mono HB2.out.size))
    have HV3 := Lib.hid hv3
    have HC3 := Lib.hid hb3
    clear hb3 hv3
    go_wp2_with fail
    refine (K4.out w3).mono ?_
    rintro e w4 ⟨rfl, hb4⟩
    have HB4 := Lib.hid (HB3.out.trans (hb4.mono HB3.out.size))
    have HC4 := Lib.hid hb4
    clear hb4
    go_wp2_with fail
    refine (K5.out w4).mono ?_
    rintro e w5 ⟨rfl, hb5⟩
    have HB5 := Lib.hid (HB4.out.trans (hb5.mono HB4.out.size))
    have HC5 := Lib.hid (HC4.out.trans (hb5.mono HC4.out.size))
    clear hb5
    go_wp2_with fail
    refine (K6.out w5).mono ?_
    rintro e w6 ⟨rfl, hb6⟩
    have HB6 := Lib.hid (HB5.out.trans (hb6.mono HB5.out.size))
    have hv3 := HV3.out.below (HC5.out.trans (hb6.mono HC5.out.size))
    have hv2 := (HV2.out.below HC3.out).below (HC5.out.trans (hb6.mono HC5.out.size))
    have hcv2 := conv_brow hv2
    have hcv3 := conv_brow hv3
    clear hb6 hv2 hv3
    go_wp2_with fail
    refine (HN.out n1 _ HR.out).mono ?_
    rintro e w7 ⟨rfl, hw7⟩
    subst w7
    go_wp2_with fail
    refine (HN.out n2 _ HP.out).mono ?_
    rintro e w7 ⟨rfl, hw7⟩
    subst w7
    go_wp2_with fail
    refine (HN.out n3 _ HQ.out).mono ?_
    rintro e w7 ⟨rfl, hw7⟩
    subst w7
    go_wp2_with fail
    refine (WK.out w6 (HT.out.bel HB6.out)).mono ?_
    rintro e w7 ⟨rfl, hb7⟩
    have HB7 := Lib.hid (HB6.out.trans (hb7.mono HB6.out.size))
    clear hb7
    go_wp2_with fail
    go_ret
    exact ⟨rfl, HB7.out⟩
  · go_enter Tryd.func3, Tryd.ntmps3
    go_wp2_with fail
    refine (WK.out w HT.out).mono ?_
    rintro e w1 ⟨rfl, b1⟩
    have HB1 := Lib.hid b1
    clear b1
    go_wp2
    go_ret
    exact ⟨rfl, HB1.out⟩
end Go.Proofs.YthfdnlcalefjeaaDoor

/- AnswerStream returns true for any input: the walk. The tables of the library read as they are laid. -/
namespace Go.Proofs.YthfdnlcalefjeaaDoor
set_option linter.unusedVariables false
set_option linter.unusedSimpArgs false
open Go.RowKit Go.Shelf
set_option maxHeartbeats 8000000
set_option maxRecDepth 100000
theorem rg_call0 {P : Program} {o : Oper} {a : Act} {w : World} {K : Act → World → Prop} {Q : Exit → Act → World → Prop} (k : Nat) (ty : Array TypeId) (R : Ending → World → Prop) (ho : o.op = Op.call { callee := .value (.func k), args := #[], argTypes := ty })
    (eg : ∀ args w, (callFunc k args).run P w = .ok (.enter k args) w) (hc : Calls P k #[] w R) (hR : ∀ e w', R e w' → ∃ r, e = .returned r ∧ K (a.put o.dst r) w') : o.wp P a w K Q := by
  have e2 : a.eval (.func k) = .func (.func k) #[] #[] := rfl
  unfold Oper.wp execOp
  simp [ho, resolve, invoke, e2, eg, go_sem]
  refine hc.mono ?_
  intro z w' hz
  obtain ⟨r, rfl, hk⟩ := hR z w' hz
  exact hk
def asF (b : Bool) (lb : List UInt8) (xb yb : ByteArray) (v9 : Value) (n : Int) : Nat → World → Value → Prop
  | 0, _, v => v = .bool b
  | 1, w, v => BRow w v lb
  | 2, _, v => v = .string xb
  | 3, _, v => v = .bool b
  | 4, _, v => v = .string xb
  | 5, _, v => v = .bool true
  | 6, _, v => v = .bool true
  | 7, _, v => v = v9
  | 8, _, v => v = .string yb
  | 9, _, v => v = .string yb
  | 10, _, v => v = .bool true
  | 11, _, v => v = .bool true
  | 12, _, v => v = .bool true
  | 13, _, v => v = .int .i64 n
  | 14, _, v => v = .int .i64 n
  | 15, _, v => v = .int .i64 n
  | 16, _, v => v = .bool true
  | 17, _, v => v = .bool true
  | 18, _, v => v = .bool true
  | 19, _, v => v = .bool true
  | 20, _, v => v = .bool true
  | 21, _, v => v = .bool true
  | _, _, _ => False
theorem walkAS (b : Bool) (t c : Int) (d : Bool) (w : World) (ht : (Lit.int .i64 t).wf = true) (hc : (Lit.int .i64 c).wf = true) (htb : Tabs w) :
    Calls Tryd.prog 4 #[.bool b, .int .i64 t, .int .i64 c, .bool d] w fun e w' => e = .returned (.bool true) ∧ Below w.heap.size w w' := by
  have ht2 : -9223372036854775808 ≤ t ∧ t ≤ 9223372036854775807 := by simpa [Lit.wf, IntKind.min, IntKind.max, IntKind.signed, IntKind.bits] using ht
  have hc2 : -9223372036854775808 ≤ c ∧ c ≤ 9223372036854775807 := by simpa [Lit.wf, IntKind.min, IntKind.max, IntKind.signed, IntKind.bits] using hc
  have HT := Lib.hid htb
  have WK := Lib.hid (fun W (h : Tabs W) => an_works W h)
  have HN := Lib.hid an_num
  have KH := Lib.hid (ans_Health t c d w ht2 hc2 htb)
  have KI := Lib.hid (fun W => ref_Health t c d W ht2 hc2)
  have KS := Lib.hid (fun W => ans_Stream b W)
  have KF := Lib.hid (fun W => ref_Stream b W)
  unfold RfOut Hp.sx at KI
  obtain ⟨o2, ho2⟩ : ∃ o, Hp.health t c d = o := ⟨_, rfl⟩
  rw [ho2] at KH KI
  have hp := er_range o2
  unfold AnOut at KH
  obtain ⟨n, hn⟩ : ∃ z, erOf o2 = z := ⟨_, rfl⟩
  rw [hn] at KH KI hp
  obtain ⟨l2, hl2⟩ : ∃ z, o2.getD [] = z := ⟨_, rfl⟩
  rw [hl2] at KH KI
  obtain ⟨lb, hlb⟩ : ∃ z, Hp.stream b = z := ⟨_, rfl⟩
  rw [hlb] at KS KF
  obtain ⟨xb, hxb⟩ : ∃ z : ByteArray, (⟨lb.toArray⟩ : ByteArray) = z := ⟨_, rfl⟩
  obtain ⟨yb, hyb⟩ : ∃ z : ByteArray, (⟨l2.toArray⟩ : ByteArray) = z := ⟨_, rfl⟩
  rw [hxb] at KF
  rw [hyb] at KI
  have HXB := Lib.hid hxb
  have HYB := Lib.hid hyb
  have HR := Lib.hid hp
  clear htb ht hc ht2 hc2 ho2 hp hn hl2 hlb hxb hyb
  go_enter Tryd.func4, Tryd.ntmps4
  go_wp2_with fail
  refine KH.out.mono ?_
  rintro e w1 ⟨⟨v9, rfl, hv9⟩, hb1⟩
  have HB1 := Lib.hid hb1
  have HV1 := Lib.hid hv9
  clear hb1 hv9
  go_wp2_with fail
  refine (KI.out w1).mono ?_
  rintro e w2 ⟨rfl, hb2⟩
  have HV9 := Lib.hid (HV1.out.below hb2)
  have HB2 := Lib.hid (HB1.out.trans (hb2.mono HB1.out.size))
  have HT2 := Lib.hid (HT.out.bel HB2.out)
  clear hb2
  go_wp2_with fail
  refine region_slotsG (fun i => (if i = 21 then 8 else 27 + min i 20)) (asF b lb xb yb v9 n) (fun _ => true) (by kernel_rfl) (by kernel_rfl) (fun i => by show (if i = 21 then 8 else 27 + min i 20) < _; simp; split <;> omega) (fun i j hi hj h => by have hi : i < 22 := hi; have hj : j < 22 := hj; have h : (if i = 21 then 8 else 27 + min i 20) = (if j = 21 then 8 else 27 + min j 20) := h; split at h <;> split at h <;> omega) ?mono ?dst ?gu ?ng ?skip ?step ?done
  case mono =>
    intro i W W' v h hbw
    match i, h with
    | 0, h | 2, h | 3, h | 4, h | 5, h | 6, h | 7, h | 8, h | 9, h | 10, h | 11, h | 12, h | 13, h | 14, h | 15, h | 16, h | 17, h | 18, h | 19, h | 20, h | 21, h => exact h
    | 1, h => exact BRow.below h hbw
    | n + 22, h => exact h.elim
  case dst =>
    intro i o ho
    match i, ho with
    | 0, ho | 1, ho | 2, ho | 3, ho | 4, ho | 5, ho | 6, ho | 7, ho | 8, ho | 9, ho | 10, ho | 11, ho | 12, ho | 13, ho | 14, ho | 15, ho | 16, ho | 17, ho | 18, ho | 19, ho | 20, ho | 21, ho => cases ho; rfl
    | n + 22, ho => exact absurd ho (by simp)
  case gu =>
    intro i o g b ho hgd W v hv
    match i, ho with
    | 0, ho => cases ho; cases hgd
    | 1, ho => cases ho; cases hgd
    | 2, ho => cases ho; cases hgd
    | 3, ho => cases ho; cases hgd
    | 4, ho => cases ho; cases hgd
    | 5, ho => cases ho; cases hgd
    | 6, ho => cases ho; cases hgd
    | 7, ho => cases ho; cases hgd; exact hv
    | 8, ho => cases ho; cases hgd; exact hv
    | 9, ho => cases ho; cases hgd; exact hv
    | 10, ho => cases ho; cases hgd; exact hv
    | 11, ho => cases ho; cases hgd
    | 12, ho => cases ho; cases hgd
    | 13, ho => cases ho; cases hgd; exact hv
    | 14, ho => cases ho; cases hgd; exact hv
    | 15, ho => cases ho; cases hgd; exact hv
    | 16, ho => cases ho; cases hgd; exact hv
    | 17, ho => cases ho; cases hgd
    | 18, ho => cases ho; cases hgd
    | 19, ho => cases ho; cases hgd; exact hv
    | 20, ho => cases ho; cases hgd
    | 21, ho => cases ho; cases hgd
    | n + 22, ho => exact absurd ho (by simp)
  case ng =>
    intro i o ho hgd
    match i, ho with
    | 0, ho => cases ho; first | rfl | cases hgd
    | 1, ho => cases ho; first | rfl | cases hgd
    | 2, ho => cases ho; first | rfl | cases hgd
    | 3, ho => cases ho; first | rfl | cases hgd
    | 4, ho => cases ho; first | rfl | cases hgd
    | 5, ho => cases ho; first | rfl | cases hgd
    | 6, ho => cases ho; first | rfl | cases hgd
    | 7, ho => cases ho; first | rfl | cases hgd
    | 8, ho => cases ho; first | rfl | cases hgd
    | 9, ho => cases ho; first | rfl | cases hgd
    | 10, ho => cases ho; first | rfl | cases hgd
    | 11, ho => cases ho; first | rfl | cases hgd
    | 12, ho => cases ho; first | rfl | cases hgd
    | 13, ho => cases ho; first | rfl | cases hgd
    | 14, ho => cases ho; first | rfl | cases hgd
    | 15, ho => cases ho; first | rfl | cases hgd
    | 16, ho => cases ho; first | rfl | cases hgd
    | 17, ho => cases ho; first | rfl | cases hgd
    | 18, ho => cases ho; first | rfl | cases hgd
    | 19, ho => cases ho; first | rfl | cases hgd
    | 20, ho => cases ho; first | rfl | cases hgd
    | 21, ho => cases ho; first | rfl | cases hgd
    | n + 22, ho => exact absurd ho (by simp)
  case skip =>
    intro i W hi hsel
    match i, hi, hsel with
    | 0, _, hsel => first | exact absurd hsel (by decide) | rfl
    | 1, _, hsel => first | exact absurd hsel (by decide) | rfl
    | 2, _, hsel => first | exact absurd hsel (by decide) | rfl
    | 3, _, hsel => first | exact absurd hsel (by decide) | rfl
    | 4, _, hsel => first | exact absurd hsel (by decide) | rfl
    | 5, _, hsel => first | exact absurd hsel (by decide) | rfl
    | 6, _, hsel => first | exact absurd hsel (by decide) | rfl
    | 7, _, hsel => first | exact absurd hsel (by decide) | rfl
    | 8, _, hsel => first | exact absurd hsel (by decide) | rfl
    | 9, _, hsel => first | exact absurd hsel (by decide) | rfl
    | 10, _, hsel => first | exact absurd hsel (by decide) | rfl
    | 11, _, hsel => first | exact absurd hsel (by decide) | rfl
    | 12, _, hsel => first | exact absurd hsel (by decide) | rfl
    | 13, _, hsel => first | exact absurd hsel (by decide) | rfl
    | 14, _, hsel => first | exact absurd hsel (by decide) | rfl
    | 15, _, hsel => first | exact absurd hsel (by decide) | rfl
    | 16, _, hsel => first | exact absurd hsel (by decide) | rfl
    | 17, _, hsel => first | exact absurd hsel (by decide) | rfl
    | 18, _, hsel => first | exact absurd hsel (by decide) | rfl
    | 19, _, hsel => first | exact absurd hsel (by decide) | rfl
    | 20, _, hsel => first | exact absurd hsel (by decide) | rfl
    | 21, _, hsel => first | exact absurd hsel (by decide) | rfl
    | n + 22, hi, _ => exact absurd hi (by simp)
  case step =>
    intro f a' W i o ho hsel hpre hbel hrest
    match i, ho, hsel with
    | 0, ho, _ =>
      cases ho
      have q0 : a'.tmps.getD 0 undef = .bool b := (hrest 0 (by intro i hi; have hi : i < 22 := hi; show (if i = 21 then 8 else 27 + min i 20) ≠ _; split <;> omega))
      have e0 := rg_ev q0
      exact rg_same (.bool b) (by unfold Oper.wp execOp; go_simp; all_goals ((try simp only [e0]); (try go_simp); (try rw [if_pos (by omega)]); (try rw [if_neg (by omega)]); first | done | rfl | exact ⟨rfl, rfl⟩ | trivial)) rfl
    | 1, ho, _ =>
      cases ho
      have q27 : a'.tmps.getD 27 undef = .bool b := (hpre { on := 0, ground := .data } (by simp) rfl)
      exact rg_call 27 17 _ _ _ rfl q27 (enters_of Tryd.func17 (by kernel_rfl) rfl) (KS.out W) (fun e w' h => by obtain ⟨r, h1, h2, h3⟩ := h; exact ⟨r, h1, r, rfl, h2, h3⟩)
    | 2, ho, _ =>
      cases ho
      have h28 := hpre { on := 1, ground := .data } (by simp) rfl
      obtain ⟨z, hz⟩ : ∃ z, a'.tmps.getD 28 undef = z := ⟨_, rfl⟩
      have hcv := conv_brow (show BRow W z lb from hz ▸ h28)
      have e28 := rg_ev hz
      rw [HXB.out] at hcv
      exact rg_same (.string xb) (by unfold Oper.wp execOp; go_simp; all_goals ((try simp only [e28, hcv]); (try go_simp); first | done | rfl | exact ⟨rfl, rfl⟩ | trivial)) rfl
    | 3, ho, _ =>
      cases ho
      have q0 : a'.tmps.getD 0 undef = .bool b := (hrest 0 (by intro i hi; have hi : i < 22 := hi; show (if i = 21 then 8 else 27 + min i 20) ≠ _; split <;> omega))
      have e0 := rg_ev q0
      exact rg_same (.bool b) (by unfold Oper.wp execOp; go_simp; all_goals ((try simp only [e0]); (try go_simp); (try rw [if_pos (by omega)]); (try rw [if_neg (by omega)]); first | done | rfl | exact ⟨rfl, rfl⟩ | trivial)) rfl
    | 4, ho, _ =>
      cases ho
      have q30 : a'.tmps.getD 30 undef = .bool b := (hpre { on := 3, ground := .data } (by simp) rfl)
      exact rg_call 30 18 _ _ _ rfl q30 (enters_of Tryd.func18 (by kernel_rfl) rfl) (KF.out W) (fun e w' h => ⟨_, h.1, _, rfl, rfl, h.2⟩)
    | 5, ho, _ =>
      cases ho
      have q29 : a'.tmps.getD 29 undef = .string xb := (hpre { on := 2, ground := .data } (by simp) rfl)
      have q31 : a'.tmps.getD 31 undef = .string xb := (hpre { on := 4, ground := .data } (by simp) rfl)
      have hnn : (xb.toList == xb.toList) = true := beq_self_eq_true _
      have e29 := rg_ev q29
      have e31 := rg_ev q31
      exact rg_same (.bool true) (by unfold Oper.wp execOp; go_simp; all_goals ((try simp only [e29, e31]); (try go_simp); (try rw [if_pos (by omega)]); (try rw [if_neg (by omega)]); first | done | rfl | exact ⟨rfl, rfl⟩ | trivial)) rfl
    | 6, ho, _ =>
      cases ho
      have q32 : a'.tmps.getD 32 undef = .bool true := (hpre { on := 5, ground := .data } (by simp) rfl)
      have e32 := rg_ev q32
      exact rg_same (.bool true) (by unfold Oper.wp execOp; go_simp; all_goals ((try simp only [e32]); (try go_simp); (try rw [if_pos (by omega)]); (try rw [if_neg (by omega)]); first | done | rfl | exact ⟨rfl, rfl⟩ | trivial)) rfl
    | 7, ho, _ =>
      cases ho
      have q9 : a'.tmps.getD 9 undef = v9 := (hrest 9 (by intro i hi; have hi : i < 22 := hi; show (if i = 21 then 8 else 27 + min i 20) ≠ _; split <;> omega))
      have e9 := rg_ev q9
      exact rg_same (v9) (by unfold Oper.wp execOp; go_simp; all_goals ((try simp only [e9]); (try go_simp); (try rw [if_pos (by omega)]); (try rw [if_neg (by omega)]); first | done | rfl | exact ⟨rfl, rfl⟩ | trivial)) rfl
    | 8, ho, _ =>
      cases ho
      have q34 : a'.tmps.getD 34 undef = v9 := (hpre { on := 7, ground := .data } (by simp) rfl)
      have hcv := conv_brow (HV9.out.below hbel)
      have e34 := rg_ev q34
      rw [HYB.out] at hcv
      exact rg_same (.string yb) (by unfold Oper.wp execOp; go_simp; all_goals ((try simp only [e34, hcv]); (try go_simp); first | done | rfl | exact ⟨rfl, rfl⟩ | trivial)) rfl
    | 9, ho, _ =>
      cases ho
      have q11 : a'.tmps.getD 11 undef = .string yb := (hrest 11 (by intro i hi; have hi : i < 22 := hi; show (if i = 21 then 8 else 27 + min i 20) ≠ _; split <;> omega))
      have e11 := rg_ev q11
      exact rg_same (.string yb) (by unfold Oper.wp execOp; go_simp; all_goals ((try simp only [e11]); (try go_simp); (try rw [if_pos (by omega)]); (try rw [if_neg (by omega)]); first | done | rfl | exact ⟨rfl, rfl⟩ | trivial)) rfl
    | 10, ho, _ =>
      cases ho
      have q35 : a'.tmps.getD 35 undef = .string yb := (hpre { on := 8, ground := .data } (by simp) rfl)
      have q36 : a'.tmps.getD 36 undef = .string yb := (hpre { on := 9, ground := .data } (by simp) rfl)
      have hnn : (yb.toList == yb.toList) = true := beq_self_eq_true _
      have e35 := rg_ev q35
      have e36 := rg_ev q36
      exact rg_same (.bool true) (by unfold Oper.wp execOp; go_simp; all_goals ((try simp only [e35, e36]); (try go_simp); (try rw [if_pos (by omega)]); (try rw [if_neg (by omega)]); first | done | rfl | exact ⟨rfl, rfl⟩ | trivial)) rfl
    | 11, ho, _ =>
      cases ho
      have q33 : a'.tmps.getD 33 undef = .bool true := (hpre { on := 6, ground := .data } (by simp) rfl)
      have q37 : a'.tmps.getD 37 undef = .bool true := (hpre { on := 10, ground := .data } (by simp) rfl)
      have e33 := rg_ev q33
      have e37 := rg_ev q37
      exact rg_same (.bool true) (by unfold Oper.wp execOp; go_simp; all_goals ((try simp only [e33, e37]); (try go_simp); (try rw [if_pos (by omega)]); (try rw [if_neg (by omega)]); first | done | rfl | exact ⟨rfl, rfl⟩ | trivial)) rfl
    | 12, ho, _ =>
      cases ho
      have q38 : a'.tmps.getD 38 undef = .bool true := (hpre { on := 11, ground := .data } (by simp) rfl)
      have e38 := rg_ev q38
      exact rg_same (.bool true) (by unfold Oper.wp execOp; go_simp; all_goals ((try simp only [e38]); (try go_simp); (try rw [if_pos (by omega)]); (try rw [if_neg (by omega)]); first | done | rfl | exact ⟨rfl, rfl⟩ | trivial)) rfl
    | 13, ho, _ =>
      cases ho
      have q10 : a'.tmps.getD 10 undef = .int .i64 n := (hrest 10 (by intro i hi; have hi : i < 22 := hi; show (if i = 21 then 8 else 27 + min i 20) ≠ _; split <;> omega))
      have e10 := rg_ev q10
      exact rg_same (.int .i64 n) (by unfold Oper.wp execOp; go_simp; all_goals ((try simp only [e10]); (try go_simp); (try rw [if_pos (by omega)]); (try rw [if_neg (by omega)]); first | done | rfl | exact ⟨rfl, rfl⟩ | trivial)) rfl
    | 14, ho, _ =>
      cases ho
      have q40 : a'.tmps.getD 40 undef = .int .i64 n := (hpre { on := 13, ground := .data } (by simp) rfl)
      exact rg_call 40 14 _ _ _ rfl q40 (enters_of Tryd.func14 (by kernel_rfl) rfl) (HN.out n W HR.out) (fun e w' h => ⟨_, h.1, _, rfl, rfl, by rw [h.2]; exact Below.refl _ _⟩)
    | 15, ho, _ =>
      cases ho
      have q12 : a'.tmps.getD 12 undef = .int .i64 n := (hrest 12 (by intro i hi; have hi : i < 22 := hi; show (if i = 21 then 8 else 27 + min i 20) ≠ _; split <;> omega))
      have e12 := rg_ev q12
      exact rg_same (.int .i64 n) (by unfold Oper.wp execOp; go_simp; all_goals ((try simp only [e12]); (try go_simp); (try rw [if_pos (by omega)]); (try rw [if_neg (by omega)]); first | done | rfl | exact ⟨rfl, rfl⟩ | trivial)) rfl
    | 16, ho, _ =>
      cases ho
      have q41 : a'.tmps.getD 41 undef = .int .i64 n := (hpre { on := 14, ground := .data } (by simp) rfl)
      have q42 : a'.tmps.getD 42 undef = .int .i64 n := (hpre { on := 15, ground := .data } (by simp) rfl)
      have hnn : (n == n) = true := beq_self_eq_true _
      have e41 := rg_ev q41
      have e42 := rg_ev q42
      exact rg_same (.bool true) (by unfold Oper.wp execOp; go_simp; all_goals ((try simp only [e41, e42]); (try go_simp); (try rw [if_pos (by omega)]); (try rw [if_neg (by omega)]); first | done | rfl | exact ⟨rfl, rfl⟩ | trivial)) rfl
    | 17, ho, _ =>
      cases ho
      have q39 : a'.tmps.getD 39 undef = .bool true := (hpre { on := 12, ground := .data } (by simp) rfl)
      have q43 : a'.tmps.getD 43 undef = .bool true := (hpre { on := 16, ground := .data } (by simp) rfl)
      have e39 := rg_ev q39
      have e43 := rg_ev q43
      exact rg_same (.bool true) (by unfold Oper.wp execOp; go_simp; all_goals ((try simp only [e39, e43]); (try go_simp); (try rw [if_pos (by omega)]); (try rw [if_neg (by omega)]); first | done | rfl | exact ⟨rfl, rfl⟩ | trivial)) rfl
    | 18, ho, _ =>
      cases ho
      have q44 : a'.tmps.getD 44 undef = .bool true := (hpre { on := 17, ground := .data } (by simp) rfl)
      have e44 := rg_ev q44
      exact rg_same (.bool true) (by unfold Oper.wp execOp; go_simp; all_goals ((try simp only [e44]); (try go_simp); (try rw [if_pos (by omega)]); (try rw [if_neg (by omega)]); first | done | rfl | exact ⟨rfl, rfl⟩ | trivial)) rfl
    | 19, ho, _ =>
      cases ho
      exact rg_call0 7 _ _ rfl (enters_of Tryd.func7 (by kernel_rfl) rfl) (WK.out W (HT2.out.bel hbel)) (fun e w' h => ⟨_, h.1, _, rfl, rfl, h.2⟩)
    | 20, ho, _ =>
      cases ho
      have q45 : a'.tmps.getD 45 undef = .bool true := (hpre { on := 18, ground := .data } (by simp) rfl)
      have q46 : a'.tmps.getD 46 undef = .bool true := (hpre { on := 19, ground := .data } (by simp) rfl)
      have e45 := rg_ev q45
      have e46 := rg_ev q46
      exact rg_same (.bool true) (by unfold Oper.wp execOp; go_simp; all_goals ((try simp only [e45, e46]); (try go_simp); (try rw [if_pos (by omega)]); (try rw [if_neg (by omega)]); first | done | rfl | exact ⟨rfl, rfl⟩ | trivial)) rfl
    | 21, ho, _ =>
      cases ho
      have q47 : a'.tmps.getD 47 undef = .bool true := (hpre { on := 20, ground := .data } (by simp) rfl)
      have e47 := rg_ev q47
      exact rg_same (.bool true) (by unfold Oper.wp execOp; go_simp; all_goals ((try simp only [e47]); (try go_simp); (try rw [if_pos (by omega)]); (try rw [if_neg (by omega)]); first | done | rfl | exact ⟨rfl, rfl⟩ | trivial)) rfl
    | n + 22, ho, _ => exact absurd ho (by simp)
  case done =>
    intro vs W hbel hvs
    have v0 : vs 0 = .bool b := hvs 0 (by decide)
    obtain ⟨y1, v1⟩ : ∃ z, vs 1 = z := ⟨_, rfl⟩
    have v2 : vs 2 = .string xb := hvs 2 (by decide)
    have v3 : vs 3 = .bool b := hvs 3 (by decide)
    have v4 : vs 4 = .string xb := hvs 4 (by decide)
    have v5 : vs 5 = .bool true := hvs 5 (by decide)
    have v6 : vs 6 = .bool true := hvs 6 (by decide)
    have v7 : vs 7 = v9 := hvs 7 (by decide)
    have v8 : vs 8 = .string yb := hvs 8 (by decide)
    have v9 : vs 9 = .string yb := hvs 9 (by decide)
    have v10 : vs 10 = .bool true := hvs 10 (by decide)
    have v11 : vs 11 = .bool true := hvs 11 (by decide)
    have v12 : vs 12 = .bool true := hvs 12 (by decide)
    have v13 : vs 13 = .int .i64 n := hvs 13 (by decide)
    have v14 : vs 14 = .int .i64 n := hvs 14 (by decide)
    have v15 : vs 15 = .int .i64 n := hvs 15 (by decide)
    have v16 : vs 16 = .bool true := hvs 16 (by decide)
    have v17 : vs 17 = .bool true := hvs 17 (by decide)
    have v18 : vs 18 = .bool true := hvs 18 (by decide)
    have v19 : vs 19 = .bool true := hvs 19 (by decide)
    have v20 : vs 20 = .bool true := hvs 20 (by decide)
    have v21 : vs 21 = .bool true := hvs 21 (by decide)
    have HBR := Lib.hid hbel
    simp only [fillN, List.size_toArray, List.length_cons, List.length_nil, Nat.reduceAdd, show List.range 22 = [0, 1, 2, 3, 4, 5, 6, 7, 8, 9, 10, 11, 12, 13, 14, 15, 16, 17, 18, 19, 20, 21] from rfl, List.foldl_cons, List.foldl_nil, show (if 0 = 21 then 8 else 27 + min 0 20) = 27 from rfl, show (if 1 = 21 then 8 else 27 + min 1 20) = 28 from rfl, show (if 2 = 21 then 8 else 27 + min 2 20) = 29 from rfl, show (if 3 = 21 then 8 else 27 + min 3 20) = 30 from rfl, show (if 4 = 21 then 8 else 27 + min 4 20) = 31 from rfl, show (if 5 = 21 then 8 else 27 + min 5 20) = 32 from rfl, show (if 6 = 21 then 8 else 27 + min 6 20) = 33 from rfl, show (if 7 = 21 then 8 else 27 + min 7 20) = 34 from rfl, show (if 8 = 21 then 8 else 27 + min 8 20) = 35 from rfl, show (if 9 = 21 then 8 else 27 + min 9 20) = 36 from rfl, show (if 10 = 21 then 8 else 27 + min 10 20) = 37 from rfl, show (if 11 = 21 then 8 else 27 + min 11 20) = 38 from rfl, show (if 12 = 21 then 8 else 27 + min 12 20) = 39 from rfl, show (if 13 = 21 then 8 else 27 + min 13 20) = 40 from rfl, show (if 14 = 21 then 8 else 27 + min 14 20) = 41 from rfl, show (if 15 = 21 then 8 else 27 + min 15 20) = 42 from rfl, show (if 16 = 21 then 8 else 27 + min 16 20) = 43 from rfl, show (if 17 = 21 then 8 else 27 + min 17 20) = 44 from rfl, show (if 18 = 21 then 8 else 27 + min 18 20) = 45 from rfl, show (if 19 = 21 then 8 else 27 + min 19 20) = 46 from rfl, show (if 20 = 21 then 8 else 27 + min 20 20) = 47 from rfl, show (if 21 = 21 then 8 else 27 + min 21 20) = 8 from rfl, v0, v1, v2, v3, v4, v5, v6, v7, v8, v9, v10, v11, v12, v13, v14, v15, v16, v17, v18, v19, v20, v21]
    clear v0 v1 v2 v3 v4 v5 v6 v7 v8 v9 v10 v11 v12 v13 v14 v15 v16 v17 v18 v19 v20 v21 hvs hbel
    go_simp
    go_wp2_with fail
    go_ret
    exact ⟨rfl, HB2.out.trans (HBR.out.mono HB2.out.size)⟩
end Go.Proofs.YthfdnlcalefjeaaDoor

/- The reference's reader of heads, plain: what it makes of a head's bytes. -/
namespace Go.Proofs.YthfdnlcalefjeaaDoor
set_option linter.unusedVariables false
set_option linter.unusedSimpArgs false
namespace Hr
open Hp
/-- a reader -/
structure Rd where
  fst : List UInt8
  fs : List Hd
  line : List UInt8
  n : Nat
  cr : Bool
  done : Bool
  bad : Nat
def start : Rd := ⟨[], [], [], 0, false, false, 0⟩
def nameOf (s : List UInt8) : List UInt8 := s.takeWhile fun c => c != 58
def restOf (s : List UInt8) : List UInt8 := s.dropWhile fun c => c != 58
/-- a line ends -/
def ends (r : Rd) : Rd :=
  if r.line = [] then (if r.fst = [] then { r with line := [], cr := false, bad := 200 } else { r with line := [], cr := false, done := true })
  else if r.fst = [] then (if Tp.blankB (r.line.headD 0) then { r with line := [], cr := false, bad := 200 } else { r with line := [], cr := false, fst := r.line })
  else if 256 ≤ r.fs.length then { r with line := [], cr := false, bad := 201 }
  else if (restOf r.line).isEmpty then { r with line := [], cr := false, bad := 200 }
  else if Tp.isTok (nameOf r.line) then { r with line := [], cr := false, fs := r.fs ++ [(Tp.lower (nameOf r.line), Tp.trim ((restOf r.line).drop 1))] }
  else { r with line := [], cr := false, bad := 200 }
/-- a byte comes -/
def come (c : UInt8) (r : Rd) : Rd :=
  if 65536 < r.n + 1 then { r with n := r.n + 1, bad := 201 }
  else if r.cr = true ∧ c ≠ 10 then { r with n := r.n + 1, bad := 200 }
  else if r.cr = true then ends { r with n := r.n + 1 }
  else if c = 13 then { r with n := r.n + 1, cr := true }
  else if Tp.valB (c.toNat : Int) = false then { r with n := r.n + 1, bad := 200 }
  else if 8192 ≤ r.line.length then { r with n := r.n + 1, bad := 201 }
  else { r with n := r.n + 1, line := r.line ++ [c] }
def write : List UInt8 → Rd → Nat → Rd × Nat
  | [], r, i => (r, i)
  | c :: l, r, i => if r.done = true ∨ r.bad ≠ 0 then (r, i) else write l (come c r) (i + 1)
theorem line_read : ∀ (l rest : List UInt8) (r : Rd) (i : Nat), r.done = false → r.bad = 0 → r.cr = false → (∀ c ∈ l, Tp.valB (c.toNat : Int) = true) → r.n + l.length + 2 ≤ 65536 → r.line.length + l.length ≤ 8192 →
    write (l ++ 13 :: 10 :: rest) r i = write rest (ends { r with line := r.line ++ l, n := r.n + l.length + 2, cr := true }) (i + l.length + 2)
  | [], rest, r, i, hd, hb, hc, hv, hn, hl => by
    obtain ⟨f, fs, line, n, cr, done, bad⟩ := r
    simp only at hd hb hc hn hl
    subst hd hb hc
    have h1 : come 13 ⟨f, fs, line, n, false, false, 0⟩ = ⟨f, fs, line, n + 1, true, false, 0⟩ := by
      unfold come
      rw [if_neg (by simp at hn ⊢; omega), if_neg (by simp), if_neg (by simp), if_pos rfl]
    have h2 : come 10 ⟨f, fs, line, n + 1, true, false, 0⟩ = ends ⟨f, fs, line, n + 2, true, false, 0⟩ := by
      unfold come
      rw [if_neg (by simp at hn ⊢; omega), if_neg (by simp), if_pos rfl]
    show write (13 :: 10 :: rest) _ i = _
    rw [write, if_neg (by simp), h1, write, if_neg (by simp), h2]
    simp
  | c :: l, rest, r, i, hd, hb, hc, hv, hn, hl => by
    obtain ⟨f, fs, line, n, cr, done, bad⟩ := r
    simp only at hd hb hc hn hl
    subst hd hb hc
    have hvc := hv c List.mem_cons_self
    have hc13 : c ≠ 13 := by
      intro e; subst e
      revert hvc; decide
    simp only [List.length_cons] at hn hl
    have h1 : come c ⟨f, fs, line, n, false, false, 0⟩ = ⟨f, fs, line ++ [c], n + 1, false, false, 0⟩ := by
      unfold come
      rw [if_neg (by simp only; omega), if_neg (by simp), if_neg (by simp), if_neg hc13, if_neg (by rw [hvc]; decide), if_neg (by simp only; omega)]
    show write (c :: (l ++ 13 :: 10 :: rest)) _ i = _
    rw [write, if_neg (by simp), h1, line_read l rest _ (i + 1) rfl rfl rfl (fun d hd => hv d (List.mem_cons_of_mem _ hd)) (by simp only; omega) (by simp; omega)]
    simp only [List.length_cons, List.append_assoc, List.singleton_append]
    rw [show n + 1 + l.length + 2 = n + (l.length + 1) + 2 by omega, show i + 1 + l.length + 2 = i + (l.length + 1) + 2 by omega]
theorem tok_is : ∀ c : UInt8, Tp.tokB (c.toNat : Int) = true → c ≠ 58 ∧ Tp.valB (c.toNat : Int) = true := by
  have h : ∀ c : Fin 256, Tp.tokB ((UInt8.ofNat c.val).toNat : Int) = true → UInt8.ofNat c.val ≠ 58 ∧ Tp.valB ((UInt8.ofNat c.val).toNat : Int) = true := by decide +kernel
  intro c
  have := h ⟨c.toNat, c.toNat_lt⟩
  simpa using this
theorem name_rest : ∀ (a v : List UInt8), (∀ c ∈ a, c ≠ 58) → nameOf (a ++ 58 :: v) = a ∧ restOf (a ++ 58 :: v) = 58 :: v
  | [], v, _ => ⟨by simp [nameOf], by simp [restOf]⟩
  | c :: a, v, h => by
    obtain ⟨h1, h2⟩ := name_rest a v (fun d hd => h d (List.mem_cons_of_mem _ hd))
    have hc := h c List.mem_cons_self
    unfold nameOf restOf at *
    constructor
    · rw [List.cons_append, List.takeWhile_cons_of_pos (by simpa using hc), h1]
    · rw [List.cons_append, List.dropWhile_cons_of_pos (by simpa using hc), h2]
theorem trim_space (v : List UInt8) (h : Tp.isVal v = true) : Tp.trim (32 :: v) = v := by
  unfold Tp.isVal at h
  rw [Bool.and_eq_true, beq_iff_eq] at h
  have e : Tp.trim (32 :: v) = Tp.trim v := by
    unfold Tp.trim Tp.trimL
    rw [List.dropWhile_cons_of_pos (by decide)]
  rw [e, h.1]
/-- a field's line, read -/
theorem ends_field (F : List UInt8) (acc : List Hd) (f : Hd) (n : Nat) (hF : F ≠ []) (hacc : acc.length < 256) (h1 : Tp.isTok f.1 = true) (h2 : Tp.lower f.1 = f.1) (h3 : Tp.isVal f.2 = true) :
    ends ⟨F, acc, fld f, n, true, false, 0⟩ = ⟨F, acc ++ [f], [], n, false, false, 0⟩ := by
  have ht : ∀ c ∈ f.1, Tp.tokB (c.toNat : Int) = true := by
    unfold Tp.isTok Tp.allT at h1
    rw [Bool.and_eq_true] at h1
    exact fun c hc => List.all_eq_true.1 h1.2 c hc
  obtain ⟨e1, e2⟩ := name_rest f.1 (32 :: f.2) (fun c hc => (tok_is c (ht c hc)).1)
  unfold ends
  have hne : fld f ≠ [] := by unfold fld; simp
  have h4 : ¬ 256 ≤ acc.length := by omega
  simp only [hne, hF, h4, if_false]
  unfold fld
  rw [e1, e2]
  simp only [List.isEmpty_cons, Bool.false_eq_true, if_false, h1, if_true, h2, List.drop_one, List.tail_cons, trim_space _ h3]
theorem read_fields : ∀ (fs : List Hd) (F : List UInt8) (acc : List Hd) (n i : Nat) (rest : List UInt8), F ≠ [] → (∀ f ∈ fs, Tp.isTok f.1 = true ∧ Tp.lower f.1 = f.1 ∧ Tp.isVal f.2 = true ∧ (fld f).length ≤ 8192) →
    acc.length + fs.length ≤ 256 → n + (lines fs).length ≤ 65536 → write (lines fs ++ rest) ⟨F, acc, [], n, false, false, 0⟩ i = write rest ⟨F, acc ++ fs, [], n + (lines fs).length, false, false, 0⟩ (i + (lines fs).length)
  | [], F, acc, n, i, rest, _, _, _, _ => by simp [lines]
  | f :: fs, F, acc, n, i, rest, hF, hf, ha, hn => by
    obtain ⟨f1, f2, f3, f4⟩ := hf f List.mem_cons_self
    have e : lines (f :: fs) = fld f ++ [13, 10] ++ lines fs := rfl
    have el : (lines (f :: fs)).length = (fld f).length + 2 + (lines fs).length := by rw [e]; simp; omega
    rw [el] at hn ⊢
    have hv : ∀ c ∈ fld f, Tp.valB (c.toNat : Int) = true := by
      intro c hc
      unfold fld at hc
      rw [List.mem_append, List.mem_cons, List.mem_cons] at hc
      rcases hc with hc | rfl | rfl | hc
      · unfold Tp.isTok Tp.allT at f1
        rw [Bool.and_eq_true] at f1
        exact (tok_is c (List.all_eq_true.1 f1.2 c hc)).2
      · decide
      · decide
      · unfold Tp.isVal Tp.allT at f3
        rw [Bool.and_eq_true] at f3
        exact List.all_eq_true.1 f3.2 c hc
    have h1 := line_read (fld f) (lines fs ++ rest) ⟨F, acc, [], n, false, false, 0⟩ i rfl rfl rfl hv (by simp only; omega) (by simpa using f4)
    simp only [List.length_cons] at ha
    have h2 := ends_field F acc f (n + (fld f).length + 2) hF (by omega) f1 f2 f3
    rw [e, show fld f ++ [13, 10] ++ lines fs ++ rest = fld f ++ 13 :: 10 :: (lines fs ++ rest) by simp, h1]
    simp only [List.nil_append]
    rw [h2, read_fields fs F (acc ++ [f]) _ _ rest hF (fun g hg => hf g (List.mem_cons_of_mem _ hg)) (by simp; omega) (by omega)]
    simp only [List.append_assoc, List.singleton_append]
    rw [show n + (fld f).length + 2 + (lines fs).length = n + ((fld f).length + 2 + (lines fs).length) by omega, show i + (fld f).length + 2 + (lines fs).length = i + ((fld f).length + 2 + (lines fs).length) by omega]
theorem write_done (l : List UInt8) (r : Rd) (i : Nat) (h : r.done = true) : write l r i = (r, i) := by
  cases l with
  | nil => rfl
  | cons c l => rw [write, if_pos (.inl h)]
/-- a head's bytes, read: that head, and so many bytes; what stands behind is not touched -/
theorem read_head (F : List UInt8) (fs : List Hd) (rest : List UInt8) (hF : F ≠ []) (hb : Tp.blankB (F.headD 0) = false) (hv : ∀ c ∈ F, Tp.valB (c.toNat : Int) = true) (hl : F.length ≤ 8192)
    (hf : ∀ f ∈ fs, Tp.isTok f.1 = true ∧ Tp.lower f.1 = f.1 ∧ Tp.isVal f.2 = true ∧ (fld f).length ≤ 8192) (hn : fs.length ≤ 256) (hs : (hbytes F fs).length ≤ 65536) :
    write (hbytes F fs ++ rest) start 0 = (⟨F, fs, [], (hbytes F fs).length, false, true, 0⟩, (hbytes F fs).length) := by
  have el : (hbytes F fs).length = F.length + 2 + (lines fs).length + 2 := by unfold hbytes; simp; omega
  rw [el] at hs ⊢
  have h1 := line_read F (lines fs ++ (13 :: 10 :: rest)) start 0 rfl rfl rfl hv (by show 0 + F.length + 2 ≤ 65536; omega) (by show 0 + F.length ≤ 8192; omega)
  have h2 : ends { start with line := start.line ++ F, n := start.n + F.length + 2, cr := true } = ⟨F, [], [], 0 + F.length + 2, false, false, 0⟩ := by
    unfold ends start
    simp only [List.nil_append, hF, if_false, if_true, hb, Bool.false_eq_true]
  have h3 := line_read [] rest ⟨F, fs, [], F.length + 2 + (lines fs).length, false, false, 0⟩ (F.length + 2 + (lines fs).length) rfl rfl rfl (fun c hc => by cases hc) (by simp only [List.length_nil]; omega) (by simp)
  have h4 : ends ⟨F, fs, [], F.length + 2 + (lines fs).length + 2, true, false, 0⟩ = ⟨F, fs, [], F.length + 2 + (lines fs).length + 2, false, true, 0⟩ := by
    unfold ends
    simp only [hF, if_false, if_true]
  unfold hbytes
  rw [show F ++ 13 :: 10 :: (lines fs ++ [13, 10]) ++ rest = F ++ 13 :: 10 :: (lines fs ++ (13 :: 10 :: rest)) by simp, h1, h2, read_fields fs F [] _ _ _ hF hf (by simpa using hn) (by omega)]
  simp only [List.nil_append, Nat.zero_add] at h3 ⊢
  rw [h3]
  simp only [List.length_nil, Nat.add_zero, List.append_nil]
  rw [h4, write_done _ _ _ rfl]
end Hr
end Go.Proofs.YthfdnlcalefjeaaDoor

/- As region_last3, where what a slot holds may hang on which operations are done. -/
namespace Go.Proofs.YthfdnlcalefjeaaDoor
set_option linter.unusedVariables false
set_option linter.unusedSimpArgs false
open Go.RowKit
structure Stand3 (a0 : Act) (m : Nat) (slot : Nat → Nat) (F : (Nat → Bool) → Nat → World → Value → Prop) (T : (Nat → Bool) → World → Prop) (f : Nat → Bool) (a : Act) (w : World) : Prop where
  defers : a.defers = a0.defers
  size : a.tmps.size = a0.tmps.size
  rest : ∀ j, (∀ i, i < m → slot i ≠ j) → a.tmps.getD j undef = a0.tmps.getD j undef
  yet : ∀ i, i < m → f i = false → a.tmps.getD (slot i) undef = a0.tmps.getD (slot i) undef
  told : T f w
  have_ : ∀ i, i < m → f i = true → F f i w (a.tmps.getD (slot i) undef)
theorem rg_same3 {P : Program} {o : Oper} {a : Act} {w : World} {Q : Exit → Act → World → Prop} {F : (Nat → Bool) → Nat → World → Value → Prop} {T : (Nat → Bool) → World → Prop} {f : Nat → Bool} {i : Nat} (v : Value)
    (h : o.wp P a w (fun a' w' => a' = a.put o.dst v ∧ w' = w) Q) (hF : F (fun j => if j = i then true else f j) i w v) (hT : T (fun j => if j = i then true else f j) w) (hM : ∀ j v', F f j w v' → F (fun j => if j = i then true else f j) j w v') :
    o.wp P a w (fun a' w' => ∃ v, a' = a.put o.dst v ∧ F (fun j => if j = i then true else f j) i w' v ∧ T (fun j => if j = i then true else f j) w' ∧ ∀ j v', f j = true → F f j w v' → F (fun j => if j = i then true else f j) j w' v') Q := by
  refine Oper.wp_mono ?_ h
  rintro a' w' ⟨rfl, rfl⟩
  exact ⟨v, rfl, hF, hT, fun j v' _ h => hM j v' h⟩
section
variable {P : Program} {ops : Array Oper} {Q : Exit → Act → World → Prop}
theorem region_last3 {id : Nat} {a0 : Act} {w0 : World} (m : Nat) (slot : Nat → Nat) (F : (Nat → Bool) → Nat → World → Value → Prop) (T : (Nat → Bool) → World → Prop) (hm : P.follows .mixedOrders = true) (hb : backB .any ops = true)
    (hsz : ops.size = m + 1) (hanc : ((List.range m).all fun j => (ancOf .any ops m m).contains j) = true)
    (hs : ∀ i, slot i < a0.tmps.size) (hinj : ∀ i j, i < m → j < m → slot i = slot j → i = j) (h0 : T (fun _ => false) w0.drew)
    (hdst : ∀ i o, i < m → ops[i]? = some o → o.dst = some (slot i))
    (hstep : ∀ (f : Nat → Bool) (a : Act) (w : World) (i : Nat) (o : Oper), i < m → ops[i]? = some o → f i = false → (∀ e ∈ o.after, Region.binds .any e = true → f e.on = true ∧ F f e.on w (a.tmps.getD (slot e.on) undef)) → T f w →
      (∀ j, (∀ i, i < m → slot i ≠ j) → a.tmps.getD j undef = a0.tmps.getD j undef) →
      o.wp P a w (fun a' w' => ∃ v, a' = a.put o.dst v ∧ F (fun j => if j = i then true else f j) i w' v ∧ T (fun j => if j = i then true else f j) w' ∧ ∀ j v', f j = true → F f j w v' → F (fun j => if j = i then true else f j) j w' v') Q)
    (hlast : ∀ (f : Nat → Bool) (vs : Nat → Value) (w : World) (o : Oper), ops[m]? = some o → (∀ i, i < m → f i = true) → T f w → (∀ i, i < m → F f i w (vs i)) →
      o.wp P { a0 with tmps := fillN slot vs m a0.tmps } w (fun a' w' => Q .normal a' w') Q) :
    (Code.region id ops true).wp P Q a0 w0 := by
  refine region_inv hm hb (fun f a w => ShutF .any ops f ∧ (f m = false → Stand3 a0 m slot F T f a w) ∧ (f m = true → Q .normal a w))
    ⟨(fun i h => by cases h), (fun _ => ⟨rfl, rfl, (fun _ _ => rfl), (fun _ _ _ => rfl), h0, (fun _ _ h => by cases h)⟩), (fun h => by cases h)⟩ ?_ ?_
  · rintro f a w i o ho hf hpre ⟨hc, h1, h2⟩
    have hi := (Array.getElem?_eq_some_iff.1 ho).1
    have hee := edges_of ho hpre
    have hc' : ShutF .any ops (fun j => if j = i then true else f j) := by
      intro x hx y hy
      show (if y = i then true else f y) = true
      by_cases hyi : y = i
      · rw [if_pos hyi]
      · rw [if_neg hyi]
        by_cases hxi : x = i
        · subst hxi; exact hee y hy
        · exact hc x (by simpa [hxi] using hx) y hy
    have hpres : ∀ {g : Nat → Bool}, ShutF .any ops g → (∀ j ∈ edgesOf .any ops m, g j = true) → ∀ j, j < m → g j = true := fun hg he j hj => by
      have h4 := List.all_eq_true.1 hanc j (List.mem_range.2 hj)
      exact anc_true hg m m he j (by simpa using h4)
    by_cases him : i = m
    · subst him
      have hI := h1 hf
      have hall := hpres hc hee
      have e : a = { a0 with tmps := fillN slot (fun j => a.tmps.getD (slot j) undef) i a0.tmps } := by
        have h5 : a.tmps = fillN slot (fun j => a.tmps.getD (slot j) undef) i a0.tmps := by
          refine ext_getD (by rw [fillN_size, hI.size]) (fun j => ?_)
          by_cases hj : ∃ k, k < i ∧ slot k = j
          · obtain ⟨k, hk, rfl⟩ := hj
            rw [fillN_at slot _ _ hs _ hinj k hk]
          · rw [fillN_get slot _ _ hs _ j (fun k hk e => hj ⟨k, hk, e⟩), hI.rest j (fun k hk e => hj ⟨k, hk, e⟩)]
        obtain ⟨t, d⟩ := a
        have h6 := hI.defers
        simp only at h5 h6
        rw [← h5, h6]
      have h7 := hlast f (fun j => a.tmps.getD (slot j) undef) w o ho hall hI.told (fun j hj => hI.have_ j hj (hall j hj))
      rw [← e] at h7
      exact Oper.wp_mono (fun a' w' hT => ⟨hc', fun h => by simp at h, fun _ => hT⟩) h7
    · have hlt : i < m := by omega
      have hfm : f m = false := by
        cases hfm : f m with
        | false => rfl
        | true =>
          have := hpres hc (hc m hfm) i hlt
          rw [hf] at this
          cases this
      have hI := h1 hfm
      refine Oper.wp_mono ?_ (hstep f a w i o hlt ho hf (fun e he hbd => ⟨hpre e he hbd, hI.have_ e.on (by have := (back_of hb ho).2 e he hbd; omega) (hpre e he hbd)⟩) hI.told hI.rest)
      rintro a' w' ⟨v, rfl, hv, ht, hst⟩
      rw [hdst i o hlt ho]
      have hsl : slot i < a.tmps.size := by rw [hI.size]; exact hs i
      refine ⟨hc', fun _ => ⟨hI.defers, by rw [← hI.size]; exact Array.size_setIfInBounds .., fun j hj => ?_, fun j hj hfj => ?_, ht, fun j hj hfj => ?_⟩, fun h => ?_⟩
      · show (a.tmps.setIfInBounds (slot i) v).getD j undef = _
        rw [getD_set _ _ _ _ hsl, if_neg (Ne.symm (hj i hlt))]
        exact hI.rest j hj
      · show (a.tmps.setIfInBounds (slot i) v).getD (slot j) undef = _
        have hji : j ≠ i := fun e => by simp [e] at hfj
        rw [getD_set _ _ _ _ hsl, if_neg (fun e => hji (hinj j i hj hlt e))]
        exact hI.yet j hj (by simpa [hji] using hfj)
      · show F (fun j => if j = i then true else f j) j w' ((a.tmps.setIfInBounds (slot i) v).getD (slot j) undef)
        rw [getD_set _ _ _ _ hsl]
        by_cases hji : j = i
        · subst hji; rw [if_pos rfl]; exact hv
        · rw [if_neg (fun e => hji (hinj j i hj hlt e))]
          have h2 : f j = true := by simpa [hji] using hfj
          exact hst j _ h2 (hI.have_ j hj h2)
      · have h' : (if m = i then true else f m) = true := h
        rw [if_neg (Ne.symm him), hfm] at h'; cases h'
  · rintro f a w hall ⟨_, _, h3⟩
    exact h3 (hall m (by omega))
end
end Go.Proofs.YthfdnlcalefjeaaDoor

/- The reference's reader of heads: a line ends (all but a field's line). Printed by genJb.py. -/
namespace Go.Proofs.YthfdnlcalefjeaaDoor
set_option linter.unusedVariables false
set_option linter.unusedSimpArgs false
open Go.RowKit Go.Shelf
set_option maxHeartbeats 8000000
set_option maxRecDepth 100000
/-- a reader's cells -/
def rdC (F line : ByteArray) (V : Value) (n : Nat) (cr done : Bool) (bad : Nat) : Array Value := #[.int .i64 8192, .int .i64 65536, .int .i64 256, .string F, V, .string line, .int .i64 n, .bool cr, .bool done, .int .i64 bad]
def bx (l : List UInt8) : ByteArray := ⟨l.toArray⟩
/-- a reader in hand -/
def RV (w : World) (v : Value) (r : Hr.Rd) : Prop := ∃ V, HS w V r.fs ∧ v = .agg (rdC (bx r.fst) (bx r.line) V r.n r.cr r.done r.bad)
theorem RV.below {w w' : World} {v : Value} {r : Hr.Rd} (h : RV w v r) (k : Below w.heap.size w w') : RV w' v r := by
  obtain ⟨V, h1, h2⟩ := h
  exact ⟨V, h1.below k, h2⟩
theorem bx_ne {l : List UInt8} (h : l ≠ []) : ((bx l).toList == []) = false := by
  rw [ByteArray.toList_eq]; exact beq_eq_false_iff_ne.2 (by simpa [bx] using h)
theorem bx_size (l : List UInt8) : (bx l).size = l.length := by simp [bx, ByteArray.size]
theorem bx_at (l : List UInt8) (k : Nat) (h : k < (bx l).size) : (bx l)[k] = l.getD k 0 := by
  have h' : k < l.length := by rw [← bx_size]; exact h
  rw [List.getD_eq_getElem?_getD, List.getElem?_eq_getElem h']
  simp [bx, ByteArray.getElem_eq_getElem_data]
theorem two_allocs (w : World) (a b : Obj) : Below w.heap.size w ((w.alloc a).alloc b) := ((Below.refl _ _).alloc (Nat.le_refl _) _).alloc (by simp) _

theorem ref_ends_1 (F line : List UInt8) (fs : List Hp.Hd) (n : Nat) (cr done : Bool) (bad : Nat) (v : Value) (w : World) (hv : RV w v ⟨F, fs, line, n, cr, done, bad⟩) (hl : fs.length ≤ 256) (hz : line.length ≤ 8192) (hF : F = []) (hL : line = []) :
    Calls Tryd.prog 48 #[v] w fun e w' => ∃ v', e = .returned v' ∧ RV w' v' ⟨F, fs, [], n, false, false, 200⟩ ∧ Below w.heap.size w w' := by
  obtain ⟨V, hV, rfl⟩ := hv
  obtain ⟨p, c, rfl⟩ := hV.slice
  obtain ⟨N, hN⟩ : ∃ N, fs.length = N := ⟨_, rfl⟩
  have HNN := Lib.hid hN
  have HV := Lib.hid hV
  rw [hN] at hl HV ⊢
  have h1 : ((bx F).toList == []) = true := by rw [hF, ByteArray.toList_eq]; rfl
  have h2 : ((bx line).toList == []) = true := by rw [hL, ByteArray.toList_eq]; rfl

  have hsz := bx_size line
  have hat := bx_at line
  unfold rdC
  simp only
  obtain ⟨fb, hfb⟩ : ∃ z, bx F = z := ⟨_, rfl⟩
  obtain ⟨lb, hlb⟩ : ∃ z, bx line = z := ⟨_, rfl⟩
  have HFB := Lib.hid hfb
  have HLB := Lib.hid hlb
  rw [hfb] at h1 ⊢
  rw [hlb] at hsz hat h2 ⊢
  have hlz : lb.size ≤ 8192 := by omega
  clear hfb hlb hN hV

  have HFF := Lib.hid hF
  have HLL := Lib.hid hL
  clear hF hL
  obtain ⟨H, hH⟩ : ∃ H, w.heap.size = H := ⟨_, rfl⟩
  go_enter Tryd.func48, Tryd.ntmps48
  go_wp2_with fail
  subst hH
  simp [bodyPost, results, Tryd.results48, go_sem]
  exact ⟨⟨_, HV.out.below (two_allocs _ _ _), by simp only [rdC, HFB.out, show bx [] = (⟨#[]⟩ : ByteArray) from rfl]; try rfl⟩, two_allocs _ _ _⟩

theorem ref_ends_2 (F line : List UInt8) (fs : List Hp.Hd) (n : Nat) (cr done : Bool) (bad : Nat) (v : Value) (w : World) (hv : RV w v ⟨F, fs, line, n, cr, done, bad⟩) (hl : fs.length ≤ 256) (hz : line.length ≤ 8192) (hF : F ≠ []) (hL : line = []) :
    Calls Tryd.prog 48 #[v] w fun e w' => ∃ v', e = .returned v' ∧ RV w' v' ⟨F, fs, [], n, false, true, bad⟩ ∧ Below w.heap.size w w' := by
  obtain ⟨V, hV, rfl⟩ := hv
  obtain ⟨p, c, rfl⟩ := hV.slice
  obtain ⟨N, hN⟩ : ∃ N, fs.length = N := ⟨_, rfl⟩
  have HNN := Lib.hid hN
  have HV := Lib.hid hV
  rw [hN] at hl HV ⊢
  have h1 := bx_ne hF
  have h2 : ((bx line).toList == []) = true := by rw [hL, ByteArray.toList_eq]; rfl

  have hsz := bx_size line
  have hat := bx_at line
  unfold rdC
  simp only
  obtain ⟨fb, hfb⟩ : ∃ z, bx F = z := ⟨_, rfl⟩
  obtain ⟨lb, hlb⟩ : ∃ z, bx line = z := ⟨_, rfl⟩
  have HFB := Lib.hid hfb
  have HLB := Lib.hid hlb
  rw [hfb] at h1 ⊢
  rw [hlb] at hsz hat h2 ⊢
  have hlz : lb.size ≤ 8192 := by omega
  clear hfb hlb hN hV

  have HFF := Lib.hid hF
  have HLL := Lib.hid hL
  clear hF hL
  obtain ⟨H, hH⟩ : ∃ H, w.heap.size = H := ⟨_, rfl⟩
  go_enter Tryd.func48, Tryd.ntmps48
  go_wp2_with fail
  subst hH
  simp [bodyPost, results, Tryd.results48, go_sem]
  exact ⟨⟨_, HV.out.below (two_allocs _ _ _), by simp only [rdC, HFB.out, show bx [] = (⟨#[]⟩ : ByteArray) from rfl]; try rfl⟩, two_allocs _ _ _⟩

theorem ref_ends_3 (F line : List UInt8) (fs : List Hp.Hd) (n : Nat) (cr done : Bool) (bad : Nat) (v : Value) (w : World) (hv : RV w v ⟨F, fs, line, n, cr, done, bad⟩) (hl : fs.length ≤ 256) (hz : line.length ≤ 8192) (hF : F = []) (hL : line ≠ []) (hB : Tp.blankB (line.headD 0) = true) :
    Calls Tryd.prog 48 #[v] w fun e w' => ∃ v', e = .returned v' ∧ RV w' v' ⟨F, fs, [], n, false, done, 200⟩ ∧ Below w.heap.size w w' := by
  obtain ⟨V, hV, rfl⟩ := hv
  obtain ⟨p, c, rfl⟩ := hV.slice
  obtain ⟨N, hN⟩ : ∃ N, fs.length = N := ⟨_, rfl⟩
  have HNN := Lib.hid hN
  have HV := Lib.hid hV
  rw [hN] at hl HV ⊢
  have h1 : ((bx F).toList == []) = true := by rw [hF, ByteArray.toList_eq]; rfl
  have h2 := bx_ne hL

  have hsz := bx_size line
  have hat := bx_at line
  unfold rdC
  simp only
  obtain ⟨fb, hfb⟩ : ∃ z, bx F = z := ⟨_, rfl⟩
  obtain ⟨lb, hlb⟩ : ∃ z, bx line = z := ⟨_, rfl⟩
  have HFB := Lib.hid hfb
  have HLB := Lib.hid hlb
  rw [hfb] at h1 ⊢
  rw [hlb] at hsz hat h2 ⊢
  have hlz : lb.size ≤ 8192 := by omega
  clear hfb hlb hN hV
  have hp : 0 < lb.size := by rw [hsz]; exact List.length_pos_iff.2 hL
  have hx := hat 0 hp
  have hy : (lb[0].toNat : Int) = 9 ∨ (lb[0].toNat : Int) = 32 := by
    rw [hx, show line.getD 0 0 = line.headD 0 by cases line <;> rfl]
    simpa [Tp.blankB, Tp.blank] using hB
  clear hx hat
  rcases hy with hy | hy
  · have HFF := Lib.hid hF
    have HLL := Lib.hid hL
    clear hF hL
    obtain ⟨H, hH⟩ : ∃ H, w.heap.size = H := ⟨_, rfl⟩
    go_enter Tryd.func48, Tryd.ntmps48
    go_wp2_with fail
    subst hH
    simp [bodyPost, results, Tryd.results48, go_sem]
    exact ⟨⟨_, HV.out.below (two_allocs _ _ _), by simp only [rdC, HFB.out, show bx [] = (⟨#[]⟩ : ByteArray) from rfl]; try rfl⟩, two_allocs _ _ _⟩
  · have HFF := Lib.hid hF
    have HLL := Lib.hid hL
    clear hF hL
    obtain ⟨H, hH⟩ : ∃ H, w.heap.size = H := ⟨_, rfl⟩
    go_enter Tryd.func48, Tryd.ntmps48
    go_wp2_with fail
    subst hH
    simp [bodyPost, results, Tryd.results48, go_sem]
    exact ⟨⟨_, HV.out.below (two_allocs _ _ _), by simp only [rdC, HFB.out, show bx [] = (⟨#[]⟩ : ByteArray) from rfl]; try rfl⟩, two_allocs _ _ _⟩
theorem ref_ends_4 (F line : List UInt8) (fs : List Hp.Hd) (n : Nat) (cr done : Bool) (bad : Nat) (v : Value) (w : World) (hv : RV w v ⟨F, fs, line, n, cr, done, bad⟩) (hl : fs.length ≤ 256) (hz : line.length ≤ 8192) (hF : F = []) (hL : line ≠ []) (hB : Tp.blankB (line.headD 0) = false) :
    Calls Tryd.prog 48 #[v] w fun e w' => ∃ v', e = .returned v' ∧ RV w' v' ⟨line, fs, [], n, false, done, bad⟩ ∧ Below w.heap.size w w' := by
  obtain ⟨V, hV, rfl⟩ := hv
  obtain ⟨p, c, rfl⟩ := hV.slice
  obtain ⟨N, hN⟩ : ∃ N, fs.length = N := ⟨_, rfl⟩
  have HNN := Lib.hid hN
  have HV := Lib.hid hV
  rw [hN] at hl HV ⊢
  have h1 : ((bx F).toList == []) = true := by rw [hF, ByteArray.toList_eq]; rfl
  have h2 := bx_ne hL

  have hsz := bx_size line
  have hat := bx_at line
  unfold rdC
  simp only
  obtain ⟨fb, hfb⟩ : ∃ z, bx F = z := ⟨_, rfl⟩
  obtain ⟨lb, hlb⟩ : ∃ z, bx line = z := ⟨_, rfl⟩
  have HFB := Lib.hid hfb
  have HLB := Lib.hid hlb
  rw [hfb] at h1 ⊢
  rw [hlb] at hsz hat h2 ⊢
  have hlz : lb.size ≤ 8192 := by omega
  clear hfb hlb hN hV
  have hp : 0 < lb.size := by rw [hsz]; exact List.length_pos_iff.2 hL
  have hx := hat 0 hp
  have hy : (lb[0].toNat : Int) ≠ 9 ∧ (lb[0].toNat : Int) ≠ 32 := by
    rw [hx, show line.getD 0 0 = line.headD 0 by cases line <;> rfl]
    simpa [Tp.blankB, Tp.blank] using hB
  obtain ⟨hy1, hy2⟩ := hy
  have hy3 : ((lb[0].toNat : Int) == 9) = false := beq_eq_false_iff_ne.2 hy1
  have hy4 : ((lb[0].toNat : Int) == 32) = false := beq_eq_false_iff_ne.2 hy2
  clear hy1 hy2
  clear hx hat

  have HFF := Lib.hid hF
  have HLL := Lib.hid hL
  clear hF hL
  obtain ⟨H, hH⟩ : ∃ H, w.heap.size = H := ⟨_, rfl⟩
  go_enter Tryd.func48, Tryd.ntmps48
  go_wp2_with fail
  subst hH
  simp [bodyPost, results, Tryd.results48, go_sem]
  exact ⟨⟨_, HV.out.below (two_allocs _ _ _), by simp only [rdC, HLB.out, show bx [] = (⟨#[]⟩ : ByteArray) from rfl]; try rfl⟩, two_allocs _ _ _⟩

theorem ref_ends_5 (F line : List UInt8) (fs : List Hp.Hd) (n : Nat) (cr done : Bool) (bad : Nat) (v : Value) (w : World) (hv : RV w v ⟨F, fs, line, n, cr, done, bad⟩) (hl : fs.length ≤ 256) (hz : line.length ≤ 8192) (hF : F ≠ []) (hL : line ≠ []) (hB : 256 ≤ fs.length) :
    Calls Tryd.prog 48 #[v] w fun e w' => ∃ v', e = .returned v' ∧ RV w' v' ⟨F, fs, [], n, false, done, 201⟩ ∧ Below w.heap.size w w' := by
  obtain ⟨V, hV, rfl⟩ := hv
  obtain ⟨p, c, rfl⟩ := hV.slice
  obtain ⟨N, hN⟩ : ∃ N, fs.length = N := ⟨_, rfl⟩
  have HNN := Lib.hid hN
  have HV := Lib.hid hV
  rw [hN] at hl HV ⊢
  have h1 := bx_ne hF
  have h2 := bx_ne hL
  have h3 : N = 256 := by omega
  subst h3

  have hsz := bx_size line
  have hat := bx_at line
  unfold rdC
  simp only
  obtain ⟨fb, hfb⟩ : ∃ z, bx F = z := ⟨_, rfl⟩
  obtain ⟨lb, hlb⟩ : ∃ z, bx line = z := ⟨_, rfl⟩
  have HFB := Lib.hid hfb
  have HLB := Lib.hid hlb
  rw [hfb] at h1 ⊢
  rw [hlb] at hsz hat h2 ⊢
  have hlz : lb.size ≤ 8192 := by omega
  clear hfb hlb hN hV

  have HFF := Lib.hid hF
  have HLL := Lib.hid hL
  clear hF hL
  obtain ⟨H, hH⟩ : ∃ H, w.heap.size = H := ⟨_, rfl⟩
  go_enter Tryd.func48, Tryd.ntmps48
  go_wp2_with fail
  subst hH
  simp [bodyPost, results, Tryd.results48, go_sem]
  exact ⟨⟨_, HV.out.below (two_allocs _ _ _), by simp only [rdC, HFB.out, show bx [] = (⟨#[]⟩ : ByteArray) from rfl]; try rfl⟩, two_allocs _ _ _⟩

end Go.Proofs.YthfdnlcalefjeaaDoor

/- The reference's reader of heads: a field's line; a line ends. Printed by genJc.py. -/
namespace Go.Proofs.YthfdnlcalefjeaaDoor
set_option linter.unusedVariables false
set_option linter.unusedSimpArgs false
open Go.RowKit Go.Shelf
set_option maxHeartbeats 8000000
set_option maxRecDepth 100000
def enF (B H N c k : Nat) (p : Option Addr) (fs : List Hp.Hd) (lb nb lo tb tr : ByteArray) (f : Nat → Bool) : Nat → World → Value → Prop
  | 0, w, v => f 4 = false → ∃ g, v = .slice (some ⟨g, 0, none⟩) 0 0 ∧ w.heap[g]? = some (.cells #[] 74 (0, 0)) ∧ B ≤ g
  | 1, _, v => v = .pointer (some ⟨H, 3, none⟩)
  | 2, _, v => v = .pointer (some ⟨H, 4, none⟩)
  | 3, _, v => v = .slice p N c
  | 4, w, v => f 16 = false → w.ownsRow B 74 2 v N (hds fs)
  | 5, _, v => v = .string lb
  | 6, _, v => v = .int .i64 k
  | 7, _, v => v = .string nb
  | 8, _, v => v = .string lo
  | 9, _, v => v = .string lb
  | 10, _, v => v = .int .i64 k
  | 11, _, v => v = .int .i64 ((k : Int) + 1)
  | 12, _, v => v = .string tb
  | 13, _, v => v = .string tr
  | 14, _, v => v = .agg #[.string lo, .string tr]
  | 15, w, v => f 16 = false → ∃ g, v = .slice (some ⟨g, 0, none⟩) 1 1 ∧ w.heap[g]? = some (.cells #[.string lo, .string tr] 74 (0, 0))
  | 16, w, v => w.ownsRow B 74 2 v (N + 1) (hds fs ++ [.string lo, .string tr])
  | 17, _, v => v = .pointer (some ⟨H, 3, none⟩)
  | 18, _, v => v = .pointer (some ⟨H, 4, none⟩)
  | _, _, _ => False
theorem HS.setCell {w : World} {g o n c : Nat} {L : List Hp.Hd} (h : HS w (.slice (some ⟨g, o, none⟩) n c) L) (a : Addr) (hne : a.block ≠ g) (u : Value) : HS (w.setCell a u) (.slice (some ⟨g, o, none⟩) n c) L := by
  rcases h with ⟨h, _⟩ | ⟨b, off, cap, h1, h3⟩
  · cases h
  · cases h1
    refine .inr ⟨g, o, c, rfl, fun j hj => ?_⟩
    have hb := Below.heap_setCell w a u g (Ne.symm hne)
    exact ⟨(World.cell?_of_block (a := ⟨g, o + j * 2, none⟩) hb).trans (h3 j hj).1, (World.cell?_of_block (a := ⟨g, o + j * 2 + 1, none⟩) hb).trans (h3 j hj).2⟩
theorem HS.setCells10 {w : World} {g o n c b : Nat} {L : List Hp.Hd} (h : HS w (.slice (some ⟨g, o, none⟩) n c) L) (hne : b < g) (u0 u1 u2 u3 u4 u5 u6 u7 u8 u9 : Value) :
    HS ((((((((((w.setCell ⟨b, 0, none⟩ u0).setCell ⟨b, 1, none⟩ u1).setCell ⟨b, 2, none⟩ u2).setCell ⟨b, 3, none⟩ u3).setCell ⟨b, 4, none⟩ u4).setCell ⟨b, 5, none⟩ u5).setCell ⟨b, 6, none⟩ u6).setCell ⟨b, 7, none⟩ u7).setCell ⟨b, 8, none⟩ u8).setCell ⟨b, 9, none⟩ u9) (.slice (some ⟨g, o, none⟩) n c) L := by
  have hn : b ≠ g := Nat.ne_of_lt hne
  exact (((((((((h.setCell _ hn _).setCell _ hn _).setCell _ hn _).setCell _ hn _).setCell _ hn _).setCell _ hn _).setCell _ hn _).setCell _ hn _).setCell _ hn _).setCell _ hn _
theorem enF_up {B H N c k : Nat} {p : Option Addr} {fs : List Hp.Hd} {lb nb lo tb tr : ByteArray} {f : Nat → Bool} {w : World} {j : Nat} {v : Value} (i : Nat) (h : enF B H N c k p fs lb nb lo tb tr f j w v) : enF B H N c k p fs lb nb lo tb tr (fun j => if j = i then true else f j) j w v := by
  have up : ∀ q, (if q = i then true else f q) = false → f q = false := fun q h => by
    by_cases e : q = i <;> simp_all
  match j, h with
  | 1, h | 2, h | 3, h | 5, h | 6, h | 7, h | 8, h | 9, h | 10, h | 11, h | 12, h | 13, h | 14, h | 17, h | 18, h => exact h
  | 0, h => exact fun e => h (up 4 e)
  | 4, h => exact fun e => h (up 16 e)
  | 15, h => exact fun e => h (up 16 e)
  | 16, h => exact h
  | n + 19, h => exact h.elim
theorem enF_below {B H N c k : Nat} {p : Option Addr} {fs : List Hp.Hd} {lb nb lo tb tr : ByteArray} {f : Nat → Bool} {w w' : World} {j : Nat} {v : Value} (hb : Below w.heap.size w w') (h : enF B H N c k p fs lb nb lo tb tr f j w v) : enF B H N c k p fs lb nb lo tb tr f j w' v := by
  have bl : ∀ {g : Nat} {o : Obj}, w.heap[g]? = some o → w'.heap[g]? = some o := fun hg => (hb.block _ (Array.getElem?_eq_some_iff.1 hg).1).trans hg
  match j, h with
  | 1, h | 2, h | 3, h | 5, h | 6, h | 7, h | 8, h | 9, h | 10, h | 11, h | 12, h | 13, h | 14, h | 17, h | 18, h => exact h
  | 0, h => exact fun e => by obtain ⟨g, h1, h2, h3⟩ := h e; exact ⟨g, h1, bl h2, h3⟩
  | 4, h => exact fun e => own_below (h e) hb
  | 15, h => exact fun e => by obtain ⟨g, h1, h2⟩ := h e; exact ⟨g, h1, bl h2⟩
  | 16, h => exact own_below h hb
  | n + 19, h => exact h.elim
structure enT (w0 : World) (f : Nat → Bool) (w : World) : Prop where
  bel : Below w0.heap.size w0 w
  n16 : f 4 = false → f 16 = false
theorem enT.step {w0 w w' : World} {f : Nat → Bool} (i : Nat) (h : enT w0 f w) (hi : i ≠ 16) (hb : Below w0.heap.size w0 w') : enT w0 (fun j => if j = i then true else f j) w' :=
  ⟨hb, fun h4 => by
    have h5 : f 4 = false := by by_cases e : 4 = i <;> simp_all
    have := h.n16 h5
    simpa [Ne.symm hi] using this⟩
theorem hds_len : ∀ l : List Hp.Hd, (hds l).length = l.length * 2
  | [] => rfl
  | p :: l => by
    have e : hds (p :: l) = Hp.sx p.1 :: Hp.sx p.2 :: hds l := rfl
    rw [e]; simp only [List.length_cons, hds_len l]; omega
theorem hds_one (l : List Hp.Hd) : ∀ u ∈ hds l, u.oneCell' = true := by
  intro u hu
  unfold hds at hu
  rw [List.mem_flatMap] at hu
  obtain ⟨q, _, hq⟩ := hu
  simp only [List.mem_cons, List.not_mem_nil, or_false] at hq
  rcases hq with rfl | rfl <;> rfl
theorem hds_cell {w : World} {b off : Nat} {fs : List Hp.Hd} (h : ∀ j, j < fs.length → w.cell? ⟨b, off + j * 2, none⟩ = some (Hp.sx (fs.getD j ([], [])).1) ∧ w.cell? ⟨b, off + j * 2 + 1, none⟩ = some (Hp.sx (fs.getD j ([], [])).2)) :
    ∀ j u, (hds fs)[j]? = some u → w.cell? ((⟨b, off, none⟩ : Addr).add j) = some u := by
  intro j u hj
  have hjl := (List.getElem?_eq_some_iff.1 hj).1
  rw [hds_len] at hjl
  rw [Lib.add_plain]
  obtain ⟨h1, h2⟩ := h (j / 2) (by omega)
  obtain ⟨g1, g2⟩ := hds_get fs (j / 2) (by omega)
  rcases Nat.mod_two_eq_zero_or_one j with e | e
  · have e2 : j / 2 * 2 = j := by omega
    rw [e2] at h1 g1
    rw [h1, ← g1, hj]
  · have e2 : j / 2 * 2 + 1 = j := by omega
    rw [show off + j / 2 * 2 + 1 = off + (j / 2 * 2 + 1) by omega, e2] at h2
    rw [e2] at g2
    rw [h2, ← g2, hj]
/-- headers, appended to a row of none -/
theorem wp_append_hs {o : Oper} {a : Act} {w : World} {K : Act → World → Prop} {Q : Exit → Act → World → Prop} (s x : Operand) (ho : o.op = .call { callee := .builtin .append, args := #[s, x], argTypes := #[43, 43] }) (B : Nat) (v : Value) (hs : a.eval s = v) (hown : w.ownsRow B 74 2 v 0 [])
    (V : Value) (fs : List Hp.Hd) (hx : a.eval x = V) (hV : HS w V fs) (hl : fs.length ≤ 1000) (hB : B ≤ w.heap.size)
    (h : ∀ v' w', w'.ownsRow B 74 2 v' fs.length (hds fs) → w.grownBy w' v.ownBlock → K (a.put o.dst v') w') : o.wp Tryd.prog a w K Q := by
  obtain ⟨i0, hi, hz0, hz1, hz2⟩ := info_parts (show (Tryd.prog.info? 74).map (fun i => (i.zero, i.size, i.bytes)) = some (some (.agg #[.string ByteArray.empty, .string ByteArray.empty]), 2, 32) by kernel_rfl)
  rcases hV with ⟨rfl, rfl⟩ | ⟨b, off, cap, rfl, hc⟩
  · have hrun := run_append_owned_none (P := Tryd.prog) (w := w) B 43 o.type 74 i0 2 Tryd.underlying43 hi v 0 [] hown
    unfold Oper.wp
    simp [execOp, ho, resolve, invoke, builtin, hs, hx, hrun, Result.andThen]
    exact h v w hown ⟨rfl, rfl, rfl, Nat.le_refl _, fun _ _ _ => rfl⟩
  · refine wp_append_own w s x 43 ho B 74 i0 (.agg #[.string ByteArray.empty, .string ByteArray.empty]) 2 32 Tryd.underlying43 hi hz0 hz1 hz2 rfl (by decide) v 0 [] hs hown ⟨b, off, none⟩ fs.length cap (hds fs) hx (hds_len fs) (hds_cell hc) (hds_one fs) (by unfold maxLen; omega) (by omega) hB ?_
    intro v' w' h1 h2 _
    rw [Nat.zero_add, List.nil_append] at h1
    exact h v' w' h1 h2
theorem name_at {l : List UInt8} {k : Nat} (hk : k < l.length) (h : ∀ j, j < k → l.getD j 0 ≠ 58) (hc : l.getD k 0 = 58) : Hr.nameOf l = l.take k ∧ Hr.restOf l = 58 :: l.drop (k + 1) := by
  have e : l = l.take k ++ 58 :: l.drop (k + 1) := by
    conv => lhs; rw [← List.take_append_drop k l]
    rw [List.drop_eq_getElem_cons hk]
    rw [List.getD_eq_getElem?_getD, List.getElem?_eq_getElem hk, Option.getD_some] at hc
    rw [hc]
  have hn : ∀ c ∈ l.take k, c ≠ 58 := by
    intro c hcm
    obtain ⟨j, hj, rfl⟩ := List.mem_iff_getElem.1 hcm
    rw [List.length_take] at hj
    have := h j (by omega)
    rw [List.getD_eq_getElem?_getD, List.getElem?_eq_getElem (by omega), Option.getD_some] at this
    rw [List.getElem_take]
    exact this
  have := Hr.name_rest (l.take k) (l.drop (k + 1)) hn
  rwa [← e] at this
theorem rest_none {l : List UInt8} (h : ∀ j, j < l.length → l.getD j 0 ≠ 58) : Hr.restOf l = [] := by
  unfold Hr.restOf
  induction l with
  | nil => rfl
  | cons c l ih =>
    have hc : c ≠ 58 := h 0 (by simp)
    rw [List.dropWhile_cons_of_pos (by simpa using hc)]
    exact ih (fun j hj => h (j + 1) (by simpa using hj))
theorem ref_ends_6 (F line : List UInt8) (fs : List Hp.Hd) (n : Nat) (cr done : Bool) (bad : Nat) (v : Value) (w : World) (hv : RV w v ⟨F, fs, line, n, cr, done, bad⟩) (hl : fs.length < 256) (hz : line.length ≤ 8192) (hF : F ≠ []) (hL : line ≠ []) :
    Calls Tryd.prog 48 #[v] w fun e w' => ∃ v', e = .returned v' ∧ RV w' v' (Hr.ends ⟨F, fs, line, n, cr, done, bad⟩) ∧ Below w.heap.size w w' := by
  obtain ⟨i0, hi, hz0, hz1, hz2⟩ := info_parts (show (Tryd.prog.info? 74).map (fun i => (i.zero, i.size, i.bytes)) = some (some (.agg #[.string ByteArray.empty, .string ByteArray.empty]), 2, 32) by kernel_rfl)
  obtain ⟨V, hV, rfl⟩ := hv
  obtain ⟨p, c, rfl⟩ := hV.slice
  have h1 := bx_ne hF
  have h2 := bx_ne hL
  have HEN := Lib.hid (show Hr.ends ⟨F, fs, line, n, cr, done, bad⟩ = if (Hr.restOf line).isEmpty then ⟨F, fs, [], n, false, done, 200⟩ else if Tp.isTok (Hr.nameOf line) then ⟨F, fs ++ [(Tp.lower (Hr.nameOf line), Tp.trim ((Hr.restOf line).drop 1))], [], n, false, done, bad⟩ else ⟨F, fs, [], n, false, done, 200⟩ by
    unfold Hr.ends
    rw [if_neg hL, if_neg hF, if_neg (show ¬ 256 ≤ fs.length by omega)])
  obtain ⟨N, hN⟩ : ∃ N, fs.length = N := ⟨_, rfl⟩
  have HNN := Lib.hid hN
  have HV := Lib.hid hV
  rw [hN] at hl HV ⊢
  have hsz := bx_size line
  have hat := bx_at line
  have HDL := Lib.hid (show (bx line).data.toList = line by simp [bx])
  unfold rdC
  simp only
  obtain ⟨fb, hfb⟩ : ∃ z, bx F = z := ⟨_, rfl⟩
  obtain ⟨lb, hlb⟩ : ∃ z, bx line = z := ⟨_, rfl⟩
  have HFB := Lib.hid hfb
  have HLB := Lib.hid hlb
  rw [hfb] at h1 ⊢
  rw [hlb] at hsz hat h2 HDL ⊢
  have hlz : lb.size ≤ 8192 := by omega
  have HAT := Lib.hid hat
  have HSZ := Lib.hid hsz
  clear hfb hlb hN hV hF hL hat hsz
  obtain ⟨H, hH⟩ : ∃ H, w.heap.size = H := ⟨_, rfl⟩
  go_enter Tryd.func48, Tryd.ntmps48
  go_wp2_with fail
  go_loop [4] (fun i => ∃ k : Nat, k ≤ lb.size ∧ i = .int .i64 k ∧ ∀ j, j < k → line.getD j 0 ≠ 58) (fun i => lb.size - (intOf i).toNat)
  case atStart => exact ⟨0, Nat.zero_le _, rfl, fun j hj => absurd hj (by omega)⟩
  case round =>
    obtain ⟨k, hk, rfl, hall⟩ := hrel
    have HA := Lib.hid hall
    clear hall
    by_cases hlt : k < lb.size
    · have HX := Lib.hid (HAT.out k hlt)
      by_cases hc : line.getD k 0 = 58
      · have hy : (lb[k].toNat : Int) = 58 := by rw [HX.out, hc]; rfl
        obtain ⟨na1, na2⟩ := name_at (by rw [← HSZ.out]; exact hlt) HA.out hc
        have HNA := Lib.hid na1
        have HRA := Lib.hid na2
        clear na1 na2 hc
        have hnb : (lb.extract 0 k).data.toList = line.take k := by rw [Lib.extract_data, HDL.out]; simp
        have hns : (lb.extract 0 k).size ≤ 8192 := by rw [ByteArray.size_extract]; omega
        have KT0 := fun W => rtk_token (lb.extract 0 k) W (by omega)
        have KL0 := fun W => rtk_lower (lb.extract 0 k) W (by omega)
        rw [hnb] at KT0 KL0
        obtain ⟨nb, hnbe⟩ : ∃ z, lb.extract 0 k = z := ⟨_, rfl⟩
        rw [hnbe] at KT0 KL0
        have KTK := Lib.hid KT0
        have HNB := Lib.hid hnbe
        obtain ⟨tk, htk⟩ : ∃ z, Tp.isTok (line.take k) = z := ⟨_, rfl⟩
        have HTK := Lib.hid htk
        rw [htk] at KTK
        obtain ⟨lo, hlo⟩ : ∃ z : ByteArray, (⟨(Tp.lower (line.take k)).toArray⟩ : ByteArray) = z := ⟨_, rfl⟩
        rw [hlo] at KL0
        have HLO := Lib.hid hlo
        have KL := Lib.hid KL0
        clear KT0 KL0 hnb hns hnbe htk hlo
        go_wp2_with fail
        rw [HNB.out]
        refine (KTK.out _).mono ?_
        rintro e w' ⟨rfl, rfl⟩
        cases tk with
        | false =>
          go_wp2_with fail
          subst hH
          simp [bodyPost, results, Tryd.results48, go_sem]
          rw [HEN.out, HNA.out, HTK.out, HRA.out]
          simp only [List.isEmpty_cons, Bool.false_eq_true, if_false]
          exact ⟨⟨_, HV.out.below (two_allocs _ _ _), by try simp only [rdC, HFB.out, show bx [] = (⟨#[]⟩ : ByteArray) from rfl]; try rfl⟩, two_allocs _ _ _⟩
        | true =>
          have hnb2 : (lb.extract (k + 1) lb.size).data.toList = line.drop (k + 1) := by rw [Lib.extract_data, HDL.out, HSZ.out]; exact List.take_of_length_le (by rw [List.length_drop]; exact Nat.le_refl _)
          have KT1 := fun W => rtk_trim (lb.extract (k + 1) lb.size) W (by rw [ByteArray.size_extract]; omega)
          rw [hnb2] at KT1
          obtain ⟨tb, htb⟩ : ∃ z, lb.extract (k + 1) lb.size = z := ⟨_, rfl⟩
          rw [htb] at KT1
          have HTB := Lib.hid htb
          obtain ⟨tr, htr⟩ : ∃ z : ByteArray, (⟨(Tp.trim (line.drop (k + 1))).toArray⟩ : ByteArray) = z := ⟨_, rfl⟩
          rw [htr] at KT1
          have HTR := Lib.hid htr
          have KT := Lib.hid KT1
          clear hnb2 KT1 htb htr
          go_wp2_with fail
          obtain ⟨W0, hW0⟩ : ∃ Z, (w.alloc (.cells #[.int .i64 8192, .int .i64 65536, .int .i64 256, .string fb, .slice p N c, .string ⟨#[]⟩, .int .i64 n, .bool false, .bool done, .int .i64 bad] 79)).alloc (.cells #[.int .i64 0, .int .i64 0, .int .i64 0, .string ⟨#[]⟩, .slice none 0 0, .string ⟨#[]⟩, .int .i64 0, .bool false, .bool false, .int .i64 0] 79) = Z := ⟨_, rfl⟩
          rw [hW0]
          have HZ0 := Lib.hid (show W0.heap.size = H + 2 by rw [← hW0, ← hH]; simp)
          have HBW := Lib.hid (show Below w.heap.size w W0 by rw [← hW0]; exact two_allocs _ _ _)
          have HG0 := Lib.hid (show W0.heap[H]? = some (.cells #[.int .i64 8192, .int .i64 65536, .int .i64 256, .string fb, .slice p N c, .string ⟨#[]⟩, .int .i64 n, .bool false, .bool done, .int .i64 bad] 79 (0, 0)) by
            rw [← hW0, ← hH]; exact heap_alloc_old' _ (World.alloc_heap_new _ _))
          have HG1 := Lib.hid (show W0.heap[H + 1]? = some (.cells #[.int .i64 0, .int .i64 0, .int .i64 0, .string ⟨#[]⟩, .slice none 0 0, .string ⟨#[]⟩, .int .i64 0, .bool false, .bool false, .int .i64 0] 79 (0, 0)) by
            rw [← hW0, ← hH]; have h := World.alloc_heap_new (w.alloc (.cells #[.int .i64 8192, .int .i64 65536, .int .i64 256, .string fb, .slice p N c, .string ⟨#[]⟩, .int .i64 n, .bool false, .bool done, .int .i64 bad] 79)) (.cells #[.int .i64 0, .int .i64 0, .int .i64 0, .string ⟨#[]⟩, .slice none 0 0, .string ⟨#[]⟩, .int .i64 0, .bool false, .bool false, .int .i64 0] 79); simpa using h)
          have HVW := Lib.hid (HV.out.below HBW.out)
          have HE4 := Lib.hid (show ∀ W, Below W0.heap.size W0 W → W.cell? ⟨H, 4, none⟩ = some (.slice p N c) from fun W hb => by
            have h := (hb.block H (by rw [HZ0.out]; omega)).trans HG0.out
            simp [World.cell?, h])
          have HDR := Lib.hid (show Below W0.heap.size W0 W0.drew from (Below.refl _ _).drew)
          obtain ⟨BB, hBB⟩ : ∃ z, W0.heap.size = z := ⟨_, rfl⟩
          have HBB := Lib.hid hBB
          have HHH := Lib.hid hH
          clear hBB hW0 hH
          have hk8 : k ≤ 8192 := by omega
          refine region_last3 19 (fun i => 64 + min i 18) (enF BB H N c k p fs lb nb lo tb tr) (enT W0) (by kernel_rfl) (by kernel_rfl) rfl (by kernel_rfl) (fun i => by show 64 + min i 18 < _; simp; omega) (fun i j hi hj h => by have h : 64 + min i 18 = 64 + min j 18 := h; omega) ?start ?dst ?step ?last
          case dst =>
            intro i o hi ho
            match i, hi, ho with
            | 0, _, ho => cases ho; rfl
            | 1, _, ho => cases ho; rfl
            | 2, _, ho => cases ho; rfl
            | 3, _, ho => cases ho; rfl
            | 4, _, ho => cases ho; rfl
            | 5, _, ho => cases ho; rfl
            | 6, _, ho => cases ho; rfl
            | 7, _, ho => cases ho; rfl
            | 8, _, ho => cases ho; rfl
            | 9, _, ho => cases ho; rfl
            | 10, _, ho => cases ho; rfl
            | 11, _, ho => cases ho; rfl
            | 12, _, ho => cases ho; rfl
            | 13, _, ho => cases ho; rfl
            | 14, _, ho => cases ho; rfl
            | 15, _, ho => cases ho; rfl
            | 16, _, ho => cases ho; rfl
            | 17, _, ho => cases ho; rfl
            | 18, _, ho => cases ho; rfl
            | n + 19, hi, _ => exact absurd hi (by omega)
          case step =>
            intro f a' W i o hib ho hfi hpre hT hrest
            match i, hib, ho with
            | 0, _, ho =>
              cases ho
              have hBW : BB ≤ W.heap.size := HBB.out ▸ hT.bel.size
              unfold Oper.wp execOp
              go_simp
              refine ⟨_, rfl, fun _ => ⟨W.heap.size, rfl, World.alloc_heap_new _ _, hBW⟩, ?_, fun j v' _ hF => ?_⟩
              · have h5 := hT.step (w' := W.alloc (.cells #[] 74)) 0 (by decide) (hT.bel.alloc hT.bel.size _)
                simpa using h5
              · have h5 := enF_up 0 (enF_below (w' := W.alloc (.cells #[] 74)) ((Below.refl W.heap.size W).alloc (Nat.le_refl _) _) hF)
                simpa using h5
            | 1, _, ho =>
              cases ho
              have q1 : a'.tmps.getD 1 undef = .pointer (some ⟨H, 0, none⟩) := (hrest 1 (by intro i hi; show 64 + min i 18 ≠ _; omega))
              have e1 := rg_ev q1
              exact rg_same3 (.pointer (some ⟨H, 3, none⟩)) (by unfold Oper.wp execOp; go_simp; all_goals ((try simp only [e1]); (try go_simp); (try rw [if_pos (by omega)]); (try rw [if_neg (by omega)]); first | done | rfl | exact ⟨rfl, rfl⟩ | trivial)) rfl (hT.step 1 (by decide) hT.bel) (fun j v' h => enF_up 1 h)
            | 2, _, ho =>
              cases ho
              have f65 := (hpre { on := 1, ground := .data } (by simp) rfl).1
              have q65 : a'.tmps.getD 65 undef = .pointer (some ⟨H, 3, none⟩) := (hpre { on := 1, ground := .data } (by simp) rfl).2
              have e65 := rg_ev q65
              exact rg_same3 (.pointer (some ⟨H, 4, none⟩)) (by unfold Oper.wp execOp; go_simp; all_goals ((try simp only [e65]); (try go_simp); (try rw [if_pos (by omega)]); (try rw [if_neg (by omega)]); first | done | rfl | exact ⟨rfl, rfl⟩ | trivial)) rfl (hT.step 2 (by decide) hT.bel) (fun j v' h => enF_up 2 h)
            | 3, _, ho =>
              cases ho
              have f66 := (hpre { on := 2, ground := .data } (by simp) rfl).1
              have q66 : a'.tmps.getD 66 undef = .pointer (some ⟨H, 4, none⟩) := (hpre { on := 2, ground := .data } (by simp) rfl).2
              have hcE := HE4.out W hT.bel
              have e66 := rg_ev q66
              exact rg_same3 (.slice p N c) (by unfold Oper.wp execOp; go_simp; all_goals ((try simp only [e66]); (try go_simp); (try rw [if_pos (by omega)]); (try rw [if_neg (by omega)]); first | done | rfl | exact ⟨rfl, rfl⟩ | trivial)) rfl (hT.step 3 (by decide) hT.bel) (fun j v' h => enF_up 3 h)
            | 4, _, ho =>
              cases ho
              have f64 := (hpre { on := 0, ground := .data } (by simp) rfl).1
              have h64 := (hpre { on := 0, ground := .data } (by simp) rfl).2
              have f67 := (hpre { on := 3, ground := .data } (by simp) rfl).1
              have q67 : a'.tmps.getD 67 undef = .slice p N c := (hpre { on := 3, ground := .data } (by simp) rfl).2
              have hBW : BB ≤ W.heap.size := HBB.out ▸ hT.bel.size
              obtain ⟨g, e1, e2, e3⟩ := h64 hfi
              have hO : W.ownsRow BB 74 2 (.slice (some ⟨g, 0, none⟩) 0 0) 0 [] := ⟨by simp, .inr ⟨g, 0, #[], rfl, e3, e2, Nat.le_refl _, by unfold maxLen; omega, rfl, rfl⟩⟩
              have q64 : a'.eval (.tmp 64) = .slice (some ⟨g, 0, none⟩) 0 0 := e1
              have q67b : a'.eval (.tmp 67) = .slice p N c := q67
              refine wp_append_hs _ _ rfl BB _ q64 hO _ fs q67b (HVW.out.below hT.bel) (by rw [HNN.out]; omega) hBW ?_
              intro v' w' hown' hgrow
              rw [HNN.out] at hown'
              have keep : ∀ (q : Nat) (ob : Obj), W.heap[q]? = some ob → q ≠ g → w'.heap[q]? = some ob := fun q ob hq hne => (hgrow.block q (Array.getElem?_eq_some_iff.1 hq).1 (by simpa [Value.ownBlock] using hne)).trans hq
              refine ⟨v', rfl, fun _ => hown', hT.step 4 (by decide) (Below.grown hT.bel hgrow hT.bel.size (by rw [HBB.out]; exact own_geH hO)), fun j u hj hF => ?_⟩
              match j, hF with
              | 1, h | 2, h | 3, h | 5, h | 6, h | 7, h | 8, h | 9, h | 10, h | 11, h | 12, h | 13, h | 14, h | 17, h | 18, h => exact h
              | 0, h => exact fun e => by simp at e
              | 4, h => rw [hfi] at hj; cases hj
              | 15, h =>
                intro e
                obtain ⟨g2, e5, e6⟩ := h (by simpa using e)
                refine ⟨g2, e5, keep _ _ e6 ?_⟩
                rintro rfl
                rw [e2] at e6
                cases e6
              | 16, h =>
                rw [hT.n16 hfi] at hj; cases hj
              | n + 19, h => exact h.elim
            | 5, _, ho =>
              cases ho
              have q3 : a'.tmps.getD 3 undef = .string lb := (hrest 3 (by intro i hi; show 64 + min i 18 ≠ _; omega))
              have e3 := rg_ev q3
              exact rg_same3 (.string lb) (by unfold Oper.wp execOp; go_simp; all_goals ((try simp only [e3]); (try go_simp); (try rw [if_pos (by omega)]); (try rw [if_neg (by omega)]); first | done | rfl | exact ⟨rfl, rfl⟩ | trivial)) rfl (hT.step 5 (by decide) hT.bel) (fun j v' h => enF_up 5 h)
            | 6, _, ho =>
              cases ho
              have q4 : a'.tmps.getD 4 undef = .int .i64 k := (hrest 4 (by intro i hi; show 64 + min i 18 ≠ _; omega))
              have e4 := rg_ev q4
              exact rg_same3 (.int .i64 k) (by unfold Oper.wp execOp; go_simp; all_goals ((try simp only [e4]); (try go_simp); (try rw [if_pos (by omega)]); (try rw [if_neg (by omega)]); first | done | rfl | exact ⟨rfl, rfl⟩ | trivial)) rfl (hT.step 6 (by decide) hT.bel) (fun j v' h => enF_up 6 h)
            | 7, _, ho =>
              cases ho
              have f69 := (hpre { on := 5, ground := .data } (by simp) rfl).1
              have q69 : a'.tmps.getD 69 undef = .string lb := (hpre { on := 5, ground := .data } (by simp) rfl).2
              have f70 := (hpre { on := 6, ground := .data } (by simp) rfl).1
              have q70 : a'.tmps.getD 70 undef = .int .i64 k := (hpre { on := 6, ground := .data } (by simp) rfl).2
              have eNB := HNB.out
              have e69 := rg_ev q69
              have e70 := rg_ev q70
              exact rg_same3 (.string nb) (by unfold Oper.wp execOp; go_simp; all_goals ((try simp only [e69, e70]); (try go_simp); (try rw [if_pos (by omega)]); (try rw [if_neg (by omega)]); first | done | rfl | exact ⟨rfl, rfl⟩ | trivial)) rfl (hT.step 7 (by decide) hT.bel) (fun j v' h => enF_up 7 h)
            | 8, _, ho =>
              cases ho
              have f71 := (hpre { on := 7, ground := .data } (by simp) rfl).1
              have q71 : a'.tmps.getD 71 undef = .string nb := (hpre { on := 7, ground := .data } (by simp) rfl).2
              exact rg_call 71 33 _ _ _ rfl q71 (enters_of Tryd.func33 (by kernel_rfl) rfl) (KL.out W) (fun e w' h => ⟨_, h.1, _, rfl, rfl, hT.step 8 (by decide) (hT.bel.trans (h.2.mono hT.bel.size)), fun j v' _ hF => enF_up 8 (enF_below h.2 hF)⟩)
            | 9, _, ho =>
              cases ho
              have q3 : a'.tmps.getD 3 undef = .string lb := (hrest 3 (by intro i hi; show 64 + min i 18 ≠ _; omega))
              have e3 := rg_ev q3
              exact rg_same3 (.string lb) (by unfold Oper.wp execOp; go_simp; all_goals ((try simp only [e3]); (try go_simp); (try rw [if_pos (by omega)]); (try rw [if_neg (by omega)]); first | done | rfl | exact ⟨rfl, rfl⟩ | trivial)) rfl (hT.step 9 (by decide) hT.bel) (fun j v' h => enF_up 9 h)
            | 10, _, ho =>
              cases ho
              have q4 : a'.tmps.getD 4 undef = .int .i64 k := (hrest 4 (by intro i hi; show 64 + min i 18 ≠ _; omega))
              have e4 := rg_ev q4
              exact rg_same3 (.int .i64 k) (by unfold Oper.wp execOp; go_simp; all_goals ((try simp only [e4]); (try go_simp); (try rw [if_pos (by omega)]); (try rw [if_neg (by omega)]); first | done | rfl | exact ⟨rfl, rfl⟩ | trivial)) rfl (hT.step 10 (by decide) hT.bel) (fun j v' h => enF_up 10 h)
            | 11, _, ho =>
              cases ho
              have f74 := (hpre { on := 10, ground := .data } (by simp) rfl).1
              have q74 : a'.tmps.getD 74 undef = .int .i64 k := (hpre { on := 10, ground := .data } (by simp) rfl).2
              have eW : IntKind.i64.wrap ((k : Int) + 1) = (k : Int) + 1 := by rw [IntKind.wrap_i64]; omega
              have e74 := rg_ev q74
              exact rg_same3 (.int .i64 ((k : Int) + 1)) (by unfold Oper.wp execOp; go_simp; all_goals ((try simp only [e74]); (try go_simp); (try rw [if_pos (by omega)]); (try rw [if_neg (by omega)]); first | done | rfl | exact ⟨rfl, rfl⟩ | trivial)) rfl (hT.step 11 (by decide) hT.bel) (fun j v' h => enF_up 11 h)
            | 12, _, ho =>
              cases ho
              have f73 := (hpre { on := 9, ground := .data } (by simp) rfl).1
              have q73 : a'.tmps.getD 73 undef = .string lb := (hpre { on := 9, ground := .data } (by simp) rfl).2
              have f75 := (hpre { on := 11, ground := .data } (by simp) rfl).1
              have q75 : a'.tmps.getD 75 undef = .int .i64 ((k : Int) + 1) := (hpre { on := 11, ground := .data } (by simp) rfl).2
              have eTB := HTB.out
              have e73 := rg_ev q73
              have e75 := rg_ev q75
              exact rg_same3 (.string tb) (by unfold Oper.wp execOp; go_simp; all_goals ((try simp only [e73, e75]); (try go_simp); (try rw [if_pos (by omega)]); (try rw [if_neg (by omega)]); first | done | rfl | exact ⟨rfl, rfl⟩ | trivial)) rfl (hT.step 12 (by decide) hT.bel) (fun j v' h => enF_up 12 h)
            | 13, _, ho =>
              cases ho
              have f76 := (hpre { on := 12, ground := .data } (by simp) rfl).1
              have q76 : a'.tmps.getD 76 undef = .string tb := (hpre { on := 12, ground := .data } (by simp) rfl).2
              exact rg_call 76 63 _ _ _ rfl q76 (enters_of Tryd.func63 (by kernel_rfl) rfl) (KT.out W) (fun e w' h => ⟨_, h.1, _, rfl, rfl, h.2 ▸ hT.step 13 (by decide) hT.bel, fun j v' _ hF => h.2 ▸ enF_up 13 hF⟩)
            | 14, _, ho =>
              cases ho
              have f72 := (hpre { on := 8, ground := .data } (by simp) rfl).1
              have q72 : a'.tmps.getD 72 undef = .string lo := (hpre { on := 8, ground := .data } (by simp) rfl).2
              have f77 := (hpre { on := 13, ground := .data } (by simp) rfl).1
              have q77 : a'.tmps.getD 77 undef = .string tr := (hpre { on := 13, ground := .data } (by simp) rfl).2
              have e72 := rg_ev q72
              have e77 := rg_ev q77
              exact rg_same3 (.agg #[.string lo, .string tr]) (by unfold Oper.wp execOp; go_simp; all_goals ((try simp only [e72, e77]); (try go_simp); (try rw [if_pos (by omega)]); (try rw [if_neg (by omega)]); first | done | rfl | exact ⟨rfl, rfl⟩ | trivial)) rfl (hT.step 14 (by decide) hT.bel) (fun j v' h => enF_up 14 h)
            | 15, _, ho =>
              cases ho
              have f78 := (hpre { on := 14, ground := .data } (by simp) rfl).1
              have q78 : a'.tmps.getD 78 undef = .agg #[.string lo, .string tr] := (hpre { on := 14, ground := .data } (by simp) rfl).2
              have hBW : BB ≤ W.heap.size := HBB.out ▸ hT.bel.size
              have e78 := rg_ev q78
              unfold Oper.wp execOp
              go_simp
              refine ⟨_, rfl, fun _ => ⟨W.heap.size, rfl, World.alloc_heap_new _ _⟩, ?_, fun j v' _ hF => ?_⟩
              · have h5 := hT.step (w' := W.alloc (.cells #[.string lo, .string tr] 74)) 15 (by decide) (hT.bel.alloc hT.bel.size _)
                simpa using h5
              · have h5 := enF_up 15 (enF_below (w' := W.alloc (.cells #[.string lo, .string tr] 74)) ((Below.refl W.heap.size W).alloc (Nat.le_refl _) _) hF)
                simpa using h5
            | 16, _, ho =>
              cases ho
              have f68 := (hpre { on := 4, ground := .data } (by simp) rfl).1
              have h68 := (hpre { on := 4, ground := .data } (by simp) rfl).2
              have f79 := (hpre { on := 15, ground := .data } (by simp) rfl).1
              have h79 := (hpre { on := 15, ground := .data } (by simp) rfl).2
              have hBW : BB ≤ W.heap.size := HBB.out ▸ hT.bel.size
              have hO : W.ownsRow BB 74 2 (a'.tmps.getD 68 undef) N (hds fs) := h68 hfi
              obtain ⟨g, e1, e2⟩ := h79 hfi
              have q79b : a'.eval (.tmp 79) = .slice (some ⟨g, 0, none⟩) 1 1 := e1
              obtain ⟨y68, hy68⟩ : ∃ z, a'.tmps.getD 68 undef = z := ⟨_, rfl⟩
              have q68b : a'.eval (.tmp 68) = y68 := hy68
              rw [hy68] at hO
              refine wp_append_own _ _ _ 43 rfl BB 74 i0 (.agg #[.string ByteArray.empty, .string ByteArray.empty]) 2 32 Tryd.underlying43 hi hz0 hz1 hz2 rfl (by decide) y68 N (hds fs) q68b hO ⟨g, 0, none⟩ 1 1 [.string lo, .string tr] q79b rfl ?_ ?_ ?_ ?_ ?_ ?_
              · intro j u hj
                match j, hj with
                | 0, hj => simp at hj; subst hj; simp [Addr.add, World.cell?, e2]
                | 1, hj => simp at hj; subst hj; simp [Addr.add, World.cell?, e2]
              · intro u hu; simp at hu; rcases hu with rfl | rfl <;> rfl
              · unfold maxLen; omega
              · omega
              · exact hBW
              · intro v' w' hown' hgrow _
                refine ⟨v', rfl, hown', ⟨Below.grown hT.bel hgrow hT.bel.size (by rw [HBB.out]; exact own_geH hO), fun h4 => by simp [f68] at h4⟩, fun j u hj hF => ?_⟩
                match j, hF with
                | 1, h | 2, h | 3, h | 5, h | 6, h | 7, h | 8, h | 9, h | 10, h | 11, h | 12, h | 13, h | 14, h | 17, h | 18, h => exact h
                | 0, h => exact fun e => absurd e (by simp [f68])
                | 4, h => exact fun e => by simp at e
                | 15, h => exact fun e => by simp at e
                | 16, h => rw [hfi] at hj; cases hj
                | n + 19, h => exact h.elim
            | 17, _, ho =>
              cases ho
              have q1 : a'.tmps.getD 1 undef = .pointer (some ⟨H, 0, none⟩) := (hrest 1 (by intro i hi; show 64 + min i 18 ≠ _; omega))
              have e1 := rg_ev q1
              exact rg_same3 (.pointer (some ⟨H, 3, none⟩)) (by unfold Oper.wp execOp; go_simp; all_goals ((try simp only [e1]); (try go_simp); (try rw [if_pos (by omega)]); (try rw [if_neg (by omega)]); first | done | rfl | exact ⟨rfl, rfl⟩ | trivial)) rfl (hT.step 17 (by decide) hT.bel) (fun j v' h => enF_up 17 h)
            | 18, _, ho =>
              cases ho
              have f81 := (hpre { on := 17, ground := .data } (by simp) rfl).1
              have q81 : a'.tmps.getD 81 undef = .pointer (some ⟨H, 3, none⟩) := (hpre { on := 17, ground := .data } (by simp) rfl).2
              have e81 := rg_ev q81
              exact rg_same3 (.pointer (some ⟨H, 4, none⟩)) (by unfold Oper.wp execOp; go_simp; all_goals ((try simp only [e81]); (try go_simp); (try rw [if_pos (by omega)]); (try rw [if_neg (by omega)]); first | done | rfl | exact ⟨rfl, rfl⟩ | trivial)) rfl (hT.step 18 (by decide) hT.bel) (fun j v' h => enF_up 18 h)
            | n + 19, hib, _ => exact absurd hib (by omega)
          case last =>
            intro f vs W oL ho hall hT hvs
            have hopL : oL.op = Op.store 43 (.tmp 82) (.tmp 80) := by cases ho; rfl
            have hdsL : oL.dst = none := by cases ho; rfl
            clear ho hall
            obtain ⟨y0, v0, w0⟩ : ∃ z, vs 0 = z ∧ enF BB H N c k p fs lb nb lo tb tr f 0 W z := ⟨_, rfl, hvs 0 (by decide)⟩
            have v1 : vs 1 = .pointer (some ⟨H, 3, none⟩) := hvs 1 (by decide)
            have v2 : vs 2 = .pointer (some ⟨H, 4, none⟩) := hvs 2 (by decide)
            have v3 : vs 3 = .slice p N c := hvs 3 (by decide)
            obtain ⟨y4, v4, w4⟩ : ∃ z, vs 4 = z ∧ enF BB H N c k p fs lb nb lo tb tr f 4 W z := ⟨_, rfl, hvs 4 (by decide)⟩
            have v5 : vs 5 = .string lb := hvs 5 (by decide)
            have v6 : vs 6 = .int .i64 k := hvs 6 (by decide)
            have v7 : vs 7 = .string nb := hvs 7 (by decide)
            have v8 : vs 8 = .string lo := hvs 8 (by decide)
            have v9 : vs 9 = .string lb := hvs 9 (by decide)
            have v10 : vs 10 = .int .i64 k := hvs 10 (by decide)
            have v11 : vs 11 = .int .i64 ((k : Int) + 1) := hvs 11 (by decide)
            have v12 : vs 12 = .string tb := hvs 12 (by decide)
            have v13 : vs 13 = .string tr := hvs 13 (by decide)
            have v14 : vs 14 = .agg #[.string lo, .string tr] := hvs 14 (by decide)
            obtain ⟨y15, v15, w15⟩ : ∃ z, vs 15 = z ∧ enF BB H N c k p fs lb nb lo tb tr f 15 W z := ⟨_, rfl, hvs 15 (by decide)⟩
            obtain ⟨y16, v16, w16⟩ : ∃ z, vs 16 = z ∧ enF BB H N c k p fs lb nb lo tb tr f 16 W z := ⟨_, rfl, hvs 16 (by decide)⟩
            have v17 : vs 17 = .pointer (some ⟨H, 3, none⟩) := hvs 17 (by decide)
            have v18 : vs 18 = .pointer (some ⟨H, 4, none⟩) := hvs 18 (by decide)
            simp only [fillN, List.size_toArray, List.length_cons, List.length_nil, Nat.reduceAdd, show List.range 19 = [0, 1, 2, 3, 4, 5, 6, 7, 8, 9, 10, 11, 12, 13, 14, 15, 16, 17, 18] from rfl, List.foldl_cons, List.foldl_nil, show 64 + min 0 18 = 64 from rfl, show 64 + min 1 18 = 65 from rfl, show 64 + min 2 18 = 66 from rfl, show 64 + min 3 18 = 67 from rfl, show 64 + min 4 18 = 68 from rfl, show 64 + min 5 18 = 69 from rfl, show 64 + min 6 18 = 70 from rfl, show 64 + min 7 18 = 71 from rfl, show 64 + min 8 18 = 72 from rfl, show 64 + min 9 18 = 73 from rfl, show 64 + min 10 18 = 74 from rfl, show 64 + min 11 18 = 75 from rfl, show 64 + min 12 18 = 76 from rfl, show 64 + min 13 18 = 77 from rfl, show 64 + min 14 18 = 78 from rfl, show 64 + min 15 18 = 79 from rfl, show 64 + min 16 18 = 80 from rfl, show 64 + min 17 18 = 81 from rfl, show 64 + min 18 18 = 82 from rfl, v0, v1, v2, v3, v4, v5, v6, v7, v8, v9, v10, v11, v12, v13, v14, v15, v16, v17, v18]
            clear v0 v1 v2 v3 v4 v5 v6 v7 v8 v9 v10 v11 v12 v13 v14 v15 v16 v17 v18 hvs
            have hgB14 := (show W.ownsRow BB 74 2 y16 (N + 1) (hds fs ++ [.string lo, .string tr]) from w16).lt
            obtain ⟨g14, c14, rfl⟩ := Go.Joins.ownsRow_form (show W.ownsRow BB 74 2 y16 (N + 1) (hds fs ++ [.string lo, .string tr]) from w16) (by omega)
            have hg14 : H + 2 ≤ g14 := by have h := (hgB14 g14 rfl).1; rw [← HBB.out, HZ0.out] at h; exact h
            clear hgB14
            have hgH := (hT.bel.block H (by rw [HZ0.out]; omega)).trans HG0.out
            have hgH1 := (hT.bel.block (H + 1) (by rw [HZ0.out]; omega)).trans HG1.out
            have hSR : HS W (.slice (some ⟨g14, 0, none⟩) (N + 1) c14) (fs ++ [(Tp.lower (line.take k), Tp.trim (line.drop (k + 1)))]) := by
              have h := w16
              have e : (fs ++ [(Tp.lower (line.take k), Tp.trim (line.drop (k + 1)))]).length = N + 1 := by rw [List.length_append, HNN.out]; rfl
              refine HS.own (B := BB) ?_
              rw [e, hds_snoc]
              unfold Hp.sx
              simp only [HLO.out, HTR.out]
              exact h
            have hcA : W.cell? ⟨H, 4, none⟩ = some (.slice p N c) := by simp [World.cell?, hgH]
            have hzA : W.frozen? ⟨H, 4, none⟩ = false := frozen_of_row _ _ _ _ _ hgH
            have HBT := Lib.hid hT.bel
            unfold Oper.wp execOp
            simp only [hopL]
            go_simp
            have hgB : W.heap.size ≥ H + 2 := by have := hT.bel.size; rw [HZ0.out] at this; exact this
            have hg9 := heap_setCell_same _ _ 4 _ _ (.slice (some ⟨g14, 0, none⟩) (N + 1) c14) hgH
            have hg91 := (Below.heap_setCell W ⟨H, 4, none⟩ (.slice (some ⟨g14, 0, none⟩) (N + 1) c14) (H + 1) (by simp)).trans hgH1
            have hsz9 : (W.setCell ⟨H, 4, none⟩ (.slice (some ⟨g14, 0, none⟩) (N + 1) c14)).heap.size = W.heap.size := by simp
            have HSR := Lib.hid (show HS (W.setCell ⟨H, 4, none⟩ (.slice (some ⟨g14, 0, none⟩) (N + 1) c14)) (.slice (some ⟨g14, 0, none⟩) (N + 1) c14) (fs ++ [(Tp.lower (line.take k), Tp.trim (line.drop (k + 1)))]) from by
              have e : (fs ++ [(Tp.lower (line.take k), Tp.trim (line.drop (k + 1)))]).length = N + 1 := by rw [List.length_append, HNN.out]; rfl
              refine HS.own (B := BB) ?_
              rw [e, hds_snoc]
              unfold Hp.sx
              simp only [HLO.out, HTR.out]
              exact ownsRow_setCell_below (a := ⟨H, 4, none⟩) w16 (by rw [← HBB.out, HZ0.out]; show H < H + 2; omega) _)
            have HBR := Lib.hid (show Below w.heap.size w (W.setCell ⟨H, 4, none⟩ (.slice (some ⟨g14, 0, none⟩) (N + 1) c14)) from
              ⟨HBW.out.os.symm ▸ hT.bel.os, hT.bel.tape.trans HBW.out.tape, hT.bel.output.trans HBW.out.output, by rw [hsz9, HHH.out]; omega, fun q hq => (Below.heap_setCell _ _ _ _ (by rw [HHH.out] at hq; exact Nat.ne_of_lt hq)).trans ((hT.bel.block q (by rw [HZ0.out, ← HHH.out]; omega)).trans (HBW.out.block q hq))⟩)
            obtain ⟨W9, hW9⟩ : ∃ Z, W.setCell ⟨H, 4, none⟩ (.slice (some ⟨g14, 0, none⟩) (N + 1) c14) = Z := ⟨_, rfl⟩
            rw [hW9] at HSR HBR hg9 hg91 ⊢
            simp only [List.setIfInBounds_toArray, List.set_cons_succ, List.set_cons_zero] at hg9
            clear hW9 hsz9 hgB hcA hzA hSR hgH hgH1 hT w16 w0 w4 w15 hopL hdsL
            have a0 : W9.cell? ⟨H, 0, none⟩ = some (.int .i64 8192) := by simp [World.cell?, hg9]
            have a1 : W9.cell? ⟨H, 1, none⟩ = some (.int .i64 65536) := by simp [World.cell?, hg9]
            have a2 : W9.cell? ⟨H, 2, none⟩ = some (.int .i64 256) := by simp [World.cell?, hg9]
            have a3 : W9.cell? ⟨H, 3, none⟩ = some (.string fb) := by simp [World.cell?, hg9]
            have a4 : W9.cell? ⟨H, 4, none⟩ = some (.slice (some ⟨g14, 0, none⟩) (N + 1) c14) := by simp [World.cell?, hg9]
            have a5 : W9.cell? ⟨H, 5, none⟩ = some (.string ⟨#[]⟩) := by simp [World.cell?, hg9]
            have a6 : W9.cell? ⟨H, 6, none⟩ = some (.int .i64 n) := by simp [World.cell?, hg9]
            have a7 : W9.cell? ⟨H, 7, none⟩ = some (.bool false) := by simp [World.cell?, hg9]
            have a8 : W9.cell? ⟨H, 8, none⟩ = some (.bool done) := by simp [World.cell?, hg9]
            have a9 : W9.cell? ⟨H, 9, none⟩ = some (.int .i64 bad) := by simp [World.cell?, hg9]
            have HG9 := Lib.hid hg9
            have HG91 := Lib.hid hg91
            have z0 : W9.cell? ⟨H + 1, 0, none⟩ = some (.int .i64 0) := by simp [World.cell?, hg91]
            have y0 : W9.frozen? ⟨H + 1, 0, none⟩ = false := frozen_of_row _ _ _ _ _ hg91
            have z1 : W9.cell? ⟨H + 1, 1, none⟩ = some (.int .i64 0) := by simp [World.cell?, hg91]
            have y1 : W9.frozen? ⟨H + 1, 1, none⟩ = false := frozen_of_row _ _ _ _ _ hg91
            have z2 : W9.cell? ⟨H + 1, 2, none⟩ = some (.int .i64 0) := by simp [World.cell?, hg91]
            have y2 : W9.frozen? ⟨H + 1, 2, none⟩ = false := frozen_of_row _ _ _ _ _ hg91
            have z3 : W9.cell? ⟨H + 1, 3, none⟩ = some (.string ⟨#[]⟩) := by simp [World.cell?, hg91]
            have y3 : W9.frozen? ⟨H + 1, 3, none⟩ = false := frozen_of_row _ _ _ _ _ hg91
            have z4 : W9.cell? ⟨H + 1, 4, none⟩ = some (.slice none 0 0) := by simp [World.cell?, hg91]
            have y4 : W9.frozen? ⟨H + 1, 4, none⟩ = false := frozen_of_row _ _ _ _ _ hg91
            have z5 : W9.cell? ⟨H + 1, 5, none⟩ = some (.string ⟨#[]⟩) := by simp [World.cell?, hg91]
            have y5 : W9.frozen? ⟨H + 1, 5, none⟩ = false := frozen_of_row _ _ _ _ _ hg91
            have z6 : W9.cell? ⟨H + 1, 6, none⟩ = some (.int .i64 0) := by simp [World.cell?, hg91]
            have y6 : W9.frozen? ⟨H + 1, 6, none⟩ = false := frozen_of_row _ _ _ _ _ hg91
            have z7 : W9.cell? ⟨H + 1, 7, none⟩ = some (.bool false) := by simp [World.cell?, hg91]
            have y7 : W9.frozen? ⟨H + 1, 7, none⟩ = false := frozen_of_row _ _ _ _ _ hg91
            have z8 : W9.cell? ⟨H + 1, 8, none⟩ = some (.bool false) := by simp [World.cell?, hg91]
            have y8 : W9.frozen? ⟨H + 1, 8, none⟩ = false := frozen_of_row _ _ _ _ _ hg91
            have z9 : W9.cell? ⟨H + 1, 9, none⟩ = some (.int .i64 0) := by simp [World.cell?, hg91]
            have y9 : W9.frozen? ⟨H + 1, 9, none⟩ = false := frozen_of_row _ _ _ _ _ hg91
            clear hg9 hg91
            go_wp2_with fail
            simp [bodyPost, results, Tryd.results48, go_sem, z0, z1, z2, z3, z4, z5, z6, z7, z8, z9]
            rw [HEN.out, HNA.out, HTK.out, HRA.out]
            simp only [List.isEmpty_cons, Bool.false_eq_true, if_false, if_true, List.drop_one, List.tail_cons]
            refine ⟨⟨_, HS.setCells10 HSR.out (by omega) _ _ _ _ _ _ _ _ _ _, by simp only [rdC, HFB.out, show bx [] = (⟨#[]⟩ : ByteArray) from rfl]; try rfl⟩, ?_⟩
            have hB9 := HBR.out
            have hHH := HHH.out
            exact (((((((((hB9.setCell (p := ⟨H + 1, 0, none⟩) (by rw [hHH]; exact Nat.le_succ H) _).setCell (p := ⟨H + 1, 1, none⟩) (by rw [hHH]; exact Nat.le_succ H) _).setCell (p := ⟨H + 1, 2, none⟩) (by rw [hHH]; exact Nat.le_succ H) _).setCell (p := ⟨H + 1, 3, none⟩) (by rw [hHH]; exact Nat.le_succ H) _).setCell (p := ⟨H + 1, 4, none⟩) (by rw [hHH]; exact Nat.le_succ H) _).setCell (p := ⟨H + 1, 5, none⟩) (by rw [hHH]; exact Nat.le_succ H) _).setCell (p := ⟨H + 1, 6, none⟩) (by rw [hHH]; exact Nat.le_succ H) _).setCell (p := ⟨H + 1, 7, none⟩) (by rw [hHH]; exact Nat.le_succ H) _).setCell (p := ⟨H + 1, 8, none⟩) (by rw [hHH]; exact Nat.le_succ H) _).setCell (p := ⟨H + 1, 9, none⟩) (by rw [hHH]; exact Nat.le_succ H) _
          case start => exact ⟨HDR.out, fun _ => rfl⟩
      · have hy : ((lb[k].toNat : Int) == 58) = false := beq_eq_false_iff_ne.2 (fun h => hc (by
          rw [HX.out] at h
          have h' : (line.getD k 0).toNat = 58 := by exact_mod_cast h
          rw [← UInt8.toNat_inj]; simpa using h'))
        have HNE := Lib.hid (show ∀ j, j < k + 1 → line.getD j 0 ≠ 58 from fun j hj => by
          by_cases hjk : j = k
          · rw [hjk]; exact hc
          · exact HA.out j (by omega))
        clear hc
        go_wp2_with fail
        go_round
        case rel => exact ⟨k + 1, hlt, by go_num, HNE.out⟩
        case measure => simp [intOf]; omega
    · have HRN := Lib.hid (rest_none (l := line) (fun j hj => HA.out j (by have := HSZ.out; omega)))
      go_wp2_with fail
      subst hH
      simp [bodyPost, results, Tryd.results48, go_sem]
      rw [HEN.out, HRN.out]
      simp only [List.isEmpty_nil, if_true]
      exact ⟨⟨_, HV.out.below (two_allocs _ _ _), by simp only [rdC, HFB.out, show bx [] = (⟨#[]⟩ : ByteArray) from rfl]; try rfl⟩, two_allocs _ _ _⟩
/-- a line ends -/
theorem ref_ends (r : Hr.Rd) (v : Value) (w : World) (hv : RV w v r) (hl : r.fs.length ≤ 256) (hz : r.line.length ≤ 8192) (hd : r.done = false) :
    Calls Tryd.prog 48 #[v] w fun e w' => ∃ v', e = .returned v' ∧ RV w' v' (Hr.ends r) ∧ Below w.heap.size w w' := by
  obtain ⟨F, fs, line, n, cr, done, bad⟩ := r
  simp only at hl hz hd
  subst hd
  by_cases hL : line = []
  · by_cases hF : F = []
    · have h := ref_ends_1 F line fs n cr false bad v w hv hl hz hF hL
      unfold Hr.ends
      rw [if_pos hL, if_pos hF]
      exact h
    · have h := ref_ends_2 F line fs n cr false bad v w hv hl hz hF hL
      unfold Hr.ends
      rw [if_pos hL, if_neg hF]
      exact h
  · by_cases hF : F = []
    · cases hB : Tp.blankB (line.headD 0) with
      | true =>
        have h := ref_ends_3 F line fs n cr false bad v w hv hl hz hF hL hB
        unfold Hr.ends
        rw [if_neg hL, if_pos hF, if_pos hB]
        exact h
      | false =>
        have h := ref_ends_4 F line fs n cr false bad v w hv hl hz hF hL hB
        unfold Hr.ends
        rw [if_neg hL, if_pos hF, if_neg (by simp only; rw [hB]; decide)]
        exact h
    · by_cases hB : 256 ≤ fs.length
      · have h := ref_ends_5 F line fs n cr false bad v w hv hl hz hF hL hB
        unfold Hr.ends
        rw [if_neg hL, if_neg hF, if_pos hB]
        exact h
      · exact ref_ends_6 F line fs n cr false bad v w hv (by omega) hz hF hL
end Go.Proofs.YthfdnlcalefjeaaDoor

/- The reference's reader of heads: byteOf, Caps at the widest. -/
namespace Go.Proofs.YthfdnlcalefjeaaDoor
set_option linter.unusedVariables false
set_option linter.unusedSimpArgs false
open Go.RowKit Go.Shelf
set_option maxHeartbeats 4000000
set_option maxRecDepth 100000
theorem ref_byteOf (x : Int) (w : World) (h0 : 0 ≤ x) (h1 : x < 256) :
    Calls Tryd.prog 49 #[.int .u8 x] w fun e w' => e = .returned (.bool (Tp.valB x)) ∧ w' = w := by
  go_enter Tryd.func49, Tryd.ntmps49
  go_wp2_with fail
  all_goals
    go_ret
    refine ⟨?_, rfl⟩
    refine congrArg (fun b => Ending.returned (Value.bool b)) (Bool.eq_iff_iff.2 ?_)
    first
      | decide
      | (unfold Tp.valB; simp only [Bool.or_eq_true, Bool.and_eq_true, decide_eq_true_eq, beq_iff_eq, true_iff, iff_true]; omega)
      | (unfold Tp.valB; simp only [Bool.or_eq_true, Bool.and_eq_true, decide_eq_true_eq, beq_iff_eq]; constructor <;> intro <;> omega)
theorem ref_Caps (w : World) :
    Calls Tryd.prog 34 #[.agg #[.int .i64 8192, .int .i64 65536, .int .i64 256]] w fun e w' => e = .returned (.bool true) ∧ Below w.heap.size w w' := by
  obtain ⟨H, hH⟩ : ∃ H, w.heap.size = H := ⟨_, rfl⟩
  obtain ⟨W1, hW1⟩ : ∃ Z, w.alloc (.cells #[.int .i64 8192, .int .i64 65536, .int .i64 256] 42) = Z := ⟨_, rfl⟩
  have HB1 := Lib.hid (show Below w.heap.size w W1 by rw [← hW1]; exact (Below.refl _ _).alloc (Nat.le_refl _) _)
  have hg : W1.heap[H]? = some (.cells #[.int .i64 8192, .int .i64 65536, .int .i64 256] 42 (0, 0)) := by rw [← hW1, ← hH]; exact World.alloc_heap_new _ _
  have a0 : W1.cell? ⟨H, 0, none⟩ = some (.int .i64 8192) := by simp [World.cell?, hg]
  have a1 : W1.cell? ⟨H, 1, none⟩ = some (.int .i64 65536) := by simp [World.cell?, hg]
  have a2 : W1.cell? ⟨H, 2, none⟩ = some (.int .i64 256) := by simp [World.cell?, hg]
  have HW := Lib.hid hW1
  have HHH := Lib.hid hH
  clear hW1 hH hg
  go_enter Tryd.func34, Tryd.ntmps34
  go_wp2_with fail
  rw [HW.out, HHH.out]
  go_wp2_with fail
  go_ret
  exact ⟨rfl, by rw [← HHH.out]; exact HB1.out⟩
end Go.Proofs.YthfdnlcalefjeaaDoor

/- The reference's reader of heads: a byte comes. Printed by genJd.py. -/
namespace Go.Proofs.YthfdnlcalefjeaaDoor
set_option linter.unusedVariables false
set_option linter.unusedSimpArgs false
open Go.RowKit Go.Shelf
set_option maxHeartbeats 8000000
set_option maxRecDepth 100000
theorem three_allocs (w : World) (a b c : Obj) : Below w.heap.size w (((w.alloc a).alloc b).alloc c) := (two_allocs w a b).alloc (by simp; omega) _
theorem bx_snoc (l : List UInt8) (c : UInt8) : bx l ++ (⟨#[c]⟩ : ByteArray) = bx (l ++ [c]) := by
  apply ByteArray.ext; apply Array.ext'; simp [bx]
/-- headers do not lie in a reader's block -/
theorem HS.reader {w : World} {b : Nat} {V : Value} {L : List Hp.Hd} (h : HS w V L) {b0 b1 b2 b6 b9 : Int} {s3 s5 : ByteArray} {p : Option Addr} {n c : Nat} {t7 t8 : Bool} {T : TypeId}
    (hz : w.heap[b]? = some (.cells #[.int .i64 b0, .int .i64 b1, .int .i64 b2, .string s3, .slice p n c, .string s5, .int .i64 b6, .bool t7, .bool t8, .int .i64 b9] T (0, 0))) (u0 u1 u2 u3 u4 u5 u6 u7 u8 u9 : Value) :
    HS ((((((((((w.setCell ⟨b, 0, none⟩ u0).setCell ⟨b, 1, none⟩ u1).setCell ⟨b, 2, none⟩ u2).setCell ⟨b, 3, none⟩ u3).setCell ⟨b, 4, none⟩ u4).setCell ⟨b, 5, none⟩ u5).setCell ⟨b, 6, none⟩ u6).setCell ⟨b, 7, none⟩ u7).setCell ⟨b, 8, none⟩ u8).setCell ⟨b, 9, none⟩ u9) V L := by
  rcases h with ⟨rfl, rfl⟩ | ⟨g, o, cap, rfl, h3⟩
  · exact .inl ⟨rfl, rfl⟩
  · by_cases hL : L.length = 0
    · exact .inr ⟨g, o, cap, rfl, fun j hj => absurd hj (by omega)⟩
    · have hne : b ≠ g := by
        rintro rfl
        obtain ⟨h1, h2⟩ := h3 0 (by omega)
        unfold Hp.sx at h1 h2
        simp only [World.cell?, hz, Nat.zero_mul, Nat.add_zero, Option.isSome_none, Bool.false_eq_true, if_false] at h1 h2
        match o, h1, h2 with
        | 0, h1, _ | 1, h1, _ | 2, h1, _ | 4, h1, _ | 6, h1, _ | 7, h1, _ | 8, h1, _ | 9, h1, _ => simp at h1
        | 3, _, h2 | 5, _, h2 => simp at h2
        | n + 10, h1, _ => simp at h1
      have h := (show HS w (.slice (some ⟨g, o, none⟩) L.length cap) L from .inr ⟨g, o, cap, rfl, h3⟩)
      exact (((((((((h.setCell _ hne _).setCell _ hne _).setCell _ hne _).setCell _ hne _).setCell _ hne _).setCell _ hne _).setCell _ hne _).setCell _ hne _).setCell _ hne _).setCell _ hne _
theorem Below.set10 {B : Nat} {a w : World} (h : Below B a w) {b : Nat} (hb : B ≤ b) (u0 u1 u2 u3 u4 u5 u6 u7 u8 u9 : Value) : Below B a ((((((((((w.setCell ⟨b, 0, none⟩ u0).setCell ⟨b, 1, none⟩ u1).setCell ⟨b, 2, none⟩ u2).setCell ⟨b, 3, none⟩ u3).setCell ⟨b, 4, none⟩ u4).setCell ⟨b, 5, none⟩ u5).setCell ⟨b, 6, none⟩ u6).setCell ⟨b, 7, none⟩ u7).setCell ⟨b, 8, none⟩ u8).setCell ⟨b, 9, none⟩ u9) :=
  (((((((((h.setCell (p := ⟨b, 0, none⟩) hb _).setCell (p := ⟨b, 1, none⟩) hb _).setCell (p := ⟨b, 2, none⟩) hb _).setCell (p := ⟨b, 3, none⟩) hb _).setCell (p := ⟨b, 4, none⟩) hb _).setCell (p := ⟨b, 5, none⟩) hb _).setCell (p := ⟨b, 6, none⟩) hb _).setCell (p := ⟨b, 7, none⟩) hb _).setCell (p := ⟨b, 8, none⟩) hb _).setCell (p := ⟨b, 9, none⟩) hb _

theorem ref_come_1 (F line : List UInt8) (fs : List Hp.Hd) (n : Nat) (cr done : Bool) (bad : Nat) (c8 : UInt8) (v : Value) (w : World) (hv : RV w v ⟨F, fs, line, n, cr, done, bad⟩) (hl : fs.length ≤ 256) (hz : line.length ≤ 8192) (hn : n ≤ 100000) (h : 65536 < n + 1) :
    Calls Tryd.prog 43 #[v, .int .u8 (c8.toNat : Int)] w fun e w' => ∃ v', e = .returned v' ∧ RV w' v' ⟨F, fs, line, n + 1, cr, done, 201⟩ ∧ Below w.heap.size w w' := by
  obtain ⟨V, hV, rfl⟩ := hv
  obtain ⟨p, c, rfl⟩ := hV.slice
  obtain ⟨N, hN⟩ : ∃ N, fs.length = N := ⟨_, rfl⟩
  have HNN := Lib.hid hN
  have HV := Lib.hid hV
  rw [hN] at HV ⊢
  have hc1 := c8.toNat_lt
  obtain ⟨x, hx⟩ : ∃ x : Int, (c8.toNat : Int) = x := ⟨_, rfl⟩
  have HX := Lib.hid hx
  have hx0 : 0 ≤ x := by omega
  have hx1 : x < 256 := by omega
  have h1 : 65536 < (n : Int) + 1 := by omega
  rw [hx] 
  have hsz := bx_size line
  unfold rdC
  simp only
  obtain ⟨fb, hfb⟩ : ∃ z, bx F = z := ⟨_, rfl⟩
  obtain ⟨lb, hlb⟩ : ∃ z, bx line = z := ⟨_, rfl⟩
  have HFB := Lib.hid hfb
  have HLB := Lib.hid hlb
  rw [hfb]
  rw [hlb] at hsz ⊢
  have hlz : lb.size ≤ 8192 := by omega
  clear hfb hlb hN hV hx hc1 hl hz hsz
  obtain ⟨H, hH⟩ : ∃ H, w.heap.size = H := ⟨_, rfl⟩
  go_enter Tryd.func43, Tryd.ntmps43
  go_wp2_with fail
  subst hH
  simp [bodyPost, results, Tryd.results43, go_sem]
  exact ⟨⟨_, HV.out.below (two_allocs _ _ _), by try simp only [rdC, HFB.out, HLB.out]; try rfl⟩, two_allocs _ _ _⟩

theorem ref_come_2 (F line : List UInt8) (fs : List Hp.Hd) (n : Nat) (cr done : Bool) (bad : Nat) (c8 : UInt8) (v : Value) (w : World) (hv : RV w v ⟨F, fs, line, n, cr, done, bad⟩) (hl : fs.length ≤ 256) (hz : line.length ≤ 8192) (hn : n ≤ 100000) (h : ¬ 65536 < n + 1) (hc : cr = true) (ht : c8 ≠ 10) :
    Calls Tryd.prog 43 #[v, .int .u8 (c8.toNat : Int)] w fun e w' => ∃ v', e = .returned v' ∧ RV w' v' ⟨F, fs, line, n + 1, cr, done, 200⟩ ∧ Below w.heap.size w w' := by
  obtain ⟨V, hV, rfl⟩ := hv
  obtain ⟨p, c, rfl⟩ := hV.slice
  obtain ⟨N, hN⟩ : ∃ N, fs.length = N := ⟨_, rfl⟩
  have HNN := Lib.hid hN
  have HV := Lib.hid hV
  rw [hN] at HV ⊢
  have hc1 := c8.toNat_lt
  obtain ⟨x, hx⟩ : ∃ x : Int, (c8.toNat : Int) = x := ⟨_, rfl⟩
  have HX := Lib.hid hx
  have hx0 : 0 ≤ x := by omega
  have hx1 : x < 256 := by omega
  have h1 : ¬ (65536 < (n : Int) + 1) := by omega
  have h2 : (c8.toNat : Int) ≠ 10 := fun e => ht (by rw [← UInt8.toNat_inj]; have : c8.toNat = 10 := by omega
                                                     simpa using this)
  subst hc
  rw [hx] at h2 ⊢
  have hsz := bx_size line
  unfold rdC
  simp only
  obtain ⟨fb, hfb⟩ : ∃ z, bx F = z := ⟨_, rfl⟩
  obtain ⟨lb, hlb⟩ : ∃ z, bx line = z := ⟨_, rfl⟩
  have HFB := Lib.hid hfb
  have HLB := Lib.hid hlb
  rw [hfb]
  rw [hlb] at hsz ⊢
  have hlz : lb.size ≤ 8192 := by omega
  clear hfb hlb hN hV hx hc1 hl hz hsz
  obtain ⟨H, hH⟩ : ∃ H, w.heap.size = H := ⟨_, rfl⟩
  go_enter Tryd.func43, Tryd.ntmps43
  go_wp2_with fail
  subst hH
  simp [bodyPost, results, Tryd.results43, go_sem]
  exact ⟨⟨_, HV.out.below (two_allocs _ _ _), by try simp only [rdC, HFB.out, HLB.out]; try rfl⟩, two_allocs _ _ _⟩

theorem ref_come_4 (F line : List UInt8) (fs : List Hp.Hd) (n : Nat) (cr done : Bool) (bad : Nat) (c8 : UInt8) (v : Value) (w : World) (hv : RV w v ⟨F, fs, line, n, cr, done, bad⟩) (hl : fs.length ≤ 256) (hz : line.length ≤ 8192) (hn : n ≤ 100000) (h : ¬ 65536 < n + 1) (hc : cr = false) (ht : c8 = 13) :
    Calls Tryd.prog 43 #[v, .int .u8 (c8.toNat : Int)] w fun e w' => ∃ v', e = .returned v' ∧ RV w' v' ⟨F, fs, line, n + 1, true, done, bad⟩ ∧ Below w.heap.size w w' := by
  obtain ⟨V, hV, rfl⟩ := hv
  obtain ⟨p, c, rfl⟩ := hV.slice
  obtain ⟨N, hN⟩ : ∃ N, fs.length = N := ⟨_, rfl⟩
  have HNN := Lib.hid hN
  have HV := Lib.hid hV
  rw [hN] at HV ⊢
  have hc1 := c8.toNat_lt
  obtain ⟨x, hx⟩ : ∃ x : Int, (c8.toNat : Int) = x := ⟨_, rfl⟩
  have HX := Lib.hid hx
  have hx0 : 0 ≤ x := by omega
  have hx1 : x < 256 := by omega
  have h1 : ¬ (65536 < (n : Int) + 1) := by omega
  have h2 : (c8.toNat : Int) = 13 := by rw [ht]; rfl
  subst hc
  rw [hx] at h2 ⊢
  have hsz := bx_size line
  unfold rdC
  simp only
  obtain ⟨fb, hfb⟩ : ∃ z, bx F = z := ⟨_, rfl⟩
  obtain ⟨lb, hlb⟩ : ∃ z, bx line = z := ⟨_, rfl⟩
  have HFB := Lib.hid hfb
  have HLB := Lib.hid hlb
  rw [hfb]
  rw [hlb] at hsz ⊢
  have hlz : lb.size ≤ 8192 := by omega
  clear hfb hlb hN hV hx hc1 hl hz hsz
  obtain ⟨H, hH⟩ : ∃ H, w.heap.size = H := ⟨_, rfl⟩
  go_enter Tryd.func43, Tryd.ntmps43
  go_wp2_with fail
  subst hH
  simp [bodyPost, results, Tryd.results43, go_sem]
  exact ⟨⟨_, HV.out.below (two_allocs _ _ _), by try simp only [rdC, HFB.out, HLB.out]; try rfl⟩, two_allocs _ _ _⟩

theorem ref_come_5 (F line : List UInt8) (fs : List Hp.Hd) (n : Nat) (cr done : Bool) (bad : Nat) (c8 : UInt8) (v : Value) (w : World) (hv : RV w v ⟨F, fs, line, n, cr, done, bad⟩) (hl : fs.length ≤ 256) (hz : line.length ≤ 8192) (hn : n ≤ 100000) (h : ¬ 65536 < n + 1) (hc : cr = false) (ht : c8 ≠ 13) (hB : Tp.valB (c8.toNat : Int) = false) :
    Calls Tryd.prog 43 #[v, .int .u8 (c8.toNat : Int)] w fun e w' => ∃ v', e = .returned v' ∧ RV w' v' ⟨F, fs, line, n + 1, false, done, 200⟩ ∧ Below w.heap.size w w' := by
  obtain ⟨V, hV, rfl⟩ := hv
  obtain ⟨p, c, rfl⟩ := hV.slice
  obtain ⟨N, hN⟩ : ∃ N, fs.length = N := ⟨_, rfl⟩
  have HNN := Lib.hid hN
  have HV := Lib.hid hV
  rw [hN] at HV ⊢
  have hc1 := c8.toNat_lt
  obtain ⟨x, hx⟩ : ∃ x : Int, (c8.toNat : Int) = x := ⟨_, rfl⟩
  have HX := Lib.hid hx
  have hx0 : 0 ≤ x := by omega
  have hx1 : x < 256 := by omega
  have h1 : ¬ (65536 < (n : Int) + 1) := by omega
  have h2 : (c8.toNat : Int) ≠ 13 := fun e => ht (by rw [← UInt8.toNat_inj]; have : c8.toNat = 13 := by omega
                                                     simpa using this)
  subst hc
  rw [hx] at h2 hB ⊢
  have hsz := bx_size line
  unfold rdC
  simp only
  obtain ⟨fb, hfb⟩ : ∃ z, bx F = z := ⟨_, rfl⟩
  obtain ⟨lb, hlb⟩ : ∃ z, bx line = z := ⟨_, rfl⟩
  have HFB := Lib.hid hfb
  have HLB := Lib.hid hlb
  rw [hfb]
  rw [hlb] at hsz ⊢
  have hlz : lb.size ≤ 8192 := by omega
  have HVB := Lib.hid hB
  clear hB
  clear hfb hlb hN hV hx hc1 hl hz hsz
  obtain ⟨H, hH⟩ : ∃ H, w.heap.size = H := ⟨_, rfl⟩
  go_enter Tryd.func43, Tryd.ntmps43
  go_wp2_with fail
  refine (ref_byteOf x _ hx0 hx1).mono ?_
  rintro e w' ⟨rfl, rfl⟩
  rw [HVB.out]
  go_wp2_with fail
  subst hH
  simp [bodyPost, results, Tryd.results43, go_sem]
  exact ⟨⟨_, HV.out.below (two_allocs _ _ _), by try simp only [rdC, HFB.out, HLB.out]; try rfl⟩, two_allocs _ _ _⟩

theorem ref_come_6 (F line : List UInt8) (fs : List Hp.Hd) (n : Nat) (cr done : Bool) (bad : Nat) (c8 : UInt8) (v : Value) (w : World) (hv : RV w v ⟨F, fs, line, n, cr, done, bad⟩) (hl : fs.length ≤ 256) (hz : line.length ≤ 8192) (hn : n ≤ 100000) (h : ¬ 65536 < n + 1) (hc : cr = false) (ht : c8 ≠ 13) (hB : Tp.valB (c8.toNat : Int) = true) (hL : 8192 ≤ line.length) :
    Calls Tryd.prog 43 #[v, .int .u8 (c8.toNat : Int)] w fun e w' => ∃ v', e = .returned v' ∧ RV w' v' ⟨F, fs, line, n + 1, false, done, 201⟩ ∧ Below w.heap.size w w' := by
  obtain ⟨V, hV, rfl⟩ := hv
  obtain ⟨p, c, rfl⟩ := hV.slice
  obtain ⟨N, hN⟩ : ∃ N, fs.length = N := ⟨_, rfl⟩
  have HNN := Lib.hid hN
  have HV := Lib.hid hV
  rw [hN] at HV ⊢
  have hc1 := c8.toNat_lt
  obtain ⟨x, hx⟩ : ∃ x : Int, (c8.toNat : Int) = x := ⟨_, rfl⟩
  have HX := Lib.hid hx
  have hx0 : 0 ≤ x := by omega
  have hx1 : x < 256 := by omega
  have h1 : ¬ (65536 < (n : Int) + 1) := by omega
  have h2 : (c8.toNat : Int) ≠ 13 := fun e => ht (by rw [← UInt8.toNat_inj]; have : c8.toNat = 13 := by omega
                                                     simpa using this)
  subst hc
  rw [hx] at h2 hB ⊢
  have hsz := bx_size line
  unfold rdC
  simp only
  obtain ⟨fb, hfb⟩ : ∃ z, bx F = z := ⟨_, rfl⟩
  obtain ⟨lb, hlb⟩ : ∃ z, bx line = z := ⟨_, rfl⟩
  have HFB := Lib.hid hfb
  have HLB := Lib.hid hlb
  rw [hfb]
  rw [hlb] at hsz ⊢
  have hlz : lb.size ≤ 8192 := by omega
  have HVB := Lib.hid hB
  clear hB
  have h8 : lb.size = 8192 := by omega
  clear hfb hlb hN hV hx hc1 hl hz hsz
  obtain ⟨H, hH⟩ : ∃ H, w.heap.size = H := ⟨_, rfl⟩
  go_enter Tryd.func43, Tryd.ntmps43
  go_wp2_with fail
  refine (ref_byteOf x _ hx0 hx1).mono ?_
  rintro e w' ⟨rfl, rfl⟩
  rw [HVB.out]
  go_wp2_with fail
  subst hH
  simp [bodyPost, results, Tryd.results43, go_sem]
  exact ⟨⟨_, HV.out.below (two_allocs _ _ _), by try simp only [rdC, HFB.out, HLB.out]; try rfl⟩, two_allocs _ _ _⟩

theorem ref_come_7 (F line : List UInt8) (fs : List Hp.Hd) (n : Nat) (cr done : Bool) (bad : Nat) (c8 : UInt8) (v : Value) (w : World) (hv : RV w v ⟨F, fs, line, n, cr, done, bad⟩) (hl : fs.length ≤ 256) (hz : line.length ≤ 8192) (hn : n ≤ 100000) (h : ¬ 65536 < n + 1) (hc : cr = false) (ht : c8 ≠ 13) (hB : Tp.valB (c8.toNat : Int) = true) (hL : ¬ 8192 ≤ line.length) :
    Calls Tryd.prog 43 #[v, .int .u8 (c8.toNat : Int)] w fun e w' => ∃ v', e = .returned v' ∧ RV w' v' ⟨F, fs, line ++ [c8], n + 1, false, done, bad⟩ ∧ Below w.heap.size w w' := by
  obtain ⟨V, hV, rfl⟩ := hv
  obtain ⟨p, c, rfl⟩ := hV.slice
  obtain ⟨N, hN⟩ : ∃ N, fs.length = N := ⟨_, rfl⟩
  have HNN := Lib.hid hN
  have HV := Lib.hid hV
  rw [hN] at HV ⊢
  have hc1 := c8.toNat_lt
  obtain ⟨x, hx⟩ : ∃ x : Int, (c8.toNat : Int) = x := ⟨_, rfl⟩
  have HX := Lib.hid hx
  have hx0 : 0 ≤ x := by omega
  have hx1 : x < 256 := by omega
  have h1 : ¬ (65536 < (n : Int) + 1) := by omega
  have h2 : (c8.toNat : Int) ≠ 13 := fun e => ht (by rw [← UInt8.toNat_inj]; have : c8.toNat = 13 := by omega
                                                     simpa using this)
  subst hc
  rw [hx] at h2 hB ⊢
  have hsz := bx_size line
  unfold rdC
  simp only
  obtain ⟨fb, hfb⟩ : ∃ z, bx F = z := ⟨_, rfl⟩
  obtain ⟨lb, hlb⟩ : ∃ z, bx line = z := ⟨_, rfl⟩
  have HFB := Lib.hid hfb
  have HLB := Lib.hid hlb
  rw [hfb]
  rw [hlb] at hsz ⊢
  have hlz : lb.size ≤ 8192 := by omega
  have HVB := Lib.hid hB
  clear hB
  have h8 : ¬ (8192 ≤ (lb.size : Int)) := by omega
  clear hL h
  have HSN := Lib.hid (show lb ++ (⟨#[c8]⟩ : ByteArray) = bx (line ++ [c8]) by rw [← hlb]; exact bx_snoc line c8)
  have kc : ∀ (W : World) (b : Nat), W.cell? ⟨b, 0, none⟩ = some (.int .u8 x) → (convert 26 9 (.slice (some ⟨b, 0, none⟩) 1 1)).run Tryd.prog W = .ok (.string ⟨#[c8]⟩) W := fun W b h => conv_brow (l := [c8]) ⟨_, 1, rfl, Nat.le_refl _, .inr ⟨b, 0, rfl, fun j hj => by
    have : j = 0 := by simpa using hj
    subst this
    rw [show by8 ([c8].getD 0 0) = .int .u8 x by rw [← hx]; rfl]
    exact h⟩⟩
  clear hfb hlb hN hV hx hc1 hl hz hsz
  obtain ⟨H, hH⟩ : ∃ H, w.heap.size = H := ⟨_, rfl⟩
  go_enter Tryd.func43, Tryd.ntmps43
  go_wp2_with fail
  refine (ref_byteOf x _ hx0 hx1).mono ?_
  rintro e w' ⟨rfl, rfl⟩
  rw [HVB.out]
  clear h1 h2 ht
  go_wp2_with fail
  subst hH
  simp [bodyPost, results, Tryd.results43, go_sem]
  exact ⟨⟨_, HV.out.below (three_allocs _ _ _ _), by try simp only [rdC, HFB.out, HLB.out, HSN.out]; try rfl⟩, three_allocs _ _ _ _⟩

theorem ref_come_3 (F line : List UInt8) (fs : List Hp.Hd) (n : Nat) (cr done : Bool) (bad : Nat) (c8 : UInt8) (v : Value) (w : World) (hv : RV w v ⟨F, fs, line, n, cr, done, bad⟩) (hl : fs.length ≤ 256) (hz : line.length ≤ 8192) (hn : n ≤ 100000) (h : ¬ 65536 < n + 1) (hc : cr = true) (ht : c8 = 10) (hd : done = false) :
    Calls Tryd.prog 43 #[v, .int .u8 (c8.toNat : Int)] w fun e w' => ∃ v', e = .returned v' ∧ RV w' v' (Hr.ends ⟨F, fs, line, n + 1, true, false, bad⟩) ∧ Below w.heap.size w w' := by
  obtain ⟨V, hV, rfl⟩ := hv
  obtain ⟨p, c, rfl⟩ := hV.slice
  obtain ⟨N, hN⟩ : ∃ N, fs.length = N := ⟨_, rfl⟩
  have HNN := Lib.hid hN
  have HV := Lib.hid hV
  rw [hN] at HV ⊢
  have hc1 := c8.toNat_lt
  obtain ⟨x, hx⟩ : ∃ x : Int, (c8.toNat : Int) = x := ⟨_, rfl⟩
  have HX := Lib.hid hx
  have hx0 : 0 ≤ x := by omega
  have hx1 : x < 256 := by omega
  have h1 : ¬ (65536 < (n : Int) + 1) := by omega
  have h2 : (c8.toNat : Int) = 10 := by rw [ht]; rfl
  subst hc hd
  rw [hx] at h2 ⊢
  have hsz := bx_size line
  unfold rdC
  simp only
  obtain ⟨fb, hfb⟩ : ∃ z, bx F = z := ⟨_, rfl⟩
  obtain ⟨lb, hlb⟩ : ∃ z, bx line = z := ⟨_, rfl⟩
  have HFB := Lib.hid hfb
  have HLB := Lib.hid hlb
  rw [hfb]
  rw [hlb] at hsz ⊢
  have hlz : lb.size ≤ 8192 := by omega
  clear hfb hlb hN hV hx hc1 hsz
  obtain ⟨H, hH⟩ : ∃ H, w.heap.size = H := ⟨_, rfl⟩
  go_enter Tryd.func43, Tryd.ntmps43
  go_wp2_with fail
  refine (ref_ends ⟨F, fs, line, n + 1, true, false, bad⟩ _ _ ⟨_, HV.out.below (two_allocs _ _ _), by simp only [rdC, HFB.out, HLB.out]; rfl⟩ hl hz rfl).mono ?_
  rintro e w' ⟨v', rfl, ⟨V2, hV2, rfl⟩, hb⟩
  have hg1 : w'.heap[H + 1]? = some (.cells #[.int .i64 0, .int .i64 0, .int .i64 0, .string ⟨#[]⟩, .slice none 0 0, .string ⟨#[]⟩, .int .i64 0, .bool false, .bool false, .int .i64 0] 79 (0, 0)) := by
    refine (hb.block (H + 1) (by simp; omega)).trans ?_
    rw [← hH]; have h := World.alloc_heap_new (w.alloc (.cells #[.int .i64 8192, .int .i64 65536, .int .i64 256, .string fb, .slice p N c, .string lb, .int .i64 ((n : Int) + 1), .bool true, .bool false, .int .i64 bad] 79)) (.cells #[.int .i64 0, .int .i64 0, .int .i64 0, .string ⟨#[]⟩, .slice none 0 0, .string ⟨#[]⟩, .int .i64 0, .bool false, .bool false, .int .i64 0] 79); simpa using h
  have HB := Lib.hid (show Below w.heap.size w w' from (two_allocs _ _ _).trans (hb.mono (by simp; omega)))
  obtain ⟨p2, c2, rfl⟩ := hV2.slice
  obtain ⟨N2, hN2⟩ : ∃ z, (Hr.ends ⟨F, fs, line, n + 1, true, false, bad⟩).fs.length = z := ⟨_, rfl⟩
  rw [hN2] at hV2 ⊢
  have HV2 := Lib.hid hV2
  obtain ⟨r2, hr2⟩ : ∃ z, Hr.ends ⟨F, fs, line, n + 1, true, false, bad⟩ = z := ⟨_, rfl⟩
  rw [hr2] at HV2 ⊢
  have HR2 := Lib.hid hr2
  obtain ⟨F2, fs2, l2, n2, cr2, d2, b2⟩ := r2
  simp only [rdC] at HV2 ⊢
  clear hr2 hN2 hV2 hb
  have z0 : w'.cell? ⟨H + 1, 0, none⟩ = some (.int .i64 0) := by simp [World.cell?, hg1]
  have y0 : w'.frozen? ⟨H + 1, 0, none⟩ = false := frozen_of_row _ _ _ _ _ hg1
  have z1 : w'.cell? ⟨H + 1, 1, none⟩ = some (.int .i64 0) := by simp [World.cell?, hg1]
  have y1 : w'.frozen? ⟨H + 1, 1, none⟩ = false := frozen_of_row _ _ _ _ _ hg1
  have z2 : w'.cell? ⟨H + 1, 2, none⟩ = some (.int .i64 0) := by simp [World.cell?, hg1]
  have y2 : w'.frozen? ⟨H + 1, 2, none⟩ = false := frozen_of_row _ _ _ _ _ hg1
  have z3 : w'.cell? ⟨H + 1, 3, none⟩ = some (.string ⟨#[]⟩) := by simp [World.cell?, hg1]
  have y3 : w'.frozen? ⟨H + 1, 3, none⟩ = false := frozen_of_row _ _ _ _ _ hg1
  have z4 : w'.cell? ⟨H + 1, 4, none⟩ = some (.slice none 0 0) := by simp [World.cell?, hg1]
  have y4 : w'.frozen? ⟨H + 1, 4, none⟩ = false := frozen_of_row _ _ _ _ _ hg1
  have z5 : w'.cell? ⟨H + 1, 5, none⟩ = some (.string ⟨#[]⟩) := by simp [World.cell?, hg1]
  have y5 : w'.frozen? ⟨H + 1, 5, none⟩ = false := frozen_of_row _ _ _ _ _ hg1
  have z6 : w'.cell? ⟨H + 1, 6, none⟩ = some (.int .i64 0) := by simp [World.cell?, hg1]
  have y6 : w'.frozen? ⟨H + 1, 6, none⟩ = false := frozen_of_row _ _ _ _ _ hg1
  have z7 : w'.cell? ⟨H + 1, 7, none⟩ = some (.bool false) := by simp [World.cell?, hg1]
  have y7 : w'.frozen? ⟨H + 1, 7, none⟩ = false := frozen_of_row _ _ _ _ _ hg1
  have z8 : w'.cell? ⟨H + 1, 8, none⟩ = some (.bool false) := by simp [World.cell?, hg1]
  have y8 : w'.frozen? ⟨H + 1, 8, none⟩ = false := frozen_of_row _ _ _ _ _ hg1
  have z9 : w'.cell? ⟨H + 1, 9, none⟩ = some (.int .i64 0) := by simp [World.cell?, hg1]
  have y9 : w'.frozen? ⟨H + 1, 9, none⟩ = false := frozen_of_row _ _ _ _ _ hg1
  have HG1 := Lib.hid hg1
  clear hg1
  go_wp2_with fail
  subst hH
  simp [bodyPost, results, Tryd.results43, go_sem, z0, z1, z2, z3, z4, z5, z6, z7, z8, z9]
  rw [HR2.out]
  exact ⟨⟨_, HS.reader HV2.out HG1.out _ _ _ _ _ _ _ _ _ _, rfl⟩, Below.set10 HB.out (by omega) _ _ _ _ _ _ _ _ _ _⟩

/-- a byte comes -/
theorem ref_come (r : Hr.Rd) (c8 : UInt8) (v : Value) (w : World) (hv : RV w v r) (hl : r.fs.length ≤ 256) (hz : r.line.length ≤ 8192) (hn : r.n ≤ 100000) (hd : r.done = false) :
    Calls Tryd.prog 43 #[v, .int .u8 (c8.toNat : Int)] w fun e w' => ∃ v', e = .returned v' ∧ RV w' v' (Hr.come c8 r) ∧ Below w.heap.size w w' := by
  obtain ⟨F, fs, line, n, cr, done, bad⟩ := r
  simp only at hl hz hd hn
  subst hd
  unfold Hr.come
  simp only
  by_cases h1 : 65536 < n + 1
  · rw [if_pos h1]
    exact ref_come_1 F line fs n cr false bad c8 v w hv hl hz hn h1
  · rw [if_neg h1]
    cases cr with
    | true =>
      by_cases h2 : c8 = 10
      · rw [if_neg (fun h => h.2 h2), if_pos rfl]
        exact ref_come_3 F line fs n true false bad c8 v w hv hl hz hn h1 rfl h2 rfl
      · rw [if_pos ⟨rfl, h2⟩]
        exact ref_come_2 F line fs n true false bad c8 v w hv hl hz hn h1 rfl h2
    | false =>
      rw [if_neg (by simp), if_neg (by simp)]
      by_cases h3 : c8 = 13
      · rw [if_pos h3]
        exact ref_come_4 F line fs n false false bad c8 v w hv hl hz hn h1 rfl h3
      · rw [if_neg h3]
        cases h4 : Tp.valB (c8.toNat : Int) with
        | false =>
          rw [if_pos rfl]
          exact ref_come_5 F line fs n false false bad c8 v w hv hl hz hn h1 rfl h3 h4
        | true =>
          rw [if_neg (by decide)]
          by_cases h5 : 8192 ≤ line.length
          · rw [if_pos h5]
            exact ref_come_6 F line fs n false false bad c8 v w hv hl hz hn h1 rfl h3 h4 h5
          · rw [if_neg h5]
            exact ref_come_7 F line fs n false false bad c8 v w hv hl hz hn h1 rfl h3 h4 h5

end Go.Proofs.YthfdnlcalefjeaaDoor
