/- Texts of this claim, one behind the other: Hk, Hl, Hi, Hh, Hm, Hn, Ho, LAP, LAS. -/
import Derived.Test.YthfdnlcalefjeaaDoorCASm2
/- The reference's reasons and answers. -/
namespace Go.Proofs.YthfdnlcalefjeaaDoor
set_option linter.unusedVariables false
set_option linter.unusedSimpArgs false
open Go.RowKit Go.Shelf
set_option maxHeartbeats 8000000
set_option maxRecDepth 100000
namespace Hp
def stI : List Value := stats.map fun s => .int .i64 s.1
def stR : List Value := stats.map fun s => sx s.2
theorem st_at : ∀ j, j < 8 → stI[j]? = some (.int .i64 (st j).1) ∧ stR[j]? = some (sx (st j).2) := by
  intro j hj
  match j, hj with
  | 0, _ | 1, _ | 2, _ | 3, _ | 4, _ | 5, _ | 6, _ | 7, _ => exact ⟨rfl, rfl⟩
end Hp
theorem ref_Statuses (w : World) : Calls Tryd.prog 22 #[] w fun e w' => e = .returned (.slice (some ⟨w.heap.size, 0, none⟩) 8 8) ∧ w' = w.alloc (.cells Hp.stI.toArray 3) := by
  go_enter Tryd.func22, Tryd.ntmps22
  go_wp2_with fail
  go_ret
  exact ⟨rfl, rfl⟩
theorem ref_Reasons (w : World) : Calls Tryd.prog 23 #[] w fun e w' => e = .returned (.slice (some ⟨w.heap.size, 0, none⟩) 8 8) ∧ w' = w.alloc (.cells Hp.stR.toArray 9) := by
  go_enter Tryd.func23, Tryd.ntmps23
  go_wp2_with fail
  go_ret
  exact ⟨rfl, rfl⟩
theorem ref_Reason (n : Int) (w : World) :
    Calls Tryd.prog 11 #[.int .i64 n] w fun e w' => e = .returned (Hp.reaOut (Hp.reason n)) ∧ Below w.heap.size w w' := by
  obtain ⟨S, hS⟩ : ∃ S, w.heap.size = S := ⟨_, rfl⟩
  obtain ⟨W1, hW1⟩ : ∃ Z, w.alloc (.cells Hp.stI.toArray 3) = Z := ⟨_, rfl⟩
  have HB1 := Lib.hid (show Below w.heap.size w W1 by rw [← hW1]; exact (Below.refl _ _).alloc (Nat.le_refl _) _)
  have HG1 := Lib.hid (show W1.heap[S]? = some (.cells Hp.stI.toArray 3 (0, 0)) by rw [← hW1, ← hS]; exact World.alloc_heap_new _ _)
  have HK := Lib.hid (ref_Statuses w)
  have HSS := Lib.hid hS
  have HW1 := Lib.hid hW1
  have HRS := Lib.hid (ref_Reasons W1)
  clear hS hW1
  go_enter Tryd.func11, Tryd.ntmps11
  go_wp2_with fail
  refine HK.out.mono ?_
  rintro e w1 ⟨rfl, rfl⟩
  rw [HW1.out, HSS.out]
  go_wp2_with fail
  go_loop [5] (fun i => ∃ k : Nat, k ≤ 8 ∧ i = .int .i64 k ∧ Hp.NoS n k) (fun i => 8 - (intOf i).toNat)
  case atStart => exact ⟨0, Nat.zero_le _, rfl, fun s hs => by simp at hs⟩
  case round =>
    obtain ⟨k, hk, rfl, hall⟩ := hrel
    have HA := Lib.hid hall
    clear hall
    by_cases hlt : k < 8
    · obtain ⟨h1, h2⟩ := Hp.st_at k hlt
      have hc : W1.cell? ⟨S, k, none⟩ = some (.int .i64 (Hp.st k).1) := by simp only [World.cell?, HG1.out, List.getElem?_toArray, h1]; rfl
      obtain ⟨a, ha⟩ : ∃ a, (Hp.st k).1 = a := ⟨_, rfl⟩
      rw [ha] at hc
      have HAA := Lib.hid ha
      clear ha
      by_cases he : a = n
      · have HR := Lib.hid (Hp.noS_hit HA.out hlt (HAA.out.trans he))
        have e1 : (a == n) = true := beq_iff_eq.2 he
        obtain ⟨R, hR⟩ : ∃ R, W1.heap.size = R := ⟨_, rfl⟩
        obtain ⟨W2, hW2⟩ : ∃ Z, W1.alloc (.cells Hp.stR.toArray 9) = Z := ⟨_, rfl⟩
        have HB2 := Lib.hid (show Below w.heap.size w W2 by rw [← hW2]; exact HB1.out.alloc HB1.out.size _)
        have hg2 : W2.heap[R]? = some (.cells Hp.stR.toArray 9 (0, 0)) := by rw [← hW2, ← hR]; exact World.alloc_heap_new _ _
        have hc2 : W2.cell? ⟨R, k, none⟩ = some (Hp.sx (Hp.st k).2) := by simp only [World.cell?, hg2, List.getElem?_toArray, h2]; rfl
        obtain ⟨x, hx⟩ : ∃ x, Hp.sx (Hp.st k).2 = x := ⟨_, rfl⟩
        rw [hx] at hc2
        have HX := Lib.hid hx
        have HW2 := Lib.hid hW2
        have HRR := Lib.hid hR
        clear he h1 h2 hg2 hx hW2 hR
        go_wp2_with fail
        refine HRS.out.mono ?_
        rintro e w3 ⟨rfl, hw3⟩
        rw [HW2.out] at hw3
        subst hw3
        rw [HRR.out]
        go_wp2_with fail
        go_ret2
        exact ⟨by rw [HR.out, ← HX.out]; rfl, HB2.out⟩
      · have HN := Lib.hid (Hp.noS_next HA.out hlt (by rw [HAA.out]; exact he))
        have e1 : (a == n) = false := beq_eq_false_iff_ne.2 he
        clear he h1 h2
        go_wp2_with fail
        go_round
        case rel => exact ⟨k + 1, by omega, by go_num, HN.out⟩
        case measure => simp [intOf]; omega
    · have HF := Lib.hid (Hp.noS_end (n := n) (by have := HA.out; rwa [show k = 8 by omega] at this))
      go_wp2_with fail
      go_ret2
      exact ⟨by rw [HF.out]; rfl, HB1.out⟩
/-- a head that the reference puts together -/
def RSt (w0 : World) (A B : Nat) (F : ByteArray) (fs : List Hp.Hd) (w : World) : Prop := ∃ V, w.heap[A]? = some (.cells #[.string F, V] 45 (0, 0)) ∧ w.ownsRow B 74 2 V fs.length (hds fs) ∧ B ≤ w.heap.size ∧ w0.heap.size ≤ B ∧ w0.heap.size ≤ A ∧ Below w0.heap.size w0 w
theorem rst_put {w0 w w' : World} {A B : Nat} {F : ByteArray} {fs : List Hp.Hd} {V v' : Value} (hA : w.heap[A]? = some (.cells #[.string F, V] 45 (0, 0))) (hO : w.ownsRow B 74 2 V fs.length (hds fs)) (hB : B ≤ w.heap.size) (h0 : w0.heap.size ≤ B) (hA0 : w0.heap.size ≤ A) (hb : Below w0.heap.size w0 w)
    (p : Hp.Hd) (ob : Obj) (hown : w'.ownsRow B 74 2 v' (fs.length + 1) (hds fs ++ [Hp.sx p.1, Hp.sx p.2])) (hg : (w.alloc ob).grownBy w' V.ownBlock) :
    w'.heap[A]? = some (.cells #[.string F, V] 45 (0, 0)) ∧ RSt w0 A B F (fs ++ [p]) (w'.setCell ⟨A, 1, none⟩ v') := by
  have hA2 := heap_alloc_old' ob hA
  have h1 : w'.heap[A]? = some (.cells #[.string F, V] 45 (0, 0)) := (hg.block A (Array.getElem?_eq_some_iff.1 hA2).1 (own_ne hO hA (by decide))).trans hA2
  refine ⟨h1, v', heap_setCell_same _ _ 1 _ _ _ h1, ?_, ?_, h0, hA0, ?_⟩
  · rw [hds_snoc, List.length_append]
    refine ⟨hown.1, hown.2.imp id ?_⟩
    rintro ⟨g, cap, cur, e1, e2, e3, e4⟩
    refine ⟨g, cap, cur, e1, e2, ?_, e4⟩
    rw [Below.heap_setCell _ _ _ _ (fun e => by
      have e5 : g = A := e
      rw [e5, h1] at e3
      injection Option.some.inj e3 with _ h5 _
      exact absurd h5 (by decide))]
    exact e3
  · have := hg.size
    simp at this ⊢
    omega
  · exact (Below.grown (hb.alloc (Nat.le_trans h0 hB) _) hg (by simp; omega) (fun k hk => Nat.le_trans h0 (own_geH hO k hk))).setCell (p := ⟨A, 1, none⟩) hA0 _
/-- what the reference tells -/
def RfOut (o : Option (List UInt8)) : Value := .tuple #[Hp.sx (o.getD []), .int .i64 (erOf o)]
theorem rst_bytes {w0 w : World} {A B : Nat} {F : List UInt8} {fs : List Hp.Hd} (h : RSt w0 A B ⟨F.toArray⟩ fs w) (hF : F.length ≤ 100000) (hl : fs.length ≤ 1000) (hs : ∀ f ∈ fs, f.1.length ≤ 100000 ∧ f.2.length ≤ 100000) :
    ∃ V, w.cell? ⟨A, 0, none⟩ = some (.string ⟨F.toArray⟩) ∧ w.cell? ⟨A, 1, none⟩ = some V ∧ Calls Tryd.prog 32 #[.agg #[.string ⟨F.toArray⟩, V]] w fun e w' => e = .returned (.string ⟨(Hp.hbytes F fs).toArray⟩) ∧ Below w0.heap.size w0 w' := by
  obtain ⟨V, hA, hO, hB, h0, hA0, hb⟩ := h
  refine ⟨V, by simp [World.cell?, hA], by simp [World.cell?, hA], (ref_Bytes F V fs w (HS.own hO) hF hl hs).mono ?_⟩
  rintro e w' ⟨rfl, hb2⟩
  exact ⟨rfl, hb.trans (hb2.mono hb.size)⟩
end Go.Proofs.YthfdnlcalefjeaaDoor

/- The reference's plain answers. -/
namespace Go.Proofs.YthfdnlcalefjeaaDoor
set_option linter.unusedVariables false
set_option linter.unusedSimpArgs false
open Go.RowKit Go.Shelf
set_option maxHeartbeats 8000000
set_option maxRecDepth 100000
theorem ba_len (l : List UInt8) : (⟨l.toArray⟩ : ByteArray).size = l.length := by simp [ByteArray.size]
theorem ref_Plain (n : Int) (text : ByteArray) (w : World) (hn : -9223372036854775808 ≤ n ∧ n ≤ 9223372036854775807) (ht : text.size ≤ 9223372036854775807) :
    Calls Tryd.prog 12 #[.int .i64 n, .string text] w fun e w' => e = .returned (RfOut (Hp.plain n text.data.toList)) ∧ Below w.heap.size w w' := by
  obtain ⟨i0, hi, hz0, hz1, hz2⟩ := info_parts (show (Tryd.prog.info? 74).map (fun i => (i.zero, i.size, i.bytes)) = some (some (.agg #[.string ByteArray.empty, .string ByteArray.empty]), 2, 32) by kernel_rfl)
  have KR := Lib.hid (ref_Reason n w)
  have HTS := Lib.hid (show text.data.toList.length = text.size from rfl)
  obtain ⟨o, ho⟩ : ∃ o, Hp.reason n = o := ⟨_, rfl⟩
  rw [ho] at KR
  cases o with
  | none =>
    have HPL := Lib.hid (show Hp.plain n text.data.toList = none by unfold Hp.plain; rw [ho])
    unfold Hp.reaOut at KR
    clear ho
    go_enter Tryd.func12, Tryd.ntmps12
    go_wp2_with fail
    refine KR.out.mono ?_
    rintro e w2 ⟨rfl, hb2⟩
    have HB2 := Lib.hid hb2
    clear hb2
    go_wp2_with fail
    go_ret2
    exact ⟨by rw [HPL.out]; rfl, HB2.out⟩
  | some r =>
    have hok := Hp.reason_ok ho
    by_cases hlen : text.size ≤ 1000
    · obtain ⟨m, rfl⟩ : ∃ m : Nat, n = (m : Int) := ⟨n.toNat, by omega⟩
      have HPL := Lib.hid (show Hp.plain m text.data.toList = some (Hp.hbytes (Hp.first m r) (Hp.fields m text.size) ++ text.data.toList ++ [10]) by
        unfold Hp.plain; rw [ho]; simp only [HTS.out]; rw [if_pos hlen])
      have KD := Lib.hid (fun W => ref_text m (by omega) W)
      have KE := Lib.hid (fun W => ref_text (text.size + 1) (by omega) W)
      rw [show ((text.size + 1 : Nat) : Int) = (text.size : Int) + 1 by omega] at KE
      have hm1 : 200 ≤ m ∧ m ≤ 505 := by omega
      unfold Hp.reaOut Hp.sx at KR
      simp only at KR
      have hrs := (show (⟨r.toArray⟩ : ByteArray).size = r.length by simp [ByteArray.size])
      have hds' := (show (⟨(Dp.digs 10 m).toArray⟩ : ByteArray).size = (Dp.digs 10 m).length by simp [ByteArray.size])
      have hfirst : (⟨#[72, 84, 84, 80, 47, 49, 46, 49, 32]⟩ : ByteArray) ++ ⟨(Dp.digs 10 m).toArray⟩ ++ ⟨#[32]⟩ ++ ⟨r.toArray⟩ = ⟨(Hp.first m r).toArray⟩ := by
        apply ByteArray.ext; apply Array.ext'; simp [Hp.first, Hp.http]
      obtain ⟨rb, hrb⟩ : ∃ z : ByteArray, (⟨r.toArray⟩ : ByteArray) = z := ⟨_, rfl⟩
      obtain ⟨db, hdb⟩ : ∃ z : ByteArray, (⟨(Dp.digs 10 m).toArray⟩ : ByteArray) = z := ⟨_, rfl⟩
      rw [hrb] at KR hfirst hrs
      rw [hdb] at KD hfirst hds'
      have hrs2 : rb.size ≤ 31 := by omega
      have hdl := digs_len_le m
      have hdb2 : db.size ≤ 506 := by omega
      obtain ⟨fb, hfb⟩ : ∃ z : ByteArray, (⟨(Hp.first m r).toArray⟩ : ByteArray) = z := ⟨_, rfl⟩
      rw [hfb] at hfirst
      have HFB := Lib.hid hfb
      have HFL := Lib.hid (show (Hp.first m r).length ≤ 1000 by
        have h1 := hok.2.2.2
        unfold Hp.first Hp.http
        simp only [List.length_append, List.length_cons, List.length_nil, Int.toNat_natCast]
        omega)
      have HFS := Lib.hid (fields_sz m text.size hlen)
      have HTL := Lib.hid (hbytes_len (Hp.first m r) (Hp.fields m text.size) (by have := HFL.out; omega) (fields_len _ _) HFS.out)
      clear ho hok hrs hds' hrb hdb hdl hfb
      go_enter Tryd.func12, Tryd.ntmps12
      go_wp2_with fail
      refine KR.out.mono ?_
      rintro e w2 ⟨rfl, hb2⟩
      have HB2 := Lib.hid hb2
      clear hb2
      go_wp2_with fail
      refine (KD.out w2).mono ?_
      rintro e w3 ⟨rfl, rfl⟩
      go_wp2_with fail
      refine (KE.out w2).mono ?_
      rintro e w3 ⟨rfl, rfl⟩
      obtain ⟨B, hB⟩ : ∃ B, w2.heap.size = B := ⟨_, rfl⟩
      obtain ⟨w4, hw4⟩ : ∃ Z, (w2.alloc (.cells #[.string ⟨#[99, 111, 110, 116, 101, 110, 116, 45, 116, 121, 112, 101]⟩, .string ⟨#[116, 101, 120, 116, 47, 112, 108, 97, 105, 110]⟩, .string ⟨#[99, 111, 110, 116, 101, 110, 116, 45, 108, 101, 110, 103, 116, 104]⟩, .string ⟨(Dp.digs 10 (text.size + 1)).toArray⟩] 74)).alloc (.cells #[.string fb, .slice (some ⟨w2.heap.size, 0, none⟩) 2 2] 45) = Z := ⟨_, rfl⟩
      obtain ⟨A, hA⟩ : ∃ A, B + 1 = A := ⟨_, rfl⟩
      have h1 := HB2.out.size
      have h3 := World.ownsRow_lit (base := B) (size := 2) (e := 74) w2 #[.string ⟨#[99, 111, 110, 116, 101, 110, 116, 45, 116, 121, 112, 101]⟩, .string ⟨#[116, 101, 120, 116, 47, 112, 108, 97, 105, 110]⟩, .string ⟨#[99, 111, 110, 116, 101, 110, 116, 45, 108, 101, 110, 103, 116, 104]⟩, .string ⟨(Dp.digs 10 (text.size + 1)).toArray⟩] 2 (by omega) (by unfold maxLen; omega) rfl
      have hA4 : w4.heap[A]? = some (.cells #[.string fb, .slice (some ⟨B, 0, none⟩) 2 2] 45 (0, 0)) := by
        rw [← hw4, ← hA, ← hB]
        have := World.alloc_heap_new (w2.alloc (.cells #[.string ⟨#[99, 111, 110, 116, 101, 110, 116, 45, 116, 121, 112, 101]⟩, .string ⟨#[116, 101, 120, 116, 47, 112, 108, 97, 105, 110]⟩, .string ⟨#[99, 111, 110, 116, 101, 110, 116, 45, 108, 101, 110, 103, 116, 104]⟩, .string ⟨(Dp.digs 10 (text.size + 1)).toArray⟩] 74)) (.cells #[.string fb, .slice (some ⟨w2.heap.size, 0, none⟩) 2 2] 45)
        simpa using this
      have hO4 : w4.ownsRow B 74 2 (.slice (some ⟨B, 0, none⟩) 2 2) [(Hp.ct, Hp.tp), (Hp.cl, Dp.digs 10 (text.size + 1))].length (hds [(Hp.ct, Hp.tp), (Hp.cl, Dp.digs 10 (text.size + 1))]) := by
        rw [← hw4]
        rw [hB] at h3
        exact h3.alloc _
      have hB4 : B ≤ w4.heap.size := by rw [← hw4]; simp; omega
      have h04 : w.heap.size ≤ B := by omega
      have hA04 : w.heap.size ≤ A := by omega
      have hb4 : Below w.heap.size w w4 := by rw [← hw4]; exact (HB2.out.alloc h1 _).alloc (by simp; omega) _
      have HZ4 := Lib.hid (show w4.heap.size = A + 1 by rw [← hw4]; simp; omega)
      have HW4 := Lib.hid hw4
      have HBB := Lib.hid hB
      have HAA := Lib.hid hA
      clear hw4 hB hA h1 h3
      by_cases h5 : (m : Int) = 405
      · have he5 : ((m : Int) == 405) = true := beq_iff_eq.2 h5
        have HMO := Lib.hid (show Hp.more m = [(Hp.al, Hp.gt)] by unfold Hp.more; rw [if_pos h5])
        have he6 : ((m : Int) == 503) = false := beq_eq_false_iff_ne.2 (by omega)
        clear h5
        have HA4 := Lib.hid hA4
        have HO4 := Lib.hid hO4
        have HB4 := Lib.hid hB4
        have HQ4 := Lib.hid (And.intro h04 (And.intro hA04 hb4))
        clear hA4 hO4 hB4 h04 hA04 hb4
        go_wp2_with (at_builtin; rw [HW4.out, HBB.out, HAA.out]; refine wpList_append_own _ rfl _ _ 43 rfl B 74 i0 (.agg #[.string ByteArray.empty, .string ByteArray.empty]) 2 32 Tryd.underlying43 hi hz0 hz1 hz2 rfl (by decide) (.slice (some ⟨B, 0, none⟩) 2 2) _ _ rfl (HO4.out.alloc _) ⟨A + 1, 0, none⟩ 1 1 [Hp.sx Hp.al, Hp.sx Hp.gt] rfl rfl ?c41 ?c42 ?c43 ?c44 ?c45 ?_)
        case c41 =>
          intro j u hj
          rw [← HZ4.out]
          match j, hj with
          | 0, hj => simp at hj; subst hj; simp [Addr.add]; rfl
          | 1, hj => simp at hj; subst hj; simp [Addr.add]; rfl
        case c42 => intro u hu; simp at hu; rcases hu with rfl | rfl <;> rfl
        case c43 => simp; unfold maxLen; omega
        case c44 => simp
        case c45 => have := HB4.out; simp; omega
        intro v' w' hown' hgrow _
        obtain ⟨hAn, hSn⟩ := rst_put HA4.out HO4.out HB4.out HQ4.out.1 HQ4.out.2.1 HQ4.out.2.2 (Hp.al, Hp.gt) _ hown' hgrow
        have cB4 : w'.cell? ⟨A, 1, none⟩ = some (.slice (some ⟨B, 0, none⟩) 2 2) := by simp [World.cell?, hAn]
        have zB4 : w'.frozen? ⟨A, 1, none⟩ = false := frozen_of_row _ _ _ _ _ hAn
        obtain ⟨w5, hw5⟩ : ∃ Z, w'.setCell ⟨A, 1, none⟩ v' = Z := ⟨_, rfl⟩
        rw [hw5] at hSn
        obtain ⟨g4, k4, rfl⟩ := Go.Joins.ownsRow_form hown' (by simp)
        have HS5 := Lib.hid hSn
        clear hown' hgrow hAn hSn
        obtain ⟨V5, hA5, hO5, hB5, h05, hA05, hb5⟩ := HS5.out
        have cA5 : w5.cell? ⟨A, 1, none⟩ = some V5 := by simp [World.cell?, hA5]
        have HA5 := Lib.hid hA5
        have HO5 := Lib.hid hO5
        have HB5 := Lib.hid hB5
        have HQ5 := Lib.hid (And.intro h05 (And.intro hA05 hb5))
        clear hA5 hO5 hB5 h05 hA05 hb5
        go_wp2_with (at_builtin; refine wpList_append_own _ rfl _ _ 43 rfl B 74 i0 (.agg #[.string ByteArray.empty, .string ByteArray.empty]) 2 32 Tryd.underlying43 hi hz0 hz1 hz2 rfl (by decide) V5 _ _ rfl (HO5.out.alloc _) ⟨w5.heap.size, 0, none⟩ 1 1 [Hp.sx Hp.cn, Hp.sx Hp.cs] rfl rfl ?c51 ?c52 ?c53 ?c54 ?c55 ?_)
        case c51 =>
          intro j u hj
          match j, hj with
          | 0, hj => simp at hj; subst hj; simp [Addr.add]; rfl
          | 1, hj => simp at hj; subst hj; simp [Addr.add]; rfl
        case c52 => intro u hu; simp at hu; rcases hu with rfl | rfl <;> rfl
        case c53 => simp; unfold maxLen; omega
        case c54 => simp
        case c55 => have := HB5.out; simp; omega
        intro v' w' hown' hgrow _
        obtain ⟨hAn, hSn⟩ := rst_put HA5.out HO5.out HB5.out HQ5.out.1 HQ5.out.2.1 HQ5.out.2.2 (Hp.cn, Hp.cs) _ hown' hgrow
        have cB5 : w'.cell? ⟨A, 1, none⟩ = some V5 := by simp [World.cell?, hAn]
        have zB5 : w'.frozen? ⟨A, 1, none⟩ = false := frozen_of_row _ _ _ _ _ hAn
        obtain ⟨w6, hw6⟩ : ∃ Z, w'.setCell ⟨A, 1, none⟩ v' = Z := ⟨_, rfl⟩
        rw [hw6] at hSn
        obtain ⟨g5, k5, rfl⟩ := Go.Joins.ownsRow_form hown' (by simp)
        have HS6 := Lib.hid hSn
        clear hown' hgrow hAn hSn cA5
        have HS8 := Lib.hid (show RSt w A B ⟨(Hp.first m r).toArray⟩ (Hp.fields m text.size) w6 by
          rw [HFB.out]
          have e : Hp.fields m text.size = [(Hp.ct, Hp.tp), (Hp.cl, Dp.digs 10 (text.size + 1))] ++ [(Hp.al, Hp.gt)] ++ [(Hp.cn, Hp.cs)] := by unfold Hp.fields; rw [HMO.out]; try rfl
          rw [e]
          exact HS6.out)
        obtain ⟨V8, c80, c81, K8⟩ := rst_bytes HS8.out (by have := HFL.out; omega) (fields_len _ _) HFS.out
        have K8 := Lib.hid K8
        rw [HFB.out] at c80 K8
        go_wp2_with fail
        refine K8.out.mono ?_
        rintro e w9 ⟨rfl, hb9⟩
        have HB9 := Lib.hid hb9
        clear hb9 c80 c81 hw6
        have hbs := ba_len (Hp.hbytes (Hp.first m r) (Hp.fields m text.size))
        have HQ := Lib.hid (show (⟨(Hp.hbytes (Hp.first m r) (Hp.fields m text.size)).toArray⟩ : ByteArray) ++ text ++ ⟨#[10]⟩ = ⟨(Hp.hbytes (Hp.first m r) (Hp.fields m text.size) ++ text.data.toList ++ [10]).toArray⟩ by
          apply ByteArray.ext; apply Array.ext'; simp)
        obtain ⟨hb, hhb⟩ : ∃ z : ByteArray, (⟨(Hp.hbytes (Hp.first m r) (Hp.fields m text.size)).toArray⟩ : ByteArray) = z := ⟨_, rfl⟩
        rw [hhb] at hbs HQ ⊢
        have hbs2 : hb.size ≤ 1000000000 := by rw [hbs]; exact HTL.out
        have hbs3 : (hb ++ text).size ≤ 1100000000 := by rw [ByteArray.size_append]; omega
        clear hhb hbs
        go_wp2_with fail
        go_ret2
        refine ⟨?_, HB9.out⟩
        rw [HPL.out, HQ.out]; rfl
      · have he5 : ((m : Int) == 405) = false := beq_eq_false_iff_ne.2 h5
        by_cases h6 : (m : Int) = 503
        · have he6 : ((m : Int) == 503) = true := beq_iff_eq.2 h6
          have HMO := Lib.hid (show Hp.more m = [(Hp.ra, [49])] by unfold Hp.more; rw [if_neg h5, if_pos h6])
          clear h5 h6
          have HA4 := Lib.hid hA4
          have HO4 := Lib.hid hO4
          have HB4 := Lib.hid hB4
          have HQ4 := Lib.hid (And.intro h04 (And.intro hA04 hb4))
          clear hA4 hO4 hB4 h04 hA04 hb4
          go_wp2_with (at_builtin; rw [HW4.out, HBB.out, HAA.out]; refine wpList_append_own _ rfl _ _ 43 rfl B 74 i0 (.agg #[.string ByteArray.empty, .string ByteArray.empty]) 2 32 Tryd.underlying43 hi hz0 hz1 hz2 rfl (by decide) (.slice (some ⟨B, 0, none⟩) 2 2) _ _ rfl (HO4.out.alloc _) ⟨A + 1, 0, none⟩ 1 1 [Hp.sx Hp.ra, Hp.sx [49]] rfl rfl ?c41 ?c42 ?c43 ?c44 ?c45 ?_)
          case c41 =>
            intro j u hj
            rw [← HZ4.out]
            match j, hj with
            | 0, hj => simp at hj; subst hj; simp [Addr.add]; rfl
            | 1, hj => simp at hj; subst hj; simp [Addr.add]; rfl
          case c42 => intro u hu; simp at hu; rcases hu with rfl | rfl <;> rfl
          case c43 => simp; unfold maxLen; omega
          case c44 => simp
          case c45 => have := HB4.out; simp; omega
          intro v' w' hown' hgrow _
          obtain ⟨hAn, hSn⟩ := rst_put HA4.out HO4.out HB4.out HQ4.out.1 HQ4.out.2.1 HQ4.out.2.2 (Hp.ra, [49]) _ hown' hgrow
          have cB4 : w'.cell? ⟨A, 1, none⟩ = some (.slice (some ⟨B, 0, none⟩) 2 2) := by simp [World.cell?, hAn]
          have zB4 : w'.frozen? ⟨A, 1, none⟩ = false := frozen_of_row _ _ _ _ _ hAn
          obtain ⟨w5, hw5⟩ : ∃ Z, w'.setCell ⟨A, 1, none⟩ v' = Z := ⟨_, rfl⟩
          rw [hw5] at hSn
          obtain ⟨g4, k4, rfl⟩ := Go.Joins.ownsRow_form hown' (by simp)
          have HS5 := Lib.hid hSn
          clear hown' hgrow hAn hSn
          obtain ⟨V5, hA5, hO5, hB5, h05, hA05, hb5⟩ := HS5.out
          have cA5 : w5.cell? ⟨A, 1, none⟩ = some V5 := by simp [World.cell?, hA5]
          have HA5 := Lib.hid hA5
          have HO5 := Lib.hid hO5
          have HB5 := Lib.hid hB5
          have HQ5 := Lib.hid (And.intro h05 (And.intro hA05 hb5))
          clear hA5 hO5 hB5 h05 hA05 hb5
          go_wp2_with (at_builtin; refine wpList_append_own _ rfl _ _ 43 rfl B 74 i0 (.agg #[.string ByteArray.empty, .string ByteArray.empty]) 2 32 Tryd.underlying43 hi hz0 hz1 hz2 rfl (by decide) V5 _ _ rfl (HO5.out.alloc _) ⟨w5.heap.size, 0, none⟩ 1 1 [Hp.sx Hp.cn, Hp.sx Hp.cs] rfl rfl ?c51 ?c52 ?c53 ?c54 ?c55 ?_)
          case c51 =>
            intro j u hj
            match j, hj with
            | 0, hj => simp at hj; subst hj; simp [Addr.add]; rfl
            | 1, hj => simp at hj; subst hj; simp [Addr.add]; rfl
          case c52 => intro u hu; simp at hu; rcases hu with rfl | rfl <;> rfl
          case c53 => simp; unfold maxLen; omega
          case c54 => simp
          case c55 => have := HB5.out; simp; omega
          intro v' w' hown' hgrow _
          obtain ⟨hAn, hSn⟩ := rst_put HA5.out HO5.out HB5.out HQ5.out.1 HQ5.out.2.1 HQ5.out.2.2 (Hp.cn, Hp.cs) _ hown' hgrow
          have cB5 : w'.cell? ⟨A, 1, none⟩ = some V5 := by simp [World.cell?, hAn]
          have zB5 : w'.frozen? ⟨A, 1, none⟩ = false := frozen_of_row _ _ _ _ _ hAn
          obtain ⟨w6, hw6⟩ : ∃ Z, w'.setCell ⟨A, 1, none⟩ v' = Z := ⟨_, rfl⟩
          rw [hw6] at hSn
          obtain ⟨g5, k5, rfl⟩ := Go.Joins.ownsRow_form hown' (by simp)
          have HS6 := Lib.hid hSn
          clear hown' hgrow hAn hSn cA5
          have HS8 := Lib.hid (show RSt w A B ⟨(Hp.first m r).toArray⟩ (Hp.fields m text.size) w6 by
            rw [HFB.out]
            have e : Hp.fields m text.size = [(Hp.ct, Hp.tp), (Hp.cl, Dp.digs 10 (text.size + 1))] ++ [(Hp.ra, [49])] ++ [(Hp.cn, Hp.cs)] := by unfold Hp.fields; rw [HMO.out]; try rfl
            rw [e]
            exact HS6.out)
          obtain ⟨V8, c80, c81, K8⟩ := rst_bytes HS8.out (by have := HFL.out; omega) (fields_len _ _) HFS.out
          have K8 := Lib.hid K8
          rw [HFB.out] at c80 K8
          go_wp2_with fail
          refine K8.out.mono ?_
          rintro e w9 ⟨rfl, hb9⟩
          have HB9 := Lib.hid hb9
          clear hb9 c80 c81 hw6
          have hbs := ba_len (Hp.hbytes (Hp.first m r) (Hp.fields m text.size))
          have HQ := Lib.hid (show (⟨(Hp.hbytes (Hp.first m r) (Hp.fields m text.size)).toArray⟩ : ByteArray) ++ text ++ ⟨#[10]⟩ = ⟨(Hp.hbytes (Hp.first m r) (Hp.fields m text.size) ++ text.data.toList ++ [10]).toArray⟩ by
            apply ByteArray.ext; apply Array.ext'; simp)
          obtain ⟨hb, hhb⟩ : ∃ z : ByteArray, (⟨(Hp.hbytes (Hp.first m r) (Hp.fields m text.size)).toArray⟩ : ByteArray) = z := ⟨_, rfl⟩
          rw [hhb] at hbs HQ ⊢
          have hbs2 : hb.size ≤ 1000000000 := by rw [hbs]; exact HTL.out
          have hbs3 : (hb ++ text).size ≤ 1100000000 := by rw [ByteArray.size_append]; omega
          clear hhb hbs
          go_wp2_with fail
          go_ret2
          refine ⟨?_, HB9.out⟩
          rw [HPL.out, HQ.out]; rfl
        · have he6 : ((m : Int) == 503) = false := beq_eq_false_iff_ne.2 h6
          have HMO := Lib.hid (show Hp.more m = [] by unfold Hp.more; rw [if_neg h5, if_neg h6])
          clear h5 h6
          have HA4 := Lib.hid hA4
          have HO4 := Lib.hid hO4
          have HB4 := Lib.hid hB4
          have HQ4 := Lib.hid (And.intro h04 (And.intro hA04 hb4))
          clear hA4 hO4 hB4 h04 hA04 hb4
          go_wp2_with (at_builtin; rw [HW4.out, HBB.out, HAA.out]; refine wpList_append_own _ rfl _ _ 43 rfl B 74 i0 (.agg #[.string ByteArray.empty, .string ByteArray.empty]) 2 32 Tryd.underlying43 hi hz0 hz1 hz2 rfl (by decide) (.slice (some ⟨B, 0, none⟩) 2 2) _ _ rfl (HO4.out.alloc _) ⟨A + 1, 0, none⟩ 1 1 [Hp.sx Hp.cn, Hp.sx Hp.cs] rfl rfl ?c41 ?c42 ?c43 ?c44 ?c45 ?_)
          case c41 =>
            intro j u hj
            rw [← HZ4.out]
            match j, hj with
            | 0, hj => simp at hj; subst hj; simp [Addr.add]; rfl
            | 1, hj => simp at hj; subst hj; simp [Addr.add]; rfl
          case c42 => intro u hu; simp at hu; rcases hu with rfl | rfl <;> rfl
          case c43 => simp; unfold maxLen; omega
          case c44 => simp
          case c45 => have := HB4.out; simp; omega
          intro v' w' hown' hgrow _
          obtain ⟨hAn, hSn⟩ := rst_put HA4.out HO4.out HB4.out HQ4.out.1 HQ4.out.2.1 HQ4.out.2.2 (Hp.cn, Hp.cs) _ hown' hgrow
          have cB4 : w'.cell? ⟨A, 1, none⟩ = some (.slice (some ⟨B, 0, none⟩) 2 2) := by simp [World.cell?, hAn]
          have zB4 : w'.frozen? ⟨A, 1, none⟩ = false := frozen_of_row _ _ _ _ _ hAn
          obtain ⟨w5, hw5⟩ : ∃ Z, w'.setCell ⟨A, 1, none⟩ v' = Z := ⟨_, rfl⟩
          rw [hw5] at hSn
          obtain ⟨g4, k4, rfl⟩ := Go.Joins.ownsRow_form hown' (by simp)
          have HS5 := Lib.hid hSn
          clear hown' hgrow hAn hSn
          have HS8 := Lib.hid (show RSt w A B ⟨(Hp.first m r).toArray⟩ (Hp.fields m text.size) w5 by
            rw [HFB.out]
            have e : Hp.fields m text.size = [(Hp.ct, Hp.tp), (Hp.cl, Dp.digs 10 (text.size + 1))] ++ [(Hp.cn, Hp.cs)] := by unfold Hp.fields; rw [HMO.out]; try rfl
            rw [e]
            exact HS5.out)
          obtain ⟨V8, c80, c81, K8⟩ := rst_bytes HS8.out (by have := HFL.out; omega) (fields_len _ _) HFS.out
          have K8 := Lib.hid K8
          rw [HFB.out] at c80 K8
          go_wp2_with fail
          refine K8.out.mono ?_
          rintro e w9 ⟨rfl, hb9⟩
          have HB9 := Lib.hid hb9
          clear hb9 c80 c81 hw5
          have hbs := ba_len (Hp.hbytes (Hp.first m r) (Hp.fields m text.size))
          have HQ := Lib.hid (show (⟨(Hp.hbytes (Hp.first m r) (Hp.fields m text.size)).toArray⟩ : ByteArray) ++ text ++ ⟨#[10]⟩ = ⟨(Hp.hbytes (Hp.first m r) (Hp.fields m text.size) ++ text.data.toList ++ [10]).toArray⟩ by
            apply ByteArray.ext; apply Array.ext'; simp)
          obtain ⟨hb, hhb⟩ : ∃ z : ByteArray, (⟨(Hp.hbytes (Hp.first m r) (Hp.fields m text.size)).toArray⟩ : ByteArray) = z := ⟨_, rfl⟩
          rw [hhb] at hbs HQ ⊢
          have hbs2 : hb.size ≤ 1000000000 := by rw [hbs]; exact HTL.out
          have hbs3 : (hb ++ text).size ≤ 1100000000 := by rw [ByteArray.size_append]; omega
          clear hhb hbs
          go_wp2_with fail
          go_ret2
          refine ⟨?_, HB9.out⟩
          rw [HPL.out, HQ.out]; rfl
    · have HPL := Lib.hid (show Hp.plain n text.data.toList = none by unfold Hp.plain; rw [ho]; simp only [HTS.out]; rw [if_neg hlen])
      unfold Hp.reaOut at KR
      clear ho hok
      go_enter Tryd.func12, Tryd.ntmps12
      go_wp2_with fail
      refine KR.out.mono ?_
      rintro e w2 ⟨rfl, hb2⟩
      have HB2 := Lib.hid hb2
      clear hb2
      go_wp2_with fail
      go_ret2
      exact ⟨by rw [HPL.out]; rfl, HB2.out⟩
end Go.Proofs.YthfdnlcalefjeaaDoor

/- answer: Stream. -/
namespace Go.Proofs.YthfdnlcalefjeaaDoor
set_option linter.unusedVariables false
set_option linter.unusedSimpArgs false
open Go.RowKit Go.Shelf
set_option maxHeartbeats 8000000
set_option maxRecDepth 100000
theorem ans_Stream (b : Bool) (w : World) :
    Calls Tryd.prog 17 #[.bool b] w fun e w' => ∃ r, e = .returned r ∧ BRow w' r (Hp.stream b) ∧ Below w.heap.size w w' := by
  obtain ⟨A, hA⟩ : ∃ A, w.heap.size = A := ⟨_, rfl⟩
  have HAA := Lib.hid hA
  obtain ⟨W1, hW1⟩ : ∃ Z, w.alloc (.cells #[.string ⟨#[72, 84, 84, 80, 47, 49, 46, 49, 32, 50, 48, 48, 32, 79, 75]⟩, .slice none 0 0] 69) = Z := ⟨_, rfl⟩
  have HS1 := Lib.hid (show Stg w A ⟨Hp.ok200.toArray⟩ [] W1 by
    refine ⟨by rw [← hW1, ← hA]; simp, ⟨_, by unfold AnAt; rw [← hW1, ← hA]; exact World.alloc_heap_new _ _, World.ownsRow_nil _ _ _ _⟩, by rw [← hW1, ← hA]; exact (Below.refl _ _).alloc (Nat.le_refl _) _⟩)
  have HW1 := Lib.hid hW1
  have HZ1 := Lib.hid (show W1.heap.size = A + 1 by rw [← hW1, ← hA]; simp)
  clear hA hW1
  cases b with
  | true =>
    go_enter Tryd.func17, Tryd.ntmps17
    go_wp2_with fail
    rw [HW1.out, HAA.out, ← HZ1.out]
    refine (stg_put HS1.out [(Hp.ct, Hp.es), (Hp.cc, Hp.ns)] _ 4 rfl rfl (by simp)).mono ?_
    rintro e w6 ⟨rfl, hs6⟩
    have HS6 := Lib.hid hs6
    clear hs6
    go_wp2_with fail
    refine (stg_put HS6.out [(Hp.te, Hp.ch)] _ 2 rfl rfl (by simp)).mono ?_
    rintro e w7 ⟨rfl, hs7⟩
    have HS7 := Lib.hid (show Stg w A ⟨Hp.ok200.toArray⟩ (Hp.sfields true) w7 from hs7)
    clear hs7
    go_wp2_with fail
    refine (stg_told HS7.out (Hp.hok_stream true) (by decide) (by decide) (by decide)).mono ?_
    rintro e w9 ⟨v9, rfl, ⟨g, cap, rfl, h1, h2, h3, h4, h5⟩, hb9⟩
    have HF9 := Lib.hid (show BRow w9 (.slice (some ⟨g, 0, none⟩) (Hp.hbytes Hp.ok200 (Hp.sfields true)).length cap) (Hp.stream true) from ⟨_, cap, rfl, h3, .inr ⟨g, 0, rfl, fun j hj => by rw [Nat.zero_add]; exact h4 j hj⟩⟩)
    have HB9 := Lib.hid hb9
    clear h1 h2 h3 h4 h5 hb9
    go_wp2_with fail
    go_ret
    exact ⟨_, rfl, HF9.out, HAA.out ▸ HB9.out⟩
  | false =>
    go_enter Tryd.func17, Tryd.ntmps17
    go_wp2_with fail
    rw [HW1.out, HAA.out, ← HZ1.out]
    refine (stg_put HS1.out [(Hp.ct, Hp.es), (Hp.cc, Hp.ns)] _ 4 rfl rfl (by simp)).mono ?_
    rintro e w6 ⟨rfl, hs6⟩
    have HS6 := Lib.hid hs6
    clear hs6
    go_wp2_with fail
    refine (stg_put HS6.out [(Hp.cn, Hp.cs)] _ 2 rfl rfl (by simp)).mono ?_
    rintro e w7 ⟨rfl, hs7⟩
    have HS7 := Lib.hid (show Stg w A ⟨Hp.ok200.toArray⟩ (Hp.sfields false) w7 from hs7)
    clear hs7
    go_wp2_with fail
    refine (stg_told HS7.out (Hp.hok_stream false) (by decide) (by decide) (by decide)).mono ?_
    rintro e w9 ⟨v9, rfl, ⟨g, cap, rfl, h1, h2, h3, h4, h5⟩, hb9⟩
    have HF9 := Lib.hid (show BRow w9 (.slice (some ⟨g, 0, none⟩) (Hp.hbytes Hp.ok200 (Hp.sfields false)).length cap) (Hp.stream false) from ⟨_, cap, rfl, h3, .inr ⟨g, 0, rfl, fun j hj => by rw [Nat.zero_add]; exact h4 j hj⟩⟩)
    have HB9 := Lib.hid hb9
    clear h1 h2 h3 h4 h5 hb9
    go_wp2_with fail
    go_ret
    exact ⟨_, rfl, HF9.out, HAA.out ▸ HB9.out⟩
end Go.Proofs.YthfdnlcalefjeaaDoor

/- answer: Health. -/
namespace Go.Proofs.YthfdnlcalefjeaaDoor
set_option linter.unusedVariables false
set_option linter.unusedSimpArgs false
open Go.RowKit Go.Shelf
set_option maxHeartbeats 8000000
set_option maxRecDepth 100000
theorem ans_Health (t c : Int) (d : Bool) (w : World) (ht : -9223372036854775808 ≤ t ∧ t ≤ 9223372036854775807) (hc : -9223372036854775808 ≤ c ∧ c ≤ 9223372036854775807) (htb : Tabs w) :
    Calls Tryd.prog 15 #[.int .i64 t, .int .i64 c, .bool d] w fun e w' => AnOut w' (Hp.health t c d) e ∧ Below w.heap.size w w' := by
  have HTB := Lib.hid htb
  clear htb
  by_cases h1 : t < 0
  · have HPL := Lib.hid (show Hp.health t c d = none by unfold Hp.health; rw [if_pos (.inl h1)])
    go_enter Tryd.func15, Tryd.ntmps15
    go_wp2_with fail
    go_ret2
    exact ⟨by rw [HPL.out]; exact ⟨_, rfl, BRow.nil _⟩, Below.refl _ _⟩
  · by_cases h2 : c < 0
    · have HPL := Lib.hid (show Hp.health t c d = none by unfold Hp.health; rw [if_pos (.inr h2)])
      go_enter Tryd.func15, Tryd.ntmps15
      go_wp2_with fail
      go_ret2
      exact ⟨by rw [HPL.out]; exact ⟨_, rfl, BRow.nil _⟩, Below.refl _ _⟩
    · cases d with
      | true =>
        have HPL := Lib.hid (show Hp.health t c true = Hp.plain 503 Hp.drain by unfold Hp.health; rw [if_neg (by omega)]; rfl)
        have KP := Lib.hid (plain_any 503 ⟨#[100, 114, 97, 105, 110, 105, 110, 103]⟩ w (by omega) (by decide) HTB.out)
        rw [show (⟨#[100, 114, 97, 105, 110, 105, 110, 103]⟩ : ByteArray).data.toList = Hp.drain from rfl, ← HPL.out] at KP
        go_enter Tryd.func15, Tryd.ntmps15
        go_wp2_with fail
        refine KP.out.mono ?_
        rintro e w5 ⟨⟨v5, rfl, hv5⟩, hb5⟩
        have HV5 := Lib.hid hv5
        have HB5 := Lib.hid hb5
        clear hb5 hv5
        go_wp2_with fail
        go_ret2
        exact ⟨⟨_, rfl, HV5.out⟩, HB5.out⟩
      | false =>
        obtain ⟨m, rfl⟩ : ∃ m : Nat, t = (m : Int) := ⟨t.toNat, by omega⟩
        obtain ⟨k, rfl⟩ : ∃ m : Nat, c = (m : Int) := ⟨c.toNat, by omega⟩
        have HPL := Lib.hid (show Hp.health m k false = Hp.plain 200 ([111, 107, 32] ++ Dp.digs 10 m ++ 32 :: Dp.digs 10 k) by unfold Hp.health; rw [if_neg (by omega)]; simp)
        have KD := Lib.hid (fun W (h : Tabs W) => dec_text m W (by omega) h)
        have KE := Lib.hid (fun W (h : Tabs W) => dec_text k W (by omega) h)
        have hds := (show (⟨(Dp.digs 10 m).toArray⟩ : ByteArray).size = (Dp.digs 10 m).length by simp [ByteArray.size])
        have hls := (show (⟨(Dp.digs 10 k).toArray⟩ : ByteArray).size = (Dp.digs 10 k).length by simp [ByteArray.size])
        have hcat : ((⟨#[111, 107, 32]⟩ : ByteArray) ++ ⟨(Dp.digs 10 m).toArray⟩ ++ ⟨#[32]⟩ ++ ⟨(Dp.digs 10 k).toArray⟩).data.toList = [111, 107, 32] ++ Dp.digs 10 m ++ 32 :: Dp.digs 10 k := by simp
        obtain ⟨db, hdb⟩ : ∃ z : ByteArray, (⟨(Dp.digs 10 m).toArray⟩ : ByteArray) = z := ⟨_, rfl⟩
        obtain ⟨lb, hlb⟩ : ∃ z : ByteArray, (⟨(Dp.digs 10 k).toArray⟩ : ByteArray) = z := ⟨_, rfl⟩
        rw [hdb] at KD hds hcat
        rw [hlb] at KE hls hcat
        have hdl := digs_len64 m (by omega)
        have hdl2 := digs_len64 k (by omega)
        have hdb2 : db.size ≤ 20 := by omega
        have hlb2 : lb.size ≤ 20 := by omega
        obtain ⟨xb, hxb⟩ : ∃ z : ByteArray, (⟨#[111, 107, 32]⟩ : ByteArray) ++ db ++ ⟨#[32]⟩ ++ lb = z := ⟨_, rfl⟩
        have hxs : xb.size ≤ 1000 := by
          rw [← hxb, ByteArray.size_append, ByteArray.size_append, ByteArray.size_append]
          have h1 : (⟨#[32]⟩ : ByteArray).size = 1 := rfl
          have h2 : (⟨#[111, 107, 32]⟩ : ByteArray).size = 3 := rfl
          omega
        rw [hxb] at hcat
        have KP := Lib.hid (fun W (h : Tabs W) => plain_any 200 xb W (by omega) (by omega) h)
        rw [hcat, ← HPL.out] at KP
        clear hds hls hdb hlb hdl hdl2 hcat hxs
        go_enter Tryd.func15, Tryd.ntmps15
        go_wp2_with fail
        refine (KD.out w HTB.out).mono ?_
        rintro e w3 ⟨rfl, hb3⟩
        have HB3 := Lib.hid hb3
        clear hb3
        go_wp2_with fail
        refine (KE.out w3 (HTB.out.bel HB3.out)).mono ?_
        rintro e w4 ⟨rfl, hb4⟩
        have HB4 := Lib.hid (HB3.out.trans (hb4.mono HB3.out.size))
        clear hb4
        go_wp2_with fail
        refine (KP.out w4 (HTB.out.bel HB4.out)).mono ?_
        rintro e w5 ⟨⟨v5, rfl, hv5⟩, hb5⟩
        have HV5 := Lib.hid hv5
        have HB5 := Lib.hid (HB4.out.trans (hb5.mono HB4.out.size))
        clear hb5 hv5
        go_wp2_with fail
        go_ret2
        exact ⟨⟨_, rfl, HV5.out⟩, HB5.out⟩
end Go.Proofs.YthfdnlcalefjeaaDoor

/- The reference's refusals, health, stream. -/
namespace Go.Proofs.YthfdnlcalefjeaaDoor
set_option linter.unusedVariables false
set_option linter.unusedSimpArgs false
open Go.RowKit Go.Shelf
set_option maxHeartbeats 8000000
set_option maxRecDepth 100000
theorem ref_Refusal (n : Int) (w : World) (hn : -9223372036854775808 ≤ n ∧ n ≤ 9223372036854775807)  :
    Calls Tryd.prog 13 #[.int .i64 n] w fun e w' => e = .returned (RfOut (Hp.refusal n)) ∧ Below w.heap.size w w' := by
  have KR := Lib.hid (ref_Reason n w)
  obtain ⟨o, ho⟩ : ∃ o, Hp.reason n = o := ⟨_, rfl⟩
  rw [ho] at KR
  cases o with
  | none =>
    have HPL := Lib.hid (show Hp.refusal n = none by unfold Hp.refusal; rw [ho])
    unfold Hp.reaOut at KR
    clear ho
    go_enter Tryd.func13, Tryd.ntmps13
    go_wp2_with fail
    refine KR.out.mono ?_
    rintro e w2 ⟨rfl, hb2⟩
    have HB2 := Lib.hid hb2
    clear hb2
    go_wp2_with fail
    go_ret2
    exact ⟨by rw [HPL.out]; rfl, HB2.out⟩
  | some r =>
    have hok := Hp.reason_ok ho
    unfold Hp.reaOut Hp.sx at KR
    simp only at KR
    by_cases h2 : n = 200
    · have HPL := Lib.hid (show Hp.refusal n = none by unfold Hp.refusal; rw [ho]; simp only; rw [if_pos h2])
      have he : (n == 200) = true := beq_iff_eq.2 h2
      clear ho hok h2
      go_enter Tryd.func13, Tryd.ntmps13
      go_wp2_with fail
      refine KR.out.mono ?_
      rintro e w2 ⟨rfl, hb2⟩
      have HB2 := Lib.hid hb2
      clear hb2
      go_wp2_with fail
      go_ret2
      exact ⟨by rw [HPL.out]; rfl, HB2.out⟩
    · have he : (n == 200) = false := beq_eq_false_iff_ne.2 h2
      obtain ⟨m, rfl⟩ : ∃ m : Nat, n = (m : Int) := ⟨n.toNat, by omega⟩
      have hm1 : 200 ≤ m ∧ m ≤ 505 := by omega
      have HPL := Lib.hid (show Hp.refusal m = Hp.plain m (Dp.digs 10 m ++ 32 :: Tp.lower r) by unfold Hp.refusal; rw [ho]; simp only; rw [if_neg h2]; simp)
      have KD := Lib.hid (fun W => ref_text m (by omega) W)
      have hrd : (⟨r.toArray⟩ : ByteArray).data.toList = r := by simp
      have hrs := (show (⟨r.toArray⟩ : ByteArray).size = r.length by simp [ByteArray.size])
      have hds := (show (⟨(Dp.digs 10 m).toArray⟩ : ByteArray).size = (Dp.digs 10 m).length by simp [ByteArray.size])
      have hls := (show (⟨(Tp.lower r).toArray⟩ : ByteArray).size = r.length by simp [ByteArray.size, Tp.lower])
      have hcat : ((⟨(Dp.digs 10 m).toArray⟩ : ByteArray) ++ ⟨#[32]⟩ ++ ⟨(Tp.lower r).toArray⟩).data.toList = Dp.digs 10 m ++ 32 :: Tp.lower r := by simp
      obtain ⟨rb, hrb⟩ : ∃ z : ByteArray, (⟨r.toArray⟩ : ByteArray) = z := ⟨_, rfl⟩
      rw [hrb] at KR hrd hrs
      have KL := Lib.hid (fun W => rtk_lower rb W (by omega))
      rw [hrd] at KL
      obtain ⟨db, hdb⟩ : ∃ z : ByteArray, (⟨(Dp.digs 10 m).toArray⟩ : ByteArray) = z := ⟨_, rfl⟩
      obtain ⟨lb, hlb⟩ : ∃ z : ByteArray, (⟨(Tp.lower r).toArray⟩ : ByteArray) = z := ⟨_, rfl⟩
      rw [hdb] at KD hds hcat
      rw [hlb] at KL hls hcat
      have hdl := digs_len_le m
      have hdb2 : db.size ≤ 506 := by omega
      have hlb2 : lb.size ≤ 31 := by omega
      obtain ⟨xb, hxb⟩ : ∃ z : ByteArray, db ++ ⟨#[32]⟩ ++ lb = z := ⟨_, rfl⟩
      have hxs : xb.size ≤ 1000 := by
        rw [← hxb, ByteArray.size_append, ByteArray.size_append]
        have : (⟨#[32]⟩ : ByteArray).size = 1 := rfl
        omega
      rw [hxb] at hcat
      have KP := Lib.hid (fun W => ref_Plain m xb W (by omega) (by omega))
      rw [hcat, ← HPL.out] at KP
      unfold RfOut at KP
      clear ho hok h2 hrd hrs hds hls hrb hdb hlb hdl hcat hxs
      go_enter Tryd.func13, Tryd.ntmps13
      go_wp2_with fail
      refine KR.out.mono ?_
      rintro e w2 ⟨rfl, hb2⟩
      have HB2 := Lib.hid hb2
      clear hb2
      go_wp2_with fail
      refine (KD.out w2).mono ?_
      rintro e w3 ⟨rfl, hw3⟩
      subst hw3
      go_wp2_with fail
      refine (KL.out w2).mono ?_
      rintro e w4 ⟨rfl, hb4⟩
      have HB4 := Lib.hid (HB2.out.trans (hb4.mono HB2.out.size))
      clear hb4
      go_wp2_with fail
      refine (KP.out _).mono ?_
      rintro e w5 ⟨rfl, hb5⟩
      have HB5 := Lib.hid (HB4.out.trans (hb5.mono HB4.out.size))
      clear hb5
      go_wp2_with fail
      go_ret2
      exact ⟨rfl, HB5.out⟩
theorem ref_Health (t c : Int) (d : Bool) (w : World) (ht : -9223372036854775808 ≤ t ∧ t ≤ 9223372036854775807) (hc : -9223372036854775808 ≤ c ∧ c ≤ 9223372036854775807)  :
    Calls Tryd.prog 16 #[.int .i64 t, .int .i64 c, .bool d] w fun e w' => e = .returned (RfOut (Hp.health t c d)) ∧ Below w.heap.size w w' := by
  by_cases h1 : t < 0
  · have HPL := Lib.hid (show Hp.health t c d = none by unfold Hp.health; rw [if_pos (.inl h1)])
    go_enter Tryd.func16, Tryd.ntmps16
    go_wp2_with fail
    go_ret2
    exact ⟨by rw [HPL.out]; rfl, Below.refl _ _⟩
  · by_cases h2 : c < 0
    · have HPL := Lib.hid (show Hp.health t c d = none by unfold Hp.health; rw [if_pos (.inr h2)])
      go_enter Tryd.func16, Tryd.ntmps16
      go_wp2_with fail
      go_ret2
      exact ⟨by rw [HPL.out]; rfl, Below.refl _ _⟩
    · cases d with
      | true =>
        have HPL := Lib.hid (show Hp.health t c true = Hp.plain 503 Hp.drain by unfold Hp.health; rw [if_neg (by omega)]; rfl)
        have KP := Lib.hid (ref_Plain 503 ⟨#[100, 114, 97, 105, 110, 105, 110, 103]⟩ w (by omega) (by decide))
        rw [show (⟨#[100, 114, 97, 105, 110, 105, 110, 103]⟩ : ByteArray).data.toList = Hp.drain from rfl, ← HPL.out] at KP
        unfold RfOut at KP
        go_enter Tryd.func16, Tryd.ntmps16
        go_wp2_with fail
        refine KP.out.mono ?_
        rintro e w5 ⟨rfl, hb5⟩
        have HB5 := Lib.hid hb5
        clear hb5
        go_wp2_with fail
        go_ret2
        exact ⟨rfl, HB5.out⟩
      | false =>
        obtain ⟨m, rfl⟩ : ∃ m : Nat, t = (m : Int) := ⟨t.toNat, by omega⟩
        obtain ⟨k, rfl⟩ : ∃ m : Nat, c = (m : Int) := ⟨c.toNat, by omega⟩
        have HPL := Lib.hid (show Hp.health m k false = Hp.plain 200 ([111, 107, 32] ++ Dp.digs 10 m ++ 32 :: Dp.digs 10 k) by unfold Hp.health; rw [if_neg (by omega)]; simp)
        have KD := Lib.hid (fun W => ref_text m (by omega) W)
        have KE := Lib.hid (fun W => ref_text k (by omega) W)
        have hds := (show (⟨(Dp.digs 10 m).toArray⟩ : ByteArray).size = (Dp.digs 10 m).length by simp [ByteArray.size])
        have hls := (show (⟨(Dp.digs 10 k).toArray⟩ : ByteArray).size = (Dp.digs 10 k).length by simp [ByteArray.size])
        have hcat : ((⟨#[111, 107, 32]⟩ : ByteArray) ++ ⟨(Dp.digs 10 m).toArray⟩ ++ ⟨#[32]⟩ ++ ⟨(Dp.digs 10 k).toArray⟩).data.toList = [111, 107, 32] ++ Dp.digs 10 m ++ 32 :: Dp.digs 10 k := by simp
        obtain ⟨db, hdb⟩ : ∃ z : ByteArray, (⟨(Dp.digs 10 m).toArray⟩ : ByteArray) = z := ⟨_, rfl⟩
        obtain ⟨lb, hlb⟩ : ∃ z : ByteArray, (⟨(Dp.digs 10 k).toArray⟩ : ByteArray) = z := ⟨_, rfl⟩
        rw [hdb] at KD hds hcat
        rw [hlb] at KE hls hcat
        have hdl := digs_len64 m (by omega)
        have hdl2 := digs_len64 k (by omega)
        have hdb2 : db.size ≤ 20 := by omega
        have hlb2 : lb.size ≤ 20 := by omega
        obtain ⟨xb, hxb⟩ : ∃ z : ByteArray, (⟨#[111, 107, 32]⟩ : ByteArray) ++ db ++ ⟨#[32]⟩ ++ lb = z := ⟨_, rfl⟩
        have hxs : xb.size ≤ 1000 := by
          rw [← hxb, ByteArray.size_append, ByteArray.size_append, ByteArray.size_append]
          have h1 : (⟨#[32]⟩ : ByteArray).size = 1 := rfl
          have h2 : (⟨#[111, 107, 32]⟩ : ByteArray).size = 3 := rfl
          omega
        rw [hxb] at hcat
        have KP := Lib.hid (fun W => ref_Plain 200 xb W (by omega) (by omega))
        rw [hcat, ← HPL.out] at KP
        unfold RfOut at KP
        clear hds hls hdb hlb hdl hdl2 hcat hxs
        go_enter Tryd.func16, Tryd.ntmps16
        go_wp2_with fail
        refine (KD.out w).mono ?_
        rintro e w3 ⟨rfl, hw3⟩
        subst hw3
        go_wp2_with fail
        refine (KE.out w).mono ?_
        rintro e w4 ⟨rfl, hw4⟩
        subst hw4
        go_wp2_with fail
        refine (KP.out _).mono ?_
        rintro e w5 ⟨rfl, hb5⟩
        have HB5 := Lib.hid hb5
        clear hb5
        go_wp2_with fail
        go_ret2
        exact ⟨rfl, HB5.out⟩
end Go.Proofs.YthfdnlcalefjeaaDoor

/- The reference's stream. -/
namespace Go.Proofs.YthfdnlcalefjeaaDoor
set_option linter.unusedVariables false
set_option linter.unusedSimpArgs false
open Go.RowKit Go.Shelf
set_option maxHeartbeats 8000000
set_option maxRecDepth 100000
theorem hs_six (w : World) (G : Nat) (cs : Array Value) (fs : List Hp.Hd) (hG : w.heap[G]? = some (.cells cs 74 (0, 0))) (hc : cs = (hds fs).toArray) (n : Nat) (hn : n = fs.length) : HS w (.slice (some ⟨G, 0, none⟩) n n) fs := by
  subst hn
  refine .inr ⟨G, 0, fs.length, rfl, fun j hj => ?_⟩
  obtain ⟨h1, h2⟩ := hds_get fs j hj
  rw [Nat.zero_add]
  subst hc
  constructor
  · simp only [World.cell?, hG, List.getElem?_toArray, h1]; rfl
  · simp only [World.cell?, hG, List.getElem?_toArray, h2]; rfl
theorem ref_stream0 (w : World) :
    Calls Tryd.prog 18 #[.bool false] w fun e w' => e = .returned (.string ⟨(Hp.stream false).toArray⟩) ∧ Below w.heap.size w w' := by
  obtain ⟨G, hG⟩ : ∃ G, w.heap.size = G := ⟨_, rfl⟩
  obtain ⟨W2, hW2⟩ : ∃ Z, (w.alloc (.cells #[.string ⟨#[99, 111, 110, 116, 101, 110, 116, 45, 116, 121, 112, 101]⟩, .string ⟨#[116, 101, 120, 116, 47, 101, 118, 101, 110, 116, 45, 115, 116, 114, 101, 97, 109]⟩, .string ⟨#[99, 97, 99, 104, 101, 45, 99, 111, 110, 116, 114, 111, 108]⟩, .string ⟨#[110, 111, 45, 115, 116, 111, 114, 101]⟩, .string ⟨#[99, 111, 110, 110, 101, 99, 116, 105, 111, 110]⟩, .string ⟨#[99, 108, 111, 115, 101]⟩] 74)).alloc (.cells #[.string ⟨#[72, 84, 84, 80, 47, 49, 46, 49, 32, 50, 48, 48, 32, 79, 75]⟩, .slice (some ⟨w.heap.size, 0, none⟩) 3 3] 45) = Z := ⟨_, rfl⟩
  have hG2 : W2.heap[G]? = some (.cells #[.string ⟨#[99, 111, 110, 116, 101, 110, 116, 45, 116, 121, 112, 101]⟩, .string ⟨#[116, 101, 120, 116, 47, 101, 118, 101, 110, 116, 45, 115, 116, 114, 101, 97, 109]⟩, .string ⟨#[99, 97, 99, 104, 101, 45, 99, 111, 110, 116, 114, 111, 108]⟩, .string ⟨#[110, 111, 45, 115, 116, 111, 114, 101]⟩, .string ⟨#[99, 111, 110, 110, 101, 99, 116, 105, 111, 110]⟩, .string ⟨#[99, 108, 111, 115, 101]⟩] 74 (0, 0)) := by
    rw [← hW2, ← hG, Below.heap_alloc _ _ _ (by simp)]; exact World.alloc_heap_new _ _
  have HB2 := Lib.hid (show Below w.heap.size w W2 by rw [← hW2]; exact ((Below.refl _ _).alloc (Nat.le_refl _) _).alloc (by simp) _)
  have K := Lib.hid (ref_Bytes Hp.ok200 _ (Hp.sfields false) W2 (hs_six W2 G _ (Hp.sfields false) hG2 rfl 3 rfl) (by decide) (by decide) (by decide))
  have HGG := Lib.hid hG
  have HW2 := Lib.hid hW2
  clear hG hW2 hG2
  go_enter Tryd.func18, Tryd.ntmps18
  go_wp2_with fail
  rw [HW2.out, HGG.out]
  refine K.out.mono ?_
  rintro e w3 ⟨rfl, hb3⟩
  have HB3 := Lib.hid (HB2.out.trans (hb3.mono HB2.out.size))
  clear hb3
  go_wp2_with fail
  go_ret
  exact ⟨rfl, HB3.out⟩
theorem ref_stream1 (w : World) :
    Calls Tryd.prog 18 #[.bool true] w fun e w' => e = .returned (.string ⟨(Hp.stream true).toArray⟩) ∧ Below w.heap.size w w' := by
  obtain ⟨G, hG⟩ : ∃ G, w.heap.size = G := ⟨_, rfl⟩
  obtain ⟨W2, hW2⟩ : ∃ Z, (w.alloc (.cells #[.string ⟨#[99, 111, 110, 116, 101, 110, 116, 45, 116, 121, 112, 101]⟩, .string ⟨#[116, 101, 120, 116, 47, 101, 118, 101, 110, 116, 45, 115, 116, 114, 101, 97, 109]⟩, .string ⟨#[99, 97, 99, 104, 101, 45, 99, 111, 110, 116, 114, 111, 108]⟩, .string ⟨#[110, 111, 45, 115, 116, 111, 114, 101]⟩, .string ⟨#[116, 114, 97, 110, 115, 102, 101, 114, 45, 101, 110, 99, 111, 100, 105, 110, 103]⟩, .string ⟨#[99, 104, 117, 110, 107, 101, 100]⟩] 74)).alloc (.cells #[.string ⟨#[72, 84, 84, 80, 47, 49, 46, 49, 32, 50, 48, 48, 32, 79, 75]⟩, .slice (some ⟨w.heap.size, 0, none⟩) 3 3] 45) = Z := ⟨_, rfl⟩
  have hG2 : W2.heap[G]? = some (.cells #[.string ⟨#[99, 111, 110, 116, 101, 110, 116, 45, 116, 121, 112, 101]⟩, .string ⟨#[116, 101, 120, 116, 47, 101, 118, 101, 110, 116, 45, 115, 116, 114, 101, 97, 109]⟩, .string ⟨#[99, 97, 99, 104, 101, 45, 99, 111, 110, 116, 114, 111, 108]⟩, .string ⟨#[110, 111, 45, 115, 116, 111, 114, 101]⟩, .string ⟨#[116, 114, 97, 110, 115, 102, 101, 114, 45, 101, 110, 99, 111, 100, 105, 110, 103]⟩, .string ⟨#[99, 104, 117, 110, 107, 101, 100]⟩] 74 (0, 0)) := by
    rw [← hW2, ← hG, Below.heap_alloc _ _ _ (by simp)]; exact World.alloc_heap_new _ _
  have HB2 := Lib.hid (show Below w.heap.size w W2 by rw [← hW2]; exact ((Below.refl _ _).alloc (Nat.le_refl _) _).alloc (by simp) _)
  have K := Lib.hid (ref_Bytes Hp.ok200 _ (Hp.sfields true) W2 (hs_six W2 G _ (Hp.sfields true) hG2 rfl 3 rfl) (by decide) (by decide) (by decide))
  have HGG := Lib.hid hG
  have HW2 := Lib.hid hW2
  clear hG hW2 hG2
  go_enter Tryd.func18, Tryd.ntmps18
  go_wp2_with fail
  rw [HW2.out, HGG.out]
  refine K.out.mono ?_
  rintro e w3 ⟨rfl, hb3⟩
  have HB3 := Lib.hid (HB2.out.trans (hb3.mono HB2.out.size))
  clear hb3
  go_wp2_with fail
  go_ret
  exact ⟨rfl, HB3.out⟩
theorem ref_Stream (b : Bool) (w : World) :
    Calls Tryd.prog 18 #[.bool b] w fun e w' => e = .returned (.string ⟨(Hp.stream b).toArray⟩) ∧ Below w.heap.size w w' := by
  cases b
  · exact ref_stream0 w
  · exact ref_stream1 w
end Go.Proofs.YthfdnlcalefjeaaDoor

/- The law's num and works. -/
namespace Go.Proofs.YthfdnlcalefjeaaDoor
set_option linter.unusedVariables false
set_option linter.unusedSimpArgs false
open Go.RowKit Go.Shelf
set_option maxHeartbeats 8000000
set_option maxRecDepth 100000
theorem an_num (n : Int) (w : World) (h : -9223372036854775808 ≤ n ∧ n ≤ 9223372036854775807) :
    Calls Tryd.prog 14 #[.int .i64 n] w fun e w' => e = .returned (.int .i64 n) ∧ w' = w := by
  go_enter Tryd.func14, Tryd.ntmps14
  go_wp2
  go_ret
  exact ⟨rfl, rfl⟩
namespace Hp
theorem d405 : Dp.digs 10 405 = [52, 48, 53] := by
  have h1 : Dp.digs 10 405 = Dp.digs 10 40 ++ [Dp.dg 5] := Dp.digs_ge (by omega) (by omega)
  have h2 : Dp.digs 10 40 = Dp.digs 10 4 ++ [Dp.dg 0] := Dp.digs_ge (by omega) (by omega)
  rw [h1, h2, Dp.digs_lt (by omega)]; rfl
theorem d23 : Dp.digs 10 23 = [50, 51] := by
  have h1 : Dp.digs 10 23 = Dp.digs 10 2 ++ [Dp.dg 3] := Dp.digs_ge (by omega) (by omega)
  rw [h1, Dp.digs_lt (by omega)]; rfl
def body405 : List UInt8 := [72, 84, 84, 80, 47, 49, 46, 49, 32, 52, 48, 53, 32, 77, 101, 116, 104, 111, 100, 32, 78, 111, 116, 32, 65, 108, 108, 111, 119, 101, 100, 13, 10, 99, 111, 110, 116, 101, 110, 116, 45, 116, 121, 112, 101, 58, 32, 116, 101, 120, 116, 47, 112, 108, 97, 105, 110, 13, 10, 99, 111, 110, 116, 101, 110, 116, 45, 108, 101, 110, 103, 116, 104, 58, 32, 50, 51, 13, 10, 97, 108, 108, 111, 119, 58, 32, 71, 69, 84, 13, 10, 99, 111, 110, 110, 101, 99, 116, 105, 111, 110, 58, 32, 99, 108, 111, 115, 101, 13, 10, 13, 10, 52, 48, 53, 32, 109, 101, 116, 104, 111, 100, 32, 110, 111, 116, 32, 97, 108, 108, 111, 119, 101, 100, 10]
theorem r405 : reason 405 = some [77, 101, 116, 104, 111, 100, 32, 78, 111, 116, 32, 65, 108, 108, 111, 119, 101, 100] := by decide +kernel
theorem refusal405 : refusal 405 = some body405 := by
  have h2 : Dp.digs 10 (405 : Int).toNat ++ 32 :: Tp.lower [77, 101, 116, 104, 111, 100, 32, 78, 111, 116, 32, 65, 108, 108, 111, 119, 101, 100] = [52, 48, 53, 32, 109, 101, 116, 104, 111, 100, 32, 110, 111, 116, 32, 97, 108, 108, 111, 119, 101, 100] := by
    rw [show (405 : Int).toNat = 405 from rfl, d405]; decide +kernel
  have h1 : refusal 405 = plain 405 (Dp.digs 10 (405 : Int).toNat ++ 32 :: Tp.lower [77, 101, 116, 104, 111, 100, 32, 78, 111, 116, 32, 65, 108, 108, 111, 119, 101, 100]) := by
    unfold refusal; rw [r405]; rfl
  rw [h1, h2]
  unfold plain
  rw [r405]
  simp only
  rw [if_pos (by decide)]
  unfold first fields
  rw [show (405 : Int).toNat = 405 from rfl, d405, show ([52, 48, 53, 32, 109, 101, 116, 104, 111, 100, 32, 110, 111, 116, 32, 97, 108, 108, 111, 119, 101, 100] : List UInt8).length + 1 = 23 from rfl, d23]
  decide +kernel
theorem r404 : reason 404 = some [78, 111, 116, 32, 70, 111, 117, 110, 100] := by decide +kernel
theorem r418 : reason 418 = none := by decide +kernel
theorem refusal200 : refusal 200 = none := by
  unfold refusal
  rw [show reason 200 = some [79, 75] by decide +kernel]; rfl
end Hp
theorem an_works (w : World) (ht : Tabs w) :
    Calls Tryd.prog 7 #[] w fun e w' => e = .returned (.bool true) ∧ Below w.heap.size w w' := by
  have HT := Lib.hid ht
  have HN := Lib.hid an_num
  have K1 := Lib.hid (fun W => ans_Reason 404 W)
  have K2 := Lib.hid (fun W => ans_Reason 418 W)
  have K3 := Lib.hid (fun W (h : Tabs W) => ans_Refusal 200 W (by omega) h)
  have K4 := Lib.hid (fun W (h : Tabs W) => ans_Refusal 405 W (by omega) h)
  rw [Hp.r404] at K1
  rw [Hp.r418] at K2
  rw [Hp.refusal200] at K3
  rw [Hp.refusal405] at K4
  unfold Hp.reaOut at K1 K2
  unfold Hp.sx at K1
  simp only at K1 K2
  clear ht
  go_enter Tryd.func7, Tryd.ntmps7
  go_wp2_with fail
  refine (K1.out w).mono ?_
  rintro e w1 ⟨rfl, hb1⟩
  have HB1 := Lib.hid hb1
  clear hb1
  go_wp2_with fail
  refine (K2.out w1).mono ?_
  rintro e w2 ⟨rfl, hb2⟩
  have HB2 := Lib.hid (HB1.out.trans (hb2.mono HB1.out.size))
  clear hb2
  go_wp2_with fail
  refine (K3.out w2 (HT.out.bel HB2.out)).mono ?_
  rintro e w3 ⟨⟨v3, rfl, hv3⟩, hb3⟩
  have HB3 := Lib.hid (HB2.out.trans (hb3.mono HB2.out.size))
  clear hb3 hv3
  unfold erOf
  simp only [Option.isSome_none, Bool.false_eq_true, if_false]
  go_wp2_with fail
  refine (K4.out w3 (HT.out.bel HB3.out)).mono ?_
  rintro e w4 ⟨⟨v4, rfl, hv4⟩, hb4⟩
  have HB4 := Lib.hid (HB3.out.trans (hb4.mono HB3.out.size))
  have hcv := conv_brow hv4
  simp only [Option.getD_some] at hcv
  clear hb4 hv4
  unfold erOf
  simp only [Option.isSome_some, if_true]
  go_wp2_with fail
  refine (HN.out 0 _ (by omega)).mono ?_
  rintro e w5 ⟨rfl, hw5⟩
  subst w5
  go_wp2_with fail
  refine (HN.out 0 _ (by omega)).mono ?_
  rintro e w5 ⟨rfl, hw5⟩
  subst w5
  go_wp2_with fail
  refine (HN.out 2 _ (by omega)).mono ?_
  rintro e w5 ⟨rfl, hw5⟩
  subst w5
  go_wp2_with fail
  refine (HN.out 2 _ (by omega)).mono ?_
  rintro e w5 ⟨rfl, hw5⟩
  subst w5
  go_wp2_with fail
  go_ret
  refine ⟨?_, HB4.out⟩
  show Ending.returned (.bool (Hp.body405 == Hp.body405)) = _
  rw [beq_self_eq_true]
end Go.Proofs.YthfdnlcalefjeaaDoor

/- AnswerPlain returns true for any status and any text: the walk. The tables of the library read as they are laid. -/
namespace Go.Proofs.YthfdnlcalefjeaaDoor
set_option linter.unusedVariables false
set_option linter.unusedSimpArgs false
open Go.RowKit Go.Shelf
set_option maxHeartbeats 8000000
set_option maxRecDepth 100000
theorem er_range (o : Option (List UInt8)) : -9223372036854775808 ≤ erOf o ∧ erOf o ≤ 9223372036854775807 := by
  unfold erOf; split <;> omega
theorem rea_form (o : Option (List UInt8)) : ∃ (x : ByteArray) (n : Int), Hp.reaOut o = .tuple #[.string x, .int .i64 n] ∧ -9223372036854775808 ≤ n ∧ n ≤ 9223372036854775807 := by
  cases o with
  | none => exact ⟨_, _, rfl, by omega, by omega⟩
  | some r => exact ⟨_, _, rfl, by omega, by omega⟩
theorem walkAP (n : Int) (text : ByteArray) (w : World) (hn : (Lit.int .i64 n).wf = true) (hs : text.size ≤ maxLen) (ht : Tabs w) :
    Calls Tryd.prog 3 #[.int .i64 n, .string text] w fun e w' => e = .returned (.bool true) ∧ Below w.heap.size w w' := by
  have hn2 : -9223372036854775808 ≤ n ∧ n ≤ 9223372036854775807 := by simpa [Lit.wf, IntKind.min, IntKind.max, IntKind.signed, IntKind.bits] using hn
  have hs2 : text.size ≤ 9223372036854775807 := hs
  have HT := Lib.hid ht
  have WK := Lib.hid (fun W (h : Tabs W) => an_works W h)
  have HN := Lib.hid an_num
  clear ht hs
  by_cases hl : text.size ≤ 1100
  · have K1 := Lib.hid (fun W => ans_Reason n W)
    have K2 := Lib.hid (fun W (h : Tabs W) => plain_any n text W hn2 hs2 h)
    have K3 := Lib.hid (fun W (h : Tabs W) => ans_Refusal n W hn2 h)
    have K4 := Lib.hid (fun W => ref_Reason n W)
    have K5 := Lib.hid (fun W => ref_Plain n text W hn2 hs2)
    have K6 := Lib.hid (fun W => ref_Refusal n W hn2)
    unfold RfOut Hp.sx at K5 K6
    obtain ⟨x1, n1, hr, hr1, hr2⟩ := rea_form (Hp.reason n)
    rw [hr] at K1 K4
    have hp := er_range (Hp.plain n text.data.toList)
    have hq := er_range (Hp.refusal n)
    obtain ⟨o2, ho2⟩ : ∃ o, Hp.plain n text.data.toList = o := ⟨_, rfl⟩
    obtain ⟨o3, ho3⟩ : ∃ o, Hp.refusal n = o := ⟨_, rfl⟩
    rw [ho2] at K2 K5 hp
    rw [ho3] at K3 K6 hq
    unfold AnOut at K2 K3
    obtain ⟨n2, hn2'⟩ : ∃ z, erOf o2 = z := ⟨_, rfl⟩
    obtain ⟨n3, hn3'⟩ : ∃ z, erOf o3 = z := ⟨_, rfl⟩
    rw [hn2'] at K2 K5 hp
    rw [hn3'] at K3 K6 hq
    obtain ⟨l2, hl2⟩ : ∃ z, o2.getD [] = z := ⟨_, rfl⟩
    obtain ⟨l3, hl3⟩ : ∃ z, o3.getD [] = z := ⟨_, rfl⟩
    rw [hl2] at K2 K5
    rw [hl3] at K3 K6
    have HP := Lib.hid hp
    have HQ := Lib.hid hq
    have HR := Lib.hid (And.intro hr1 hr2)
    have e1 : (x1.toList == x1.toList) = true := beq_self_eq_true _
    have e2 : (n1 == n1) = true := beq_self_eq_true _
    have e3 : (n2 == n2) = true := beq_self_eq_true _
    have e4 : (n3 == n3) = true := beq_self_eq_true _
    have e5 : (l2 == l2) = true := beq_self_eq_true _
    have e6 : (l3 == l3) = true := beq_self_eq_true _
    clear hr hr1 hr2 hp hq ho2 ho3 hn2' hn3' hl2 hl3
    go_enter Tryd.func3, Tryd.ntmps3
    go_wp2_with fail
    refine (K1.out w).mono ?_
    rintro e w1 ⟨rfl, hb1⟩
    have HB1 := Lib.hid hb1
    clear hb1
    go_wp2_with fail
    refine (K2.out w1 (HT.out.bel HB1.out)).mono ?_
    rintro e w2 ⟨⟨v2, rfl, hv2⟩, hb2⟩
    have HB2 := Lib.hid (HB1.out.trans (hb2.mono HB1.out.size))
    have HV2 := Lib.hid hv2
    clear hb2 hv2
    go_wp2_with fail
    refine (K3.out w2 (HT.out.bel HB2.out)).mono ?_
    rintro e w3 ⟨⟨v3, rfl, hv3⟩, hb3⟩
    have HB3 := Lib.hid (HB2.out.trans (hb3.mono HB2.out.size))
    have HV3 := Lib.hid hv3
    have HC3 := Lib.hid hb3
    clear hb3 hv3
    go_wp2_with fail
    refine (K4.out w3).mono ?_
    rintro e w4 ⟨rfl, hb4⟩
    have HB4 := Lib.hid (HB3.out.trans (hb4.mono HB3.out.size))
    have HC4 := Lib.hid hb4
    clear hb4
    go_wp2_with fail
    refine (K5.out w4).mono ?_
    rintro e w5 ⟨rfl, hb5⟩
    have HB5 := Lib.hid (HB4.out.trans (hb5.mono HB4.out.size))
    have HC5 := Lib.hid (HC4.out.trans (hb5.mono HC4.out.size))
    clear hb5
    go_wp2_with fail
    refine (K6.out w5).mono ?_
    rintro e w6 ⟨rfl, hb6⟩
    have HB6 := Lib.hid (HB5.out.trans (hb6.mono HB5.out.size))
    have hv3 := HV3.out.below (HC5.out.trans (hb6.mono HC5.out.size))
    have hv2 := (HV2.out.below HC3.out).below (HC5.out.trans (hb6.mono HC5.out.size))
    have hcv2 := conv_brow hv2
    have hcv3 := conv_brow hv3
    clear hb6 hv2 hv3
    go_wp2_with fail
    refine (HN.out n1 _ HR.out).mono ?_
    rintro e w7 ⟨rfl, hw7⟩
    subst w7
    go_wp2_with fail
    refine (HN.out n2 _ HP.out).mono ?_
    rintro e w7 ⟨rfl, hw7⟩
    subst w7
    go_wp2_with fail
    refine (HN.out n3 _ HQ.out).mono ?_
    rintro e w7 ⟨rfl, hw7⟩
    subst w7
    go_wp2_with fail
    refine (WK.out w6 (HT.out.bel HB6.out)).mono ?_
    rintro e w7 ⟨rfl, hb7⟩
    have HB7 := Lib.hid (HB6.out.trans (hb7.mono HB6.out.size))
    clear hb7
    go_wp2_with fail
    go_ret
    exact ⟨rfl, HB7.out⟩
  · go_enter Tryd.func3, Tryd.ntmps3
    go_wp2_with fail
    refine (WK.out w HT.out).mono ?_
    rintro e w1 ⟨rfl, b1⟩
    have HB1 := Lib.hid b1
    clear b1
    go_wp2
    go_ret
    exact ⟨rfl, HB1.out⟩
end Go.Proofs.YthfdnlcalefjeaaDoor

/- AnswerStream returns true for any input: the walk. The tables of the library read as they are laid. -/
namespace Go.Proofs.YthfdnlcalefjeaaDoor
set_option linter.unusedVariables false
set_option linter.unusedSimpArgs false
open Go.RowKit Go.Shelf
set_option maxHeartbeats 8000000
set_option maxRecDepth 100000
theorem rg_call0 {P : Program} {o : Oper} {a : Act} {w : World} {K : Act → World → Prop} {Q : Exit → Act → World → Prop} (k : Nat) (ty : Array TypeId) (R : Ending → World → Prop) (ho : o.op = Op.call { callee := .value (.func k), args := #[], argTypes := ty })
    (eg : ∀ args w, (callFunc k args).run P w = .ok (.enter k args) w) (hc : Calls P k #[] w R) (hR : ∀ e w', R e w' → ∃ r, e = .returned r ∧ K (a.put o.dst r) w') : o.wp P a w K Q := by
  have e2 : a.eval (.func k) = .func (.func k) #[] #[] := rfl
  unfold Oper.wp execOp
  simp [ho, resolve, invoke, e2, eg, go_sem]
  refine hc.mono ?_
  intro z w' hz
  obtain ⟨r, rfl, hk⟩ := hR z w' hz
  exact hk
def asF (b : Bool) (lb : List UInt8) (xb yb : ByteArray) (v9 : Value) (n : Int) : Nat → World → Value → Prop
  | 0, _, v => v = .bool b
  | 1, w, v => BRow w v lb
  | 2, _, v => v = .string xb
  | 3, _, v => v = .bool b
  | 4, _, v => v = .string xb
  | 5, _, v => v = .bool true
  | 6, _, v => v = .bool true
  | 7, _, v => v = v9
  | 8, _, v => v = .string yb
  | 9, _, v => v = .string yb
  | 10, _, v => v = .bool true
  | 11, _, v => v = .bool true
  | 12, _, v => v = .bool true
  | 13, _, v => v = .int .i64 n
  | 14, _, v => v = .int .i64 n
  | 15, _, v => v = .int .i64 n
  | 16, _, v => v = .bool true
  | 17, _, v => v = .bool true
  | 18, _, v => v = .bool true
  | 19, _, v => v = .bool true
  | 20, _, v => v = .bool true
  | 21, _, v => v = .bool true
  | _, _, _ => False
theorem walkAS (b : Bool) (t c : Int) (d : Bool) (w : World) (ht : (Lit.int .i64 t).wf = true) (hc : (Lit.int .i64 c).wf = true) (htb : Tabs w) :
    Calls Tryd.prog 4 #[.bool b, .int .i64 t, .int .i64 c, .bool d] w fun e w' => e = .returned (.bool true) ∧ Below w.heap.size w w' := by
  have ht2 : -9223372036854775808 ≤ t ∧ t ≤ 9223372036854775807 := by simpa [Lit.wf, IntKind.min, IntKind.max, IntKind.signed, IntKind.bits] using ht
  have hc2 : -9223372036854775808 ≤ c ∧ c ≤ 9223372036854775807 := by simpa [Lit.wf, IntKind.min, IntKind.max, IntKind.signed, IntKind.bits] using hc
  have HT := Lib.hid htb
  have WK := Lib.hid (fun W (h : Tabs W) => an_works W h)
  have HN := Lib.hid an_num
  have KH := Lib.hid (ans_Health t c d w ht2 hc2 htb)
  have KI := Lib.hid (fun W => ref_Health t c d W ht2 hc2)
  have KS := Lib.hid (fun W => ans_Stream b W)
  have KF := Lib.hid (fun W => ref_Stream b W)
  unfold RfOut Hp.sx at KI
  obtain ⟨o2, ho2⟩ : ∃ o, Hp.health t c d = o := ⟨_, rfl⟩
  rw [ho2] at KH KI
  have hp := er_range o2
  unfold AnOut at KH
  obtain ⟨n, hn⟩ : ∃ z, erOf o2 = z := ⟨_, rfl⟩
  rw [hn] at KH KI hp
  obtain ⟨l2, hl2⟩ : ∃ z, o2.getD [] = z := ⟨_, rfl⟩
  rw [hl2] at KH KI
  obtain ⟨lb, hlb⟩ : ∃ z, Hp.stream b = z := ⟨_, rfl⟩
  rw [hlb] at KS KF
  obtain ⟨xb, hxb⟩ : ∃ z : ByteArray, (⟨lb.toArray⟩ : ByteArray) = z := ⟨_, rfl⟩
  obtain ⟨yb, hyb⟩ : ∃ z : ByteArray, (⟨l2.toArray⟩ : ByteArray) = z := ⟨_, rfl⟩
  rw [hxb] at KF
  rw [hyb] at KI
  have HXB := Lib.hid hxb
  have HYB := Lib.hid hyb
  have HR := Lib.hid hp
  clear htb ht hc ht2 hc2 ho2 hp hn hl2 hlb hxb hyb
  go_enter Tryd.func4, Tryd.ntmps4
  go_wp2_with fail
  refine KH.out.mono ?_
  rintro e w1 ⟨⟨v9, rfl, hv9⟩, hb1⟩
  have HB1 := Lib.hid hb1
  have HV1 := Lib.hid hv9
  clear hb1 hv9
  go_wp2_with fail
  refine (KI.out w1).mono ?_
  rintro e w2 ⟨rfl, hb2⟩
  have HV9 := Lib.hid (HV1.out.below hb2)
  have HB2 := Lib.hid (HB1.out.trans (hb2.mono HB1.out.size))
  have HT2 := Lib.hid (HT.out.bel HB2.out)
  clear hb2
  go_wp2_with fail
  refine region_slotsG (fun i => (if i = 21 then 8 else 27 + min i 20)) (asF b lb xb yb v9 n) (fun _ => true) (by kernel_rfl) (by kernel_rfl) (fun i => by show (if i = 21 then 8 else 27 + min i 20) < _; simp; split <;> omega) (fun i j hi hj h => by have hi : i < 22 := hi; have hj : j < 22 := hj; have h : (if i = 21 then 8 else 27 + min i 20) = (if j = 21 then 8 else 27 + min j 20) := h; split at h <;> split at h <;> omega) ?mono ?dst ?gu ?ng ?skip ?step ?done
  case mono =>
    intro i W W' v h hbw
    match i, h with
    | 0, h | 2, h | 3, h | 4, h | 5, h | 6, h | 7, h | 8, h | 9, h | 10, h | 11, h | 12, h | 13, h | 14, h | 15, h | 16, h | 17, h | 18, h | 19, h | 20, h | 21, h => exact h
    | 1, h => exact BRow.below h hbw
    | n + 22, h => exact h.elim
  case dst =>
    intro i o ho
    match i, ho with
    | 0, ho | 1, ho | 2, ho | 3, ho | 4, ho | 5, ho | 6, ho | 7, ho | 8, ho | 9, ho | 10, ho | 11, ho | 12, ho | 13, ho | 14, ho | 15, ho | 16, ho | 17, ho | 18, ho | 19, ho | 20, ho | 21, ho => cases ho; rfl
    | n + 22, ho => exact absurd ho (by simp)
  case gu =>
    intro i o g b ho hgd W v hv
    match i, ho with
    | 0, ho => cases ho; cases hgd
    | 1, ho => cases ho; cases hgd
    | 2, ho => cases ho; cases hgd
    | 3, ho => cases ho; cases hgd
    | 4, ho => cases ho; cases hgd
    | 5, ho => cases ho; cases hgd
    | 6, ho => cases ho; cases hgd
    | 7, ho => cases ho; cases hgd; exact hv
    | 8, ho => cases ho; cases hgd; exact hv
    | 9, ho => cases ho; cases hgd; exact hv
    | 10, ho => cases ho; cases hgd; exact hv
    | 11, ho => cases ho; cases hgd
    | 12, ho => cases ho; cases hgd
    | 13, ho => cases ho; cases hgd; exact hv
    | 14, ho => cases ho; cases hgd; exact hv
    | 15, ho => cases ho; cases hgd; exact hv
    | 16, ho => cases ho; cases hgd; exact hv
    | 17, ho => cases ho; cases hgd
    | 18, ho => cases ho; cases hgd
    | 19, ho => cases ho; cases hgd; exact hv
    | 20, ho => cases ho; cases hgd
    | 21, ho => cases ho; cases hgd
    | n + 22, ho => exact absurd ho (by simp)
  case ng =>
    intro i o ho hgd
    match i, ho with
    | 0, ho => cases ho; first | rfl | cases hgd
    | 1, ho => cases ho; first | rfl | cases hgd
    | 2, ho => cases ho; first | rfl | cases hgd
    | 3, ho => cases ho; first | rfl | cases hgd
    | 4, ho => cases ho; first | rfl | cases hgd
    | 5, ho => cases ho; first | rfl | cases hgd
    | 6, ho => cases ho; first | rfl | cases hgd
    | 7, ho => cases ho; first | rfl | cases hgd
    | 8, ho => cases ho; first | rfl | cases hgd
    | 9, ho => cases ho; first | rfl | cases hgd
    | 10, ho => cases ho; first | rfl | cases hgd
    | 11, ho => cases ho; first | rfl | cases hgd
    | 12, ho => cases ho; first | rfl | cases hgd
    | 13, ho => cases ho; first | rfl | cases hgd
    | 14, ho => cases ho; first | rfl | cases hgd
    | 15, ho => cases ho; first | rfl | cases hgd
    | 16, ho => cases ho; first | rfl | cases hgd
    | 17, ho => cases ho; first | rfl | cases hgd
    | 18, ho => cases ho; first | rfl | cases hgd
    | 19, ho => cases ho; first | rfl | cases hgd
    | 20, ho => cases ho; first | rfl | cases hgd
    | 21, ho => cases ho; first | rfl | cases hgd
    | n + 22, ho => exact absurd ho (by simp)
  case skip =>
    intro i W hi hsel
    match i, hi, hsel with
    | 0, _, hsel => first | exact absurd hsel (by decide) | rfl
    | 1, _, hsel => first | exact absurd hsel (by decide) | rfl
    | 2, _, hsel => first | exact absurd hsel (by decide) | rfl
    | 3, _, hsel => first | exact absurd hsel (by decide) | rfl
    | 4, _, hsel => first | exact absurd hsel (by decide) | rfl
    | 5, _, hsel => first | exact absurd hsel (by decide) | rfl
    | 6, _, hsel => first | exact absurd hsel (by decide) | rfl
    | 7, _, hsel => first | exact absurd hsel (by decide) | rfl
    | 8, _, hsel => first | exact absurd hsel (by decide) | rfl
    | 9, _, hsel => first | exact absurd hsel (by decide) | rfl
    | 10, _, hsel => first | exact absurd hsel (by decide) | rfl
    | 11, _, hsel => first | exact absurd hsel (by decide) | rfl
    | 12, _, hsel => first | exact absurd hsel (by decide) | rfl
    | 13, _, hsel => first | exact absurd hsel (by decide) | rfl
    | 14, _, hsel => first | exact absurd hsel (by decide) | rfl
    | 15, _, hsel => first | exact absurd hsel (by decide) | rfl
    | 16, _, hsel => first | exact absurd hsel (by decide) | rfl
    | 17, _, hsel => first | exact absurd hsel (by decide) | rfl
    | 18, _, hsel => first | exact absurd hsel (by decide) | rfl
    | 19, _, hsel => first | exact absurd hsel (by decide) | rfl
    | 20, _, hsel => first | exact absurd hsel (by decide) | rfl
    | 21, _, hsel => first | exact absurd hsel (by decide) | rfl
    | n + 22, hi, _ => exact absurd hi (by simp)
  case step =>
    intro f a' W i o ho hsel hpre hbel hrest
    match i, ho, hsel with
    | 0, ho, _ =>
      cases ho
      have q0 : a'.tmps.getD 0 undef = .bool b := (hrest 0 (by intro i hi; have hi : i < 22 := hi; show (if i = 21 then 8 else 27 + min i 20) ≠ _; split <;> omega))
      have e0 := rg_ev q0
      exact rg_same (.bool b) (by unfold Oper.wp execOp; go_simp; all_goals ((try simp only [e0]); (try go_simp); (try rw [if_pos (by omega)]); (try rw [if_neg (by omega)]); first | done | rfl | exact ⟨rfl, rfl⟩ | trivial)) rfl
    | 1, ho, _ =>
      cases ho
      have q27 : a'.tmps.getD 27 undef = .bool b := (hpre { on := 0, ground := .data } (by simp) rfl)
      exact rg_call 27 17 _ _ _ rfl q27 (enters_of Tryd.func17 (by kernel_rfl) rfl) (KS.out W) (fun e w' h => by obtain ⟨r, h1, h2, h3⟩ := h; exact ⟨r, h1, r, rfl, h2, h3⟩)
    | 2, ho, _ =>
      cases ho
      have h28 := hpre { on := 1, ground := .data } (by simp) rfl
      obtain ⟨z, hz⟩ : ∃ z, a'.tmps.getD 28 undef = z := ⟨_, rfl⟩
      have hcv := conv_brow (show BRow W z lb from hz ▸ h28)
      have e28 := rg_ev hz
      rw [HXB.out] at hcv
      exact rg_same (.string xb) (by unfold Oper.wp execOp; go_simp; all_goals ((try simp only [e28, hcv]); (try go_simp); first | done | rfl | exact ⟨rfl, rfl⟩ | trivial)) rfl
    | 3, ho, _ =>
      cases ho
      have q0 : a'.tmps.getD 0 undef = .bool b := (hrest 0 (by intro i hi; have hi : i < 22 := hi; show (if i = 21 then 8 else 27 + min i 20) ≠ _; split <;> omega))
      have e0 := rg_ev q0
      exact rg_same (.bool b) (by unfold Oper.wp execOp; go_simp; all_goals ((try simp only [e0]); (try go_simp); (try rw [if_pos (by omega)]); (try rw [if_neg (by omega)]); first | done | rfl | exact ⟨rfl, rfl⟩ | trivial)) rfl
    | 4, ho, _ =>
      cases ho
      have q30 : a'.tmps.getD 30 undef = .bool b := (hpre { on := 3, ground := .data } (by simp) rfl)
      exact rg_call 30 18 _ _ _ rfl q30 (enters_of Tryd.func18 (by kernel_rfl) rfl) (KF.out W) (fun e w' h => ⟨_, h.1, _, rfl, rfl, h.2⟩)
    | 5, ho, _ =>
      cases ho
      have q29 : a'.tmps.getD 29 undef = .string xb := (hpre { on := 2, ground := .data } (by simp) rfl)
      have q31 : a'.tmps.getD 31 undef = .string xb := (hpre { on := 4, ground := .data } (by simp) rfl)
      have hnn : (xb.toList == xb.toList) = true := beq_self_eq_true _
      have e29 := rg_ev q29
      have e31 := rg_ev q31
      exact rg_same (.bool true) (by unfold Oper.wp execOp; go_simp; all_goals ((try simp only [e29, e31]); (try go_simp); (try rw [if_pos (by omega)]); (try rw [if_neg (by omega)]); first | done | rfl | exact ⟨rfl, rfl⟩ | trivial)) rfl
    | 6, ho, _ =>
      cases ho
      have q32 : a'.tmps.getD 32 undef = .bool true := (hpre { on := 5, ground := .data } (by simp) rfl)
      have e32 := rg_ev q32
      exact rg_same (.bool true) (by unfold Oper.wp execOp; go_simp; all_goals ((try simp only [e32]); (try go_simp); (try rw [if_pos (by omega)]); (try rw [if_neg (by omega)]); first | done | rfl | exact ⟨rfl, rfl⟩ | trivial)) rfl
    | 7, ho, _ =>
      cases ho
      have q9 : a'.tmps.getD 9 undef = v9 := (hrest 9 (by intro i hi; have hi : i < 22 := hi; show (if i = 21 then 8 else 27 + min i 20) ≠ _; split <;> omega))
      have e9 := rg_ev q9
      exact rg_same (v9) (by unfold Oper.wp execOp; go_simp; all_goals ((try simp only [e9]); (try go_simp); (try rw [if_pos (by omega)]); (try rw [if_neg (by omega)]); first | done | rfl | exact ⟨rfl, rfl⟩ | trivial)) rfl
    | 8, ho, _ =>
      cases ho
      have q34 : a'.tmps.getD 34 undef = v9 := (hpre { on := 7, ground := .data } (by simp) rfl)
      have hcv := conv_brow (HV9.out.below hbel)
      have e34 := rg_ev q34
      rw [HYB.out] at hcv
      exact rg_same (.string yb) (by unfold Oper.wp execOp; go_simp; all_goals ((try simp only [e34, hcv]); (try go_simp); first | done | rfl | exact ⟨rfl, rfl⟩ | trivial)) rfl
    | 9, ho, _ =>
      cases ho
      have q11 : a'.tmps.getD 11 undef = .string yb := (hrest 11 (by intro i hi; have hi : i < 22 := hi; show (if i = 21 then 8 else 27 + min i 20) ≠ _; split <;> omega))
      have e11 := rg_ev q11
      exact rg_same (.string yb) (by unfold Oper.wp execOp; go_simp; all_goals ((try simp only [e11]); (try go_simp); (try rw [if_pos (by omega)]); (try rw [if_neg (by omega)]); first | done | rfl | exact ⟨rfl, rfl⟩ | trivial)) rfl
    | 10, ho, _ =>
      cases ho
      have q35 : a'.tmps.getD 35 undef = .string yb := (hpre { on := 8, ground := .data } (by simp) rfl)
      have q36 : a'.tmps.getD 36 undef = .string yb := (hpre { on := 9, ground := .data } (by simp) rfl)
      have hnn : (yb.toList == yb.toList) = true := beq_self_eq_true _
      have e35 := rg_ev q35
      have e36 := rg_ev q36
      exact rg_same (.bool true) (by unfold Oper.wp execOp; go_simp; all_goals ((try simp only [e35, e36]); (try go_simp); (try rw [if_pos (by omega)]); (try rw [if_neg (by omega)]); first | done | rfl | exact ⟨rfl, rfl⟩ | trivial)) rfl
    | 11, ho, _ =>
      cases ho
      have q33 : a'.tmps.getD 33 undef = .bool true := (hpre { on := 6, ground := .data } (by simp) rfl)
      have q37 : a'.tmps.getD 37 undef = .bool true := (hpre { on := 10, ground := .data } (by simp) rfl)
      have e33 := rg_ev q33
      have e37 := rg_ev q37
      exact rg_same (.bool true) (by unfold Oper.wp execOp; go_simp; all_goals ((try simp only [e33, e37]); (try go_simp); (try rw [if_pos (by omega)]); (try rw [if_neg (by omega)]); first | done | rfl | exact ⟨rfl, rfl⟩ | trivial)) rfl
    | 12, ho, _ =>
      cases ho
      have q38 : a'.tmps.getD 38 undef = .bool true := (hpre { on := 11, ground := .data } (by simp) rfl)
      have e38 := rg_ev q38
      exact rg_same (.bool true) (by unfold Oper.wp execOp; go_simp; all_goals ((try simp only [e38]); (try go_simp); (try rw [if_pos (by omega)]); (try rw [if_neg (by omega)]); first | done | rfl | exact ⟨rfl, rfl⟩ | trivial)) rfl
    | 13, ho, _ =>
      cases ho
      have q10 : a'.tmps.getD 10 undef = .int .i64 n := (hrest 10 (by intro i hi; have hi : i < 22 := hi; show (if i = 21 then 8 else 27 + min i 20) ≠ _; split <;> omega))
      have e10 := rg_ev q10
      exact rg_same (.int .i64 n) (by unfold Oper.wp execOp; go_simp; all_goals ((try simp only [e10]); (try go_simp); (try rw [if_pos (by omega)]); (try rw [if_neg (by omega)]); first | done | rfl | exact ⟨rfl, rfl⟩ | trivial)) rfl
    | 14, ho, _ =>
      cases ho
      have q40 : a'.tmps.getD 40 undef = .int .i64 n := (hpre { on := 13, ground := .data } (by simp) rfl)
      exact rg_call 40 14 _ _ _ rfl q40 (enters_of Tryd.func14 (by kernel_rfl) rfl) (HN.out n W HR.out) (fun e w' h => ⟨_, h.1, _, rfl, rfl, by rw [h.2]; exact Below.refl _ _⟩)
    | 15, ho, _ =>
      cases ho
      have q12 : a'.tmps.getD 12 undef = .int .i64 n := (hrest 12 (by intro i hi; have hi : i < 22 := hi; show (if i = 21 then 8 else 27 + min i 20) ≠ _; split <;> omega))
      have e12 := rg_ev q12
      exact rg_same (.int .i64 n) (by unfold Oper.wp execOp; go_simp; all_goals ((try simp only [e12]); (try go_simp); (try rw [if_pos (by omega)]); (try rw [if_neg (by omega)]); first | done | rfl | exact ⟨rfl, rfl⟩ | trivial)) rfl
    | 16, ho, _ =>
      cases ho
      have q41 : a'.tmps.getD 41 undef = .int .i64 n := (hpre { on := 14, ground := .data } (by simp) rfl)
      have q42 : a'.tmps.getD 42 undef = .int .i64 n := (hpre { on := 15, ground := .data } (by simp) rfl)
      have hnn : (n == n) = true := beq_self_eq_true _
      have e41 := rg_ev q41
      have e42 := rg_ev q42
      exact rg_same (.bool true) (by unfold Oper.wp execOp; go_simp; all_goals ((try simp only [e41, e42]); (try go_simp); (try rw [if_pos (by omega)]); (try rw [if_neg (by omega)]); first | done | rfl | exact ⟨rfl, rfl⟩ | trivial)) rfl
    | 17, ho, _ =>
      cases ho
      have q39 : a'.tmps.getD 39 undef = .bool true := (hpre { on := 12, ground := .data } (by simp) rfl)
      have q43 : a'.tmps.getD 43 undef = .bool true := (hpre { on := 16, ground := .data } (by simp) rfl)
      have e39 := rg_ev q39
      have e43 := rg_ev q43
      exact rg_same (.bool true) (by unfold Oper.wp execOp; go_simp; all_goals ((try simp only [e39, e43]); (try go_simp); (try rw [if_pos (by omega)]); (try rw [if_neg (by omega)]); first | done | rfl | exact ⟨rfl, rfl⟩ | trivial)) rfl
    | 18, ho, _ =>
      cases ho
      have q44 : a'.tmps.getD 44 undef = .bool true := (hpre { on := 17, ground := .data } (by simp) rfl)
      have e44 := rg_ev q44
      exact rg_same (.bool true) (by unfold Oper.wp execOp; go_simp; all_goals ((try simp only [e44]); (try go_simp); (try rw [if_pos (by omega)]); (try rw [if_neg (by omega)]); first | done | rfl | exact ⟨rfl, rfl⟩ | trivial)) rfl
    | 19, ho, _ =>
      cases ho
      exact rg_call0 7 _ _ rfl (enters_of Tryd.func7 (by kernel_rfl) rfl) (WK.out W (HT2.out.bel hbel)) (fun e w' h => ⟨_, h.1, _, rfl, rfl, h.2⟩)
    | 20, ho, _ =>
      cases ho
      have q45 : a'.tmps.getD 45 undef = .bool true := (hpre { on := 18, ground := .data } (by simp) rfl)
      have q46 : a'.tmps.getD 46 undef = .bool true := (hpre { on := 19, ground := .data } (by simp) rfl)
      have e45 := rg_ev q45
      have e46 := rg_ev q46
      exact rg_same (.bool true) (by unfold Oper.wp execOp; go_simp; all_goals ((try simp only [e45, e46]); (try go_simp); (try rw [if_pos (by omega)]); (try rw [if_neg (by omega)]); first | done | rfl | exact ⟨rfl, rfl⟩ | trivial)) rfl
    | 21, ho, _ =>
      cases ho
      have q47 : a'.tmps.getD 47 undef = .bool true := (hpre { on := 20, ground := .data } (by simp) rfl)
      have e47 := rg_ev q47
      exact rg_same (.bool true) (by unfold Oper.wp execOp; go_simp; all_goals ((try simp only [e47]); (try go_simp); (try rw [if_pos (by omega)]); (try rw [if_neg (by omega)]); first | done | rfl | exact ⟨rfl, rfl⟩ | trivial)) rfl
    | n + 22, ho, _ => exact absurd ho (by simp)
  case done =>
    intro vs W hbel hvs
    have v0 : vs 0 = .bool b := hvs 0 (by decide)
    obtain ⟨y1, v1⟩ : ∃ z, vs 1 = z := ⟨_, rfl⟩
    have v2 : vs 2 = .string xb := hvs 2 (by decide)
    have v3 : vs 3 = .bool b := hvs 3 (by decide)
    have v4 : vs 4 = .string xb := hvs 4 (by decide)
    have v5 : vs 5 = .bool true := hvs 5 (by decide)
    have v6 : vs 6 = .bool true := hvs 6 (by decide)
    have v7 : vs 7 = v9 := hvs 7 (by decide)
    have v8 : vs 8 = .string yb := hvs 8 (by decide)
    have v9 : vs 9 = .string yb := hvs 9 (by decide)
    have v10 : vs 10 = .bool true := hvs 10 (by decide)
    have v11 : vs 11 = .bool true := hvs 11 (by decide)
    have v12 : vs 12 = .bool true := hvs 12 (by decide)
    have v13 : vs 13 = .int .i64 n := hvs 13 (by decide)
    have v14 : vs 14 = .int .i64 n := hvs 14 (by decide)
    have v15 : vs 15 = .int .i64 n := hvs 15 (by decide)
    have v16 : vs 16 = .bool true := hvs 16 (by decide)
    have v17 : vs 17 = .bool true := hvs 17 (by decide)
    have v18 : vs 18 = .bool true := hvs 18 (by decide)
    have v19 : vs 19 = .bool true := hvs 19 (by decide)
    have v20 : vs 20 = .bool true := hvs 20 (by decide)
    have v21 : vs 21 = .bool true := hvs 21 (by decide)
    have HBR := Lib.hid hbel
    simp only [fillN, List.size_toArray, List.length_cons, List.length_nil, Nat.reduceAdd, show List.range 22 = [0, 1, 2, 3, 4, 5, 6, 7, 8, 9, 10, 11, 12, 13, 14, 15, 16, 17, 18, 19, 20, 21] from rfl, List.foldl_cons, List.foldl_nil, show (if 0 = 21 then 8 else 27 + min 0 20) = 27 from rfl, show (if 1 = 21 then 8 else 27 + min 1 20) = 28 from rfl, show (if 2 = 21 then 8 else 27 + min 2 20) = 29 from rfl, show (if 3 = 21 then 8 else 27 + min 3 20) = 30 from rfl, show (if 4 = 21 then 8 else 27 + min 4 20) = 31 from rfl, show (if 5 = 21 then 8 else 27 + min 5 20) = 32 from rfl, show (if 6 = 21 then 8 else 27 + min 6 20) = 33 from rfl, show (if 7 = 21 then 8 else 27 + min 7 20) = 34 from rfl, show (if 8 = 21 then 8 else 27 + min 8 20) = 35 from rfl, show (if 9 = 21 then 8 else 27 + min 9 20) = 36 from rfl, show (if 10 = 21 then 8 else 27 + min 10 20) = 37 from rfl, show (if 11 = 21 then 8 else 27 + min 11 20) = 38 from rfl, show (if 12 = 21 then 8 else 27 + min 12 20) = 39 from rfl, show (if 13 = 21 then 8 else 27 + min 13 20) = 40 from rfl, show (if 14 = 21 then 8 else 27 + min 14 20) = 41 from rfl, show (if 15 = 21 then 8 else 27 + min 15 20) = 42 from rfl, show (if 16 = 21 then 8 else 27 + min 16 20) = 43 from rfl, show (if 17 = 21 then 8 else 27 + min 17 20) = 44 from rfl, show (if 18 = 21 then 8 else 27 + min 18 20) = 45 from rfl, show (if 19 = 21 then 8 else 27 + min 19 20) = 46 from rfl, show (if 20 = 21 then 8 else 27 + min 20 20) = 47 from rfl, show (if 21 = 21 then 8 else 27 + min 21 20) = 8 from rfl, v0, v1, v2, v3, v4, v5, v6, v7, v8, v9, v10, v11, v12, v13, v14, v15, v16, v17, v18, v19, v20, v21]
    clear v0 v1 v2 v3 v4 v5 v6 v7 v8 v9 v10 v11 v12 v13 v14 v15 v16 v17 v18 v19 v20 v21 hvs hbel
    go_simp
    go_wp2_with fail
    go_ret
    exact ⟨rfl, HB2.out.trans (HBR.out.mono HB2.out.size)⟩
end Go.Proofs.YthfdnlcalefjeaaDoor
