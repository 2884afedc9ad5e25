/- Texts of this claim, one behind the other: Ia, GV, GW, GX, GY, GZ, LGH, Ib, Ic, Rx. -/
import Derived.Test.YtcfhenekoaegaaaGreatDoorCGTm4
import Derived.SizedLaws
import Derived.SliceStrings
import Derived.Lib.SmallJoins
import Derived.WideShapes
import Derived.Test.YtcfhenekoaegaaaGreatDoorCGTm2
import Derived.Test.YtcfhenekoaegaaaGreatDoorCGTm1
import Derived.Lib.Join
/- The reference's path and text of a target. -/
namespace Go.Proofs.YtcfhenekoaegaaaGreatDoor
set_option linter.unusedVariables false
set_option linter.unusedSimpArgs false
open Go.RowKit Go.Shelf
set_option maxHeartbeats 8000000
set_option maxRecDepth 100000
namespace Gt
/-- a target's path: its parts, each behind a slash -/
def jpath (P : List (List UInt8)) : List UInt8 := P.flatMap fun p => 47 :: p
theorem jpath_snoc (P : List (List UInt8)) (p : List UInt8) : jpath (P ++ [p]) = jpath P ++ (47 :: p) := by unfold jpath; rw [List.flatMap_append]; simp
theorem jpath_len : ∀ (P : List (List UInt8)), (∀ p ∈ P, p.length ≤ 300) → (jpath P).length ≤ P.length * 301
  | [], _ => by simp [jpath]
  | p :: P, h => by
    have h1 := jpath_len P (fun q hq => h q (List.mem_cons_of_mem _ hq))
    have h2 := h p List.mem_cons_self
    have e : jpath (p :: P) = 47 :: p ++ jpath P := by unfold jpath; rw [List.flatMap_cons]
    rw [e]; simp; omega
end Gt
theorem ba_len (T : ByteArray) (l : List UInt8) (h : T.data.toList = l) : T.size = l.length := by rw [← h]; rfl
theorem ba_of (T : ByteArray) (l : List UInt8) (h : T.data.toList = l) : T = ⟨l.toArray⟩ := by cases T; subst h; simp
theorem ref_Path (v1 : Value) (P : List (List UInt8)) (w : World) (h1 : TS w v1 P) (hP : P.length ≤ 300) (hs : ∀ p ∈ P, p.length ≤ 300) (p2 : Option Addr) (n2 c2 : Nat) :
    Calls Tryz.prog 21 #[.agg #[v1, .slice p2 n2 c2]] w fun e w' => e = .returned (.string ⟨(Gt.jpath P).toArray⟩) ∧ Below w.heap.size w w' := by
  obtain ⟨p1, c1, rfl⟩ := h1.slice
  obtain ⟨n1, hn1⟩ : ∃ n, P.length = n := ⟨_, rfl⟩
  rw [hn1] at h1 hP ⊢
  obtain ⟨W1, hW1⟩ : ∃ Z, w.alloc (.cells #[.slice p1 n1 c1, .slice p2 n2 c2] 26) = Z := ⟨_, rfl⟩
  have hb1 : Below w.heap.size w W1 := by rw [← hW1]; exact (Below.refl _ _).alloc (Nat.le_refl _) _
  have hA : W1.heap[w.heap.size]? = some (.cells #[.slice p1 n1 c1, .slice p2 n2 c2] 26 (0, 0)) := by
    rw [← hW1]; exact World.alloc_heap_new _ _
  have a0 : W1.cell? ⟨w.heap.size, 0, none⟩ = some (.slice p1 n1 c1) := by simp [World.cell?, hA]
  have HB := Lib.hid hb1
  have H1 := Lib.hid (h1.below hb1)
  have HS1 := Lib.hid hs
  have HN1 := Lib.hid hn1
  have HW := Lib.hid hW1
  clear h1 hb1 hA hn1 hW1 hs
  go_enter Tryz.func21, Tryz.ntmps21
  go_wp2_with fail
  rw [HW.out]
  go_loopw [3, 4] (fun v i wr => ∃ (k n : Nat) (T : ByteArray), k ≤ n1 ∧ i = .int .i64 k ∧ v = .string T ∧ T.data.toList = Gt.jpath (P.take k) ∧ wr = W1.drewN n) (fun _ i _ => n1 - (intOf i).toNat)
  case atStart => exact ⟨0, 0, ⟨#[]⟩, Nat.zero_le _, rfl, rfl, rfl, rfl⟩
  case round =>
    obtain ⟨k, n, T, hk, rfl, rfl, hT, rfl⟩ := hrel
    have HT := Lib.hid hT
    have hTs : T.size ≤ 100000 := by
      rw [ba_len _ _ hT]
      have h1 := Gt.jpath_len (P.take k) (fun p hp => HS1.out p (List.mem_of_mem_take hp))
      have h2 : (P.take k).length ≤ 300 := by rw [List.length_take]; omega
      have h3 := Nat.mul_le_mul_right 301 h2
      omega
    clear hT
    by_cases hlt : k < n1
    · obtain ⟨g1, o1, rfl, hc1⟩ := H1.out.cells (k := k) (by rw [HN1.out]; exact hlt)
      have hx := hc1 k (by rw [HN1.out]; exact hlt)
      have hTK := take_getD P [] k (by rw [HN1.out]; exact hlt)
      obtain ⟨x, hxx⟩ : ∃ x, P.getD k [] = x := ⟨_, rfl⟩
      have hxl : x.length ≤ 300 := HS1.out x (by rw [← hxx, List.getD_eq_getElem?_getD, List.getElem?_eq_getElem (by rw [HN1.out]; exact hlt)]; exact List.getElem_mem _)
      rw [hxx] at hx hTK
      unfold tx at hx
      have hxs : (⟨x.toArray⟩ : ByteArray).size = x.length := by simp [ByteArray.size]
      obtain ⟨xb, hxb⟩ : ∃ z : ByteArray, (⟨x.toArray⟩ : ByteArray) = z := ⟨_, rfl⟩
      have hxd : xb.data.toList = x := by rw [← hxb]
      rw [hxb] at hx hxs
      have hxz : xb.size ≤ 300 := by omega
      have HN := Lib.hid (show (T ++ ⟨#[47]⟩ ++ xb : ByteArray).data.toList = Gt.jpath (P.take (k + 1)) by
        rw [hTK, Gt.jpath_snoc, ← HT.out, ByteArray.data_append, ByteArray.data_append, Array.toList_append, Array.toList_append, hxd]; simp)
      have hz1 : (T ++ ⟨#[47]⟩ : ByteArray).size ≤ 100001 := by rw [ByteArray.size_append]; have : (⟨#[47]⟩ : ByteArray).size = 1 := rfl; omega
      clear hxb hc1 hxx hxs hxl hxd hTK
      go_wp2_with fail
      go_roundw
      case rel => exact ⟨k + 1, _, _, hlt, by go_num, rfl, HN.out, rfl⟩
      case measure => simp [intOf]; omega
    · have HF := Lib.hid (show T = ⟨(Gt.jpath P).toArray⟩ from ba_of _ _ (by rw [HT.out, List.take_of_length_le (by rw [HN1.out]; omega)]))
      have HBe := Lib.hid (show Below w.heap.size w (W1.drewN n) from HB.out.trans ⟨rfl, rfl, rfl, Nat.le_refl _, fun _ _ => rfl⟩)
      go_wp2_with fail
      go_ret
      exact ⟨by rw [HF.out]; rfl, HBe.out⟩
def txG (G g1 o1 N c k : Nat) (sb yb ab bb ea eb : ByteArray) : Nat → World → Value → Prop
  | 0, _, v => v = .string sb
  | 1, _, v => v = .string yb
  | 2, _, v => v = .string (sb ++ yb)
  | 3, _, v => v = .pointer (some ⟨G, 1, none⟩)
  | 4, _, v => v = .slice (some ⟨g1, o1, none⟩) N c
  | 5, _, v => v = .int .i64 k
  | 6, _, v => v = .pointer (some ⟨g1, o1 + k * 2, none⟩)
  | 7, _, v => v = .pointer (some ⟨g1, o1 + k * 2, none⟩)
  | 8, _, v => v = .string ab
  | 9, _, v => v = .string ea
  | 10, _, v => v = .string (sb ++ yb ++ ea)
  | 11, _, v => v = .string (sb ++ yb ++ ea ++ (⟨#[61]⟩ : ByteArray))
  | 12, _, v => v = .pointer (some ⟨G, 1, none⟩)
  | 13, _, v => v = .slice (some ⟨g1, o1, none⟩) N c
  | 14, _, v => v = .int .i64 k
  | 15, _, v => v = .pointer (some ⟨g1, o1 + k * 2, none⟩)
  | 16, _, v => v = .pointer (some ⟨g1, o1 + k * 2 + 1, none⟩)
  | 17, _, v => v = .string bb
  | 18, _, v => v = .string eb
  | 19, _, v => v = .string (sb ++ yb ++ ea ++ (⟨#[61]⟩ : ByteArray) ++ eb)
  | _, _, _ => False
theorem txG_w {G g1 o1 N c k : Nat} {sb yb ab bb ea eb : ByteArray} {w w' : World} : ∀ (j : Nat) (v : Value), txG G g1 o1 N c k sb yb ab bb ea eb j w v → txG G g1 o1 N c k sb yb ab bb ea eb j w' v
  | 0, _, h => h
  | 1, _, h => h
  | 2, _, h => h
  | 3, _, h => h
  | 4, _, h => h
  | 5, _, h => h
  | 6, _, h => h
  | 7, _, h => h
  | 8, _, h => h
  | 9, _, h => h
  | 10, _, h => h
  | 11, _, h => h
  | 12, _, h => h
  | 13, _, h => h
  | 14, _, h => h
  | 15, _, h => h
  | 16, _, h => h
  | 17, _, h => h
  | 18, _, h => h
  | 19, _, h => h
  | n + 20, _, h => h.elim
def txT (w0 : World) (_ : Nat → Bool) (w : World) : Prop := Below w0.heap.size w0 w
theorem ref_Text (v1 v2 : Value) (P : List (List UInt8)) (Q : List (List UInt8 × List UInt8)) (w : World) (h1 : TS w v1 P) (h2 : PS w v2 Q) (hP : P.length ≤ 300) (hs : ∀ p ∈ P, p.length ≤ 300) (hQ : Q.length ≤ 300) (hqs : ∀ q ∈ Q, q.1.length ≤ 300 ∧ q.2.length ≤ 300) :
    Calls Tryz.prog 19 #[.agg #[v1, v2]] w fun e w' => e = .returned (.string ⟨(Gt.text P Q).toArray⟩) ∧ Below w.heap.size w w' := by
  obtain ⟨p1, c1, rfl⟩ := h1.slice
  obtain ⟨p2, c, rfl⟩ := h2.slice
  obtain ⟨n1, hn1⟩ : ∃ n, P.length = n := ⟨_, rfl⟩
  obtain ⟨N, hn2⟩ : ∃ n, Q.length = n := ⟨_, rfl⟩
  rw [hn1] at h1 hP ⊢
  rw [hn2] at h2 hQ ⊢
  obtain ⟨G, hG⟩ : ∃ G, w.heap.size = G := ⟨_, rfl⟩
  obtain ⟨W1, hW1⟩ : ∃ Z, w.alloc (.cells #[.slice p1 n1 c1, .slice p2 N c] 26) = Z := ⟨_, rfl⟩
  have hb1 : Below w.heap.size w W1 := by rw [← hW1]; exact (Below.refl _ _).alloc (Nat.le_refl _) _
  have hA : W1.heap[G]? = some (.cells #[.slice p1 n1 c1, .slice p2 N c] 26 (0, 0)) := by
    rw [← hW1, ← hG]; exact World.alloc_heap_new _ _
  have HZ1 := Lib.hid (show W1.heap.size = G + 1 by rw [← hW1, ← hG]; simp)
  have HAA0 := Lib.hid (show W1.cell? ⟨G, 0, none⟩ = some (.slice p1 n1 c1) by simp [World.cell?, hA])
  have HAA1 := Lib.hid (show W1.cell? ⟨G, 1, none⟩ = some (.slice p2 N c) by simp [World.cell?, hA])
  have HB := Lib.hid hb1
  have H1 := Lib.hid (h1.below hb1)
  have H2 := Lib.hid (h2.below hb1)
  have HS1 := Lib.hid hs
  have HS2 := Lib.hid hqs
  have HN1 := Lib.hid hn1
  have HN2 := Lib.hid hn2
  have HW := Lib.hid hW1
  have HG := Lib.hid hG
  clear h1 h2 hb1 hA hn1 hn2 hW1 hs hqs hG
  have HPL : Hid (∀ k, (Gt.ptext (P.take k)).length ≤ 300000) := Lib.hid (fun k => by
    have h1 := Gt.ptext_len (P.take k) (fun p hp => HS1.out p (List.mem_of_mem_take hp))
    have h2 : (P.take k).length ≤ 300 := by rw [List.length_take, HN1.out]; omega
    have h3 := Nat.mul_le_mul_right 901 h2
    omega)
  go_enter Tryz.func19, Tryz.ntmps19
  go_wp2_with fail
  rw [HW.out, HG.out]
  go_loopw [3, 4] (fun v i wr => ∃ (k : Nat) (T : ByteArray), k ≤ n1 ∧ i = .int .i64 k ∧ v = .string T ∧ T.data.toList = Gt.ptext (P.take k) ∧ Below W1.heap.size W1 wr) (fun _ i _ => n1 - (intOf i).toNat)
  case atStart => exact ⟨0, ⟨#[]⟩, Nat.zero_le _, rfl, rfl, rfl, Below.refl _ _⟩
  case round =>
    obtain ⟨k, T, hk, rfl, rfl, hT, hbr⟩ := hrel
    have HT := Lib.hid hT
    have hTs : T.size ≤ 300000 := by rw [ba_len _ _ hT]; exact HPL.out k
    have a0 : wr.cell? ⟨G, 0, none⟩ = some (.slice p1 n1 c1) := (hbr.cell (p := ⟨G, 0, none⟩) (by rw [HZ1.out]; show G < G + 1; omega)).trans HAA0.out
    have HBR := Lib.hid hbr
    clear hT hbr
    by_cases hlt : k < n1
    · obtain ⟨g1, o1, rfl, hc1⟩ := (H1.out.below HBR.out).cells (k := k) (by rw [HN1.out]; exact hlt)
      have hx := hc1 k (by rw [HN1.out]; exact hlt)
      have hTK := take_getD P [] k (by rw [HN1.out]; exact hlt)
      obtain ⟨x, hxx⟩ : ∃ x, P.getD k [] = x := ⟨_, rfl⟩
      have hxl : x.length ≤ 300 := HS1.out x (by rw [← hxx, List.getD_eq_getElem?_getD, List.getElem?_eq_getElem (by rw [HN1.out]; exact hlt)]; exact List.getElem_mem _)
      rw [hxx] at hx hTK
      unfold tx at hx
      have hxs : (⟨x.toArray⟩ : ByteArray).size = x.length := by simp [ByteArray.size]
      obtain ⟨xb, hxb⟩ : ∃ z : ByteArray, (⟨x.toArray⟩ : ByteArray) = z := ⟨_, rfl⟩
      have hxd : xb.data.toList = x := by rw [← hxb]
      rw [hxb] at hx hxs
      have KE := Lib.hid (ref_Encode xb wr (by omega))
      have hel := (Gt.enc_length x).2
      have hes : (⟨(Gt.enc xb.data.toList).toArray⟩ : ByteArray).size ≤ 900 := by rw [hxd]; simp [ByteArray.size]; omega
      have HN0 : (T ++ ⟨#[47]⟩ ++ ⟨(Gt.enc xb.data.toList).toArray⟩ : ByteArray).data.toList = Gt.ptext (P.take (k + 1)) := by
        rw [hTK, Gt.ptext_snoc, ← HT.out, ByteArray.data_append, ByteArray.data_append, Array.toList_append, Array.toList_append, hxd]; simp
      obtain ⟨eb, heb⟩ : ∃ z : ByteArray, (⟨(Gt.enc xb.data.toList).toArray⟩ : ByteArray) = z := ⟨_, rfl⟩
      rw [heb] at KE HN0 hes
      have HN := Lib.hid HN0
      have hz1 : (T ++ ⟨#[47]⟩ : ByteArray).size ≤ 300001 := by rw [ByteArray.size_append]; have : (⟨#[47]⟩ : ByteArray).size = 1 := rfl; omega
      clear hxb hc1 hxx hxs hxl hxd hTK hel heb HN0
      go_wp2_with fail
      refine KE.out.mono ?_
      rintro e w2 ⟨rfl, hb2⟩
      have HB2 := Lib.hid (HBR.out.trans (hb2.mono HBR.out.size))
      clear hb2 a0 hx
      go_wp2_with fail
      go_roundw
      case rel => exact ⟨k + 1, _, hlt, by go_num, rfl, HN.out, HB2.out⟩
      case measure => simp [intOf]; omega
    · have HPT := Lib.hid (show T.data.toList = Gt.ptext P by rw [HT.out, List.take_of_length_le (by rw [HN1.out]; omega)])
      clear HT
      go_wp2_with fail
      clear a0 hTs
      go_loopw [3, 5, 6] (fun v i _ wr => ∃ (k : Nat) (T : ByteArray), k ≤ N ∧ i = .int .i64 k ∧ v = .string T ∧ T.data.toList = Gt.ptext P ++ Gt.qtext (Q.take k) ∧ Below W1.heap.size W1 wr) (fun _ i _ _ => N - (intOf i).toNat)
      case atStart => exact ⟨0, _, Nat.zero_le _, rfl, rfl, by rw [HPT.out]; simp [Gt.qtext], HBR.out⟩
      case round =>
        clear HBR HPT hlt hk
        obtain ⟨k, sb, hk, rfl, rfl, hT, hbr⟩ := hrel
        have HT := Lib.hid hT
        have hTs : sb.size ≤ 900000 := by
          rw [ba_len _ _ hT, List.length_append]
          have h1 := Gt.qtext_len Q HS2.out k (by rw [HN2.out]; exact hk)
          have h2 := HPL.out n1
          rw [List.take_of_length_le (by rw [HN1.out]; omega)] at h2
          omega
        have a1 : wr.cell? ⟨G, 1, none⟩ = some (.slice p2 N c) := (hbr.cell (p := ⟨G, 1, none⟩) (by rw [HZ1.out]; show G < G + 1; omega)).trans HAA1.out
        have HBR := Lib.hid hbr
        clear hT hbr
        by_cases hlt : k < N
        · obtain ⟨g1, o1, rfl, hc1⟩ := (H2.out.below HBR.out).cells (k := k) (by rw [HN2.out]; exact hlt)
          obtain ⟨hx, hy⟩ := hc1 k (by rw [HN2.out]; exact hlt)
          have hTK := Gt.qtext_take Q k (by rw [HN2.out]; exact hlt)
          obtain ⟨⟨qa, qb⟩, hq⟩ : ∃ x, Q.getD k ([], []) = x := ⟨_, rfl⟩
          have hql := HS2.out (qa, qb) (by rw [← hq, List.getD_eq_getElem?_getD, List.getElem?_eq_getElem (by rw [HN2.out]; exact hlt)]; exact List.getElem_mem _)
          rw [hq] at hx hy hTK
          unfold tx at hx hy
          simp only at hx hy hql
          have has : (⟨qa.toArray⟩ : ByteArray).size = qa.length := by simp [ByteArray.size]
          have hbs : (⟨qb.toArray⟩ : ByteArray).size = qb.length := by simp [ByteArray.size]
          obtain ⟨ab, hab⟩ : ∃ z : ByteArray, (⟨qa.toArray⟩ : ByteArray) = z := ⟨_, rfl⟩
          obtain ⟨bb, hbb⟩ : ∃ z : ByteArray, (⟨qb.toArray⟩ : ByteArray) = z := ⟨_, rfl⟩
          have had : ab.data.toList = qa := by rw [← hab]
          have hbd : bb.data.toList = qb := by rw [← hbb]
          rw [hab] at hx has
          rw [hbb] at hy hbs
          have KA := Lib.hid (fun W => ref_Encode ab W (by omega))
          have KB := Lib.hid (fun W => ref_Encode bb W (by omega))
          rw [had] at KA
          rw [hbd] at KB
          have hal := (Gt.enc_length qa).2
          have hbl := (Gt.enc_length qb).2
          have heas : (⟨(Gt.enc qa).toArray⟩ : ByteArray).size ≤ 900 := by simp [ByteArray.size]; omega
          have hebs : (⟨(Gt.enc qb).toArray⟩ : ByteArray).size ≤ 900 := by simp [ByteArray.size]; omega
          have hQ0 : ∀ y : UInt8, Gt.by_ k = y → (sb ++ ⟨#[y]⟩ ++ ⟨(Gt.enc qa).toArray⟩ ++ ⟨#[61]⟩ ++ ⟨(Gt.enc qb).toArray⟩ : ByteArray).data.toList = Gt.ptext P ++ Gt.qtext (Q.take (k + 1)) := by
            intro y hy
            rw [hTK, hy, ← List.append_assoc, ← HT.out]
            simp [ByteArray.data_append, Gt.pr]
          obtain ⟨ea, hea⟩ : ∃ z : ByteArray, (⟨(Gt.enc qa).toArray⟩ : ByteArray) = z := ⟨_, rfl⟩
          obtain ⟨eb, heb⟩ : ∃ z : ByteArray, (⟨(Gt.enc qb).toArray⟩ : ByteArray) = z := ⟨_, rfl⟩
          rw [hea] at KA hQ0 heas
          rw [heb] at KB hQ0 hebs
          have z1 : ∀ y : UInt8, (sb ++ (⟨#[y]⟩ : ByteArray)).size ≤ 900001 := fun y => by rw [ByteArray.size_append]; have : (⟨#[y]⟩ : ByteArray).size = 1 := rfl; omega
          have z2 : ∀ y : UInt8, (sb ++ (⟨#[y]⟩ : ByteArray) ++ ea).size ≤ 900901 := fun y => by rw [ByteArray.size_append]; have := z1 y; omega
          have z3 : ∀ y : UInt8, (sb ++ (⟨#[y]⟩ : ByteArray) ++ ea ++ (⟨#[61]⟩ : ByteArray)).size ≤ 900902 := fun y => by rw [ByteArray.size_append]; have := z2 y; have : (⟨#[61]⟩ : ByteArray).size = 1 := rfl; omega
          have HQ0 := Lib.hid hQ0
          have HX := Lib.hid (show wr.drew.cell? ⟨g1, o1 + k * 2, none⟩ = some (.string ab) from hx)
          have HY := Lib.hid (show wr.drew.cell? ⟨g1, o1 + k * 2 + 1, none⟩ = some (.string bb) from hy)
          have HA1 := Lib.hid (show wr.drew.cell? ⟨G, 1, none⟩ = some (.slice (some ⟨g1, o1, none⟩) N c) from a1)
          have HGL := Lib.hid (show G < wr.drew.heap.size from lt_of_cell a1)
          have HGG := Lib.hid (show g1 < wr.drew.heap.size from lt_of_cell hx)
          clear hab hbb hea heb hc1 hq has hbs had hbd hal hbl hTK hQ0 hql hx hy
          by_cases hk0 : k = 0
          · have HQ := Lib.hid (HQ0.out 63 (by unfold Gt.by_; rw [if_pos hk0]))
            have z1' := z1 63
            have z2' := z2 63
            have z3' := z3 63
            have hkz : (k : Int) = 0 := by omega
            clear z1 z2 z3
            go_wp2_with fail
            clear hk0 hkz
            refine region_last2 20 (fun i => 32 + min i 19) (txG G g1 o1 N c k sb (⟨#[63]⟩ : ByteArray) ab bb ea eb) (txT wr.drew) (by kernel_rfl) (by kernel_rfl) rfl (by kernel_rfl) (fun i => by show 32 + min i 19 < _; simp; omega) (fun i j hi hj h => by have h : 32 + min i 19 = 32 + min j 19 := h; omega) ?start ?dst ?step ?last
            case dst =>
              intro i o hi ho
              match i, hi, ho with
              | 0, _, ho => cases ho; rfl
              | 1, _, ho => cases ho; rfl
              | 2, _, ho => cases ho; rfl
              | 3, _, ho => cases ho; rfl
              | 4, _, ho => cases ho; rfl
              | 5, _, ho => cases ho; rfl
              | 6, _, ho => cases ho; rfl
              | 7, _, ho => cases ho; rfl
              | 8, _, ho => cases ho; rfl
              | 9, _, ho => cases ho; rfl
              | 10, _, ho => cases ho; rfl
              | 11, _, ho => cases ho; rfl
              | 12, _, ho => cases ho; rfl
              | 13, _, ho => cases ho; rfl
              | 14, _, ho => cases ho; rfl
              | 15, _, ho => cases ho; rfl
              | 16, _, ho => cases ho; rfl
              | 17, _, ho => cases ho; rfl
              | 18, _, ho => cases ho; rfl
              | 19, _, ho => cases ho; rfl
              | n + 20, hi, _ => exact absurd hi (by omega)
            case step =>
              intro f a' W i o hib ho hfi hpre hT hrest
              match i, hib, ho with
              | 0, _, ho =>
                cases ho
                have q3 : a'.tmps.getD 3 undef = .string sb := (hrest 3 (by intro i hi; show 32 + min i 19 ≠ _; omega))
                have e3 := rg_ev q3
                exact rg_same2 (.string sb) (by unfold Oper.wp execOp; go_simp; all_goals ((try simp only [e3]); (try go_simp); (try rw [if_pos (by omega)]); (try rw [if_neg (by omega)]); first | done | rfl | exact ⟨rfl, rfl⟩ | trivial)) rfl (hT)
              | 1, _, ho =>
                cases ho
                have q6 : a'.tmps.getD 6 undef = .string (⟨#[63]⟩ : ByteArray) := (hrest 6 (by intro i hi; show 32 + min i 19 ≠ _; omega))
                have e6 := rg_ev q6
                exact rg_same2 (.string (⟨#[63]⟩ : ByteArray)) (by unfold Oper.wp execOp; go_simp; all_goals ((try simp only [e6]); (try go_simp); (try rw [if_pos (by omega)]); (try rw [if_neg (by omega)]); first | done | rfl | exact ⟨rfl, rfl⟩ | trivial)) rfl (hT)
              | 2, _, ho =>
                cases ho
                have f32 := (hpre { on := 0, ground := .data } (by simp) rfl).1
                have q32 : a'.tmps.getD 32 undef = .string sb := (hpre { on := 0, ground := .data } (by simp) rfl).2
                have f33 := (hpre { on := 1, ground := .data } (by simp) rfl).1
                have q33 : a'.tmps.getD 33 undef = .string (⟨#[63]⟩ : ByteArray) := (hpre { on := 1, ground := .data } (by simp) rfl).2
                have e32 := rg_ev q32
                have e33 := rg_ev q33
                exact rg_same2 (.string (sb ++ (⟨#[63]⟩ : ByteArray))) (by unfold Oper.wp execOp; go_simp; all_goals ((try simp only [e32, e33]); (try go_simp); (try rw [if_pos (by omega)]); (try rw [if_neg (by omega)]); first | done | rfl | exact ⟨rfl, rfl⟩ | trivial)) rfl (hT)
              | 3, _, ho =>
                cases ho
                have q1 : a'.tmps.getD 1 undef = .pointer (some ⟨G, 0, none⟩) := (hrest 1 (by intro i hi; show 32 + min i 19 ≠ _; omega))
                have e1 := rg_ev q1
                exact rg_same2 (.pointer (some ⟨G, 1, none⟩)) (by unfold Oper.wp execOp; go_simp; all_goals ((try simp only [e1]); (try go_simp); (try rw [if_pos (by omega)]); (try rw [if_neg (by omega)]); first | done | rfl | exact ⟨rfl, rfl⟩ | trivial)) rfl (hT)
              | 4, _, ho =>
                cases ho
                have f35 := (hpre { on := 3, ground := .data } (by simp) rfl).1
                have q35 : a'.tmps.getD 35 undef = .pointer (some ⟨G, 1, none⟩) := (hpre { on := 3, ground := .data } (by simp) rfl).2
                have cH : W.cell? ⟨G, 1, none⟩ = some (.slice (some ⟨g1, o1, none⟩) N c) := (hT.cell (p := ⟨G, 1, none⟩) HGL.out).trans HA1.out
                have e35 := rg_ev q35
                exact rg_same2 (.slice (some ⟨g1, o1, none⟩) N c) (by unfold Oper.wp execOp; go_simp; all_goals ((try simp only [e35]); (try go_simp); (try rw [if_pos (by omega)]); (try rw [if_neg (by omega)]); first | done | rfl | exact ⟨rfl, rfl⟩ | trivial)) rfl (hT)
              | 5, _, ho =>
                cases ho
                have q5 : a'.tmps.getD 5 undef = .int .i64 k := (hrest 5 (by intro i hi; show 32 + min i 19 ≠ _; omega))
                have e5 := rg_ev q5
                exact rg_same2 (.int .i64 k) (by unfold Oper.wp execOp; go_simp; all_goals ((try simp only [e5]); (try go_simp); (try rw [if_pos (by omega)]); (try rw [if_neg (by omega)]); first | done | rfl | exact ⟨rfl, rfl⟩ | trivial)) rfl (hT)
              | 6, _, ho =>
                cases ho
                have f36 := (hpre { on := 4, ground := .data } (by simp) rfl).1
                have q36 : a'.tmps.getD 36 undef = .slice (some ⟨g1, o1, none⟩) N c := (hpre { on := 4, ground := .data } (by simp) rfl).2
                have f37 := (hpre { on := 5, ground := .data } (by simp) rfl).1
                have q37 : a'.tmps.getD 37 undef = .int .i64 k := (hpre { on := 5, ground := .data } (by simp) rfl).2
                have e36 := rg_ev q36
                have e37 := rg_ev q37
                exact rg_same2 (.pointer (some ⟨g1, o1 + k * 2, none⟩)) (by unfold Oper.wp execOp; go_simp; all_goals ((try simp only [e36, e37]); (try go_simp); (try rw [if_pos (by omega)]); (try rw [if_neg (by omega)]); first | done | rfl | exact ⟨rfl, rfl⟩ | trivial)) rfl (hT)
              | 7, _, ho =>
                cases ho
                have f38 := (hpre { on := 6, ground := .data } (by simp) rfl).1
                have q38 : a'.tmps.getD 38 undef = .pointer (some ⟨g1, o1 + k * 2, none⟩) := (hpre { on := 6, ground := .data } (by simp) rfl).2
                have e38 := rg_ev q38
                exact rg_same2 (.pointer (some ⟨g1, o1 + k * 2, none⟩)) (by unfold Oper.wp execOp; go_simp; all_goals ((try simp only [e38]); (try go_simp); (try rw [if_pos (by omega)]); (try rw [if_neg (by omega)]); first | done | rfl | exact ⟨rfl, rfl⟩ | trivial)) rfl (hT)
              | 8, _, ho =>
                cases ho
                have f39 := (hpre { on := 7, ground := .data } (by simp) rfl).1
                have q39 : a'.tmps.getD 39 undef = .pointer (some ⟨g1, o1 + k * 2, none⟩) := (hpre { on := 7, ground := .data } (by simp) rfl).2
                have cX : W.cell? ⟨g1, o1 + k * 2, none⟩ = some (.string ab) := (hT.cell (p := ⟨g1, o1 + k * 2, none⟩) HGG.out).trans HX.out
                have e39 := rg_ev q39
                exact rg_same2 (.string ab) (by unfold Oper.wp execOp; go_simp; all_goals ((try simp only [e39]); (try go_simp); (try rw [if_pos (by omega)]); (try rw [if_neg (by omega)]); first | done | rfl | exact ⟨rfl, rfl⟩ | trivial)) rfl (hT)
              | 9, _, ho =>
                cases ho
                have f40 := (hpre { on := 8, ground := .data } (by simp) rfl).1
                have q40 : a'.tmps.getD 40 undef = .string ab := (hpre { on := 8, ground := .data } (by simp) rfl).2
                exact rg_call 40 14 _ _ _ rfl q40 (enters_of Tryz.func14 (by kernel_rfl) rfl) (KA.out W) (fun e w' h => ⟨_, h.1, _, rfl, rfl, hT.trans (h.2.mono hT.size), fun j v' _ hj => txG_w j v' hj⟩)
              | 10, _, ho =>
                cases ho
                have f34 := (hpre { on := 2, ground := .data } (by simp) rfl).1
                have q34 : a'.tmps.getD 34 undef = .string (sb ++ (⟨#[63]⟩ : ByteArray)) := (hpre { on := 2, ground := .data } (by simp) rfl).2
                have f41 := (hpre { on := 9, ground := .data } (by simp) rfl).1
                have q41 : a'.tmps.getD 41 undef = .string ea := (hpre { on := 9, ground := .data } (by simp) rfl).2
                have e34 := rg_ev q34
                have e41 := rg_ev q41
                exact rg_same2 (.string (sb ++ (⟨#[63]⟩ : ByteArray) ++ ea)) (by unfold Oper.wp execOp; go_simp; all_goals ((try simp only [e34, e41]); (try go_simp); (try rw [if_pos (by omega)]); (try rw [if_neg (by omega)]); first | done | rfl | exact ⟨rfl, rfl⟩ | trivial)) rfl (hT)
              | 11, _, ho =>
                cases ho
                have f42 := (hpre { on := 10, ground := .data } (by simp) rfl).1
                have q42 : a'.tmps.getD 42 undef = .string (sb ++ (⟨#[63]⟩ : ByteArray) ++ ea) := (hpre { on := 10, ground := .data } (by simp) rfl).2
                have e42 := rg_ev q42
                exact rg_same2 (.string (sb ++ (⟨#[63]⟩ : ByteArray) ++ ea ++ (⟨#[61]⟩ : ByteArray))) (by unfold Oper.wp execOp; go_simp; all_goals ((try simp only [e42]); (try go_simp); (try rw [if_pos (by omega)]); (try rw [if_neg (by omega)]); first | done | rfl | exact ⟨rfl, rfl⟩ | trivial)) rfl (hT)
              | 12, _, ho =>
                cases ho
                have q1 : a'.tmps.getD 1 undef = .pointer (some ⟨G, 0, none⟩) := (hrest 1 (by intro i hi; show 32 + min i 19 ≠ _; omega))
                have e1 := rg_ev q1
                exact rg_same2 (.pointer (some ⟨G, 1, none⟩)) (by unfold Oper.wp execOp; go_simp; all_goals ((try simp only [e1]); (try go_simp); (try rw [if_pos (by omega)]); (try rw [if_neg (by omega)]); first | done | rfl | exact ⟨rfl, rfl⟩ | trivial)) rfl (hT)
              | 13, _, ho =>
                cases ho
                have f44 := (hpre { on := 12, ground := .data } (by simp) rfl).1
                have q44 : a'.tmps.getD 44 undef = .pointer (some ⟨G, 1, none⟩) := (hpre { on := 12, ground := .data } (by simp) rfl).2
                have cH : W.cell? ⟨G, 1, none⟩ = some (.slice (some ⟨g1, o1, none⟩) N c) := (hT.cell (p := ⟨G, 1, none⟩) HGL.out).trans HA1.out
                have e44 := rg_ev q44
                exact rg_same2 (.slice (some ⟨g1, o1, none⟩) N c) (by unfold Oper.wp execOp; go_simp; all_goals ((try simp only [e44]); (try go_simp); (try rw [if_pos (by omega)]); (try rw [if_neg (by omega)]); first | done | rfl | exact ⟨rfl, rfl⟩ | trivial)) rfl (hT)
              | 14, _, ho =>
                cases ho
                have q5 : a'.tmps.getD 5 undef = .int .i64 k := (hrest 5 (by intro i hi; show 32 + min i 19 ≠ _; omega))
                have e5 := rg_ev q5
                exact rg_same2 (.int .i64 k) (by unfold Oper.wp execOp; go_simp; all_goals ((try simp only [e5]); (try go_simp); (try rw [if_pos (by omega)]); (try rw [if_neg (by omega)]); first | done | rfl | exact ⟨rfl, rfl⟩ | trivial)) rfl (hT)
              | 15, _, ho =>
                cases ho
                have f45 := (hpre { on := 13, ground := .data } (by simp) rfl).1
                have q45 : a'.tmps.getD 45 undef = .slice (some ⟨g1, o1, none⟩) N c := (hpre { on := 13, ground := .data } (by simp) rfl).2
                have f46 := (hpre { on := 14, ground := .data } (by simp) rfl).1
                have q46 : a'.tmps.getD 46 undef = .int .i64 k := (hpre { on := 14, ground := .data } (by simp) rfl).2
                have e45 := rg_ev q45
                have e46 := rg_ev q46
                exact rg_same2 (.pointer (some ⟨g1, o1 + k * 2, none⟩)) (by unfold Oper.wp execOp; go_simp; all_goals ((try simp only [e45, e46]); (try go_simp); (try rw [if_pos (by omega)]); (try rw [if_neg (by omega)]); first | done | rfl | exact ⟨rfl, rfl⟩ | trivial)) rfl (hT)
              | 16, _, ho =>
                cases ho
                have f47 := (hpre { on := 15, ground := .data } (by simp) rfl).1
                have q47 : a'.tmps.getD 47 undef = .pointer (some ⟨g1, o1 + k * 2, none⟩) := (hpre { on := 15, ground := .data } (by simp) rfl).2
                have e47 := rg_ev q47
                exact rg_same2 (.pointer (some ⟨g1, o1 + k * 2 + 1, none⟩)) (by unfold Oper.wp execOp; go_simp; all_goals ((try simp only [e47]); (try go_simp); (try rw [if_pos (by omega)]); (try rw [if_neg (by omega)]); first | done | rfl | exact ⟨rfl, rfl⟩ | trivial)) rfl (hT)
              | 17, _, ho =>
                cases ho
                have f48 := (hpre { on := 16, ground := .data } (by simp) rfl).1
                have q48 : a'.tmps.getD 48 undef = .pointer (some ⟨g1, o1 + k * 2 + 1, none⟩) := (hpre { on := 16, ground := .data } (by simp) rfl).2
                have cY : W.cell? ⟨g1, o1 + k * 2 + 1, none⟩ = some (.string bb) := (hT.cell (p := ⟨g1, o1 + k * 2 + 1, none⟩) HGG.out).trans HY.out
                have e48 := rg_ev q48
                exact rg_same2 (.string bb) (by unfold Oper.wp execOp; go_simp; all_goals ((try simp only [e48]); (try go_simp); (try rw [if_pos (by omega)]); (try rw [if_neg (by omega)]); first | done | rfl | exact ⟨rfl, rfl⟩ | trivial)) rfl (hT)
              | 18, _, ho =>
                cases ho
                have f49 := (hpre { on := 17, ground := .data } (by simp) rfl).1
                have q49 : a'.tmps.getD 49 undef = .string bb := (hpre { on := 17, ground := .data } (by simp) rfl).2
                exact rg_call 49 14 _ _ _ rfl q49 (enters_of Tryz.func14 (by kernel_rfl) rfl) (KB.out W) (fun e w' h => ⟨_, h.1, _, rfl, rfl, hT.trans (h.2.mono hT.size), fun j v' _ hj => txG_w j v' hj⟩)
              | 19, _, ho =>
                cases ho
                have f43 := (hpre { on := 11, ground := .data } (by simp) rfl).1
                have q43 : a'.tmps.getD 43 undef = .string (sb ++ (⟨#[63]⟩ : ByteArray) ++ ea ++ (⟨#[61]⟩ : ByteArray)) := (hpre { on := 11, ground := .data } (by simp) rfl).2
                have f50 := (hpre { on := 18, ground := .data } (by simp) rfl).1
                have q50 : a'.tmps.getD 50 undef = .string eb := (hpre { on := 18, ground := .data } (by simp) rfl).2
                have e43 := rg_ev q43
                have e50 := rg_ev q50
                exact rg_same2 (.string (sb ++ (⟨#[63]⟩ : ByteArray) ++ ea ++ (⟨#[61]⟩ : ByteArray) ++ eb)) (by unfold Oper.wp execOp; go_simp; all_goals ((try simp only [e43, e50]); (try go_simp); (try rw [if_pos (by omega)]); (try rw [if_neg (by omega)]); first | done | rfl | exact ⟨rfl, rfl⟩ | trivial)) rfl (hT)
              | n + 20, hib, _ => exact absurd hib (by omega)
            case last =>
              intro f vs W oL ho hall hT hvs
              have hopL : oL.op = Op.assign (.tmp 51) := by cases ho; rfl
              have hdsL : oL.dst = some 3 := by cases ho; rfl
              clear ho hall
              have v0 : vs 0 = .string sb := hvs 0 (by decide)
              have v1 : vs 1 = .string (⟨#[63]⟩ : ByteArray) := hvs 1 (by decide)
              have v2 : vs 2 = .string (sb ++ (⟨#[63]⟩ : ByteArray)) := hvs 2 (by decide)
              have v3 : vs 3 = .pointer (some ⟨G, 1, none⟩) := hvs 3 (by decide)
              have v4 : vs 4 = .slice (some ⟨g1, o1, none⟩) N c := hvs 4 (by decide)
              have v5 : vs 5 = .int .i64 k := hvs 5 (by decide)
              have v6 : vs 6 = .pointer (some ⟨g1, o1 + k * 2, none⟩) := hvs 6 (by decide)
              have v7 : vs 7 = .pointer (some ⟨g1, o1 + k * 2, none⟩) := hvs 7 (by decide)
              have v8 : vs 8 = .string ab := hvs 8 (by decide)
              have v9 : vs 9 = .string ea := hvs 9 (by decide)
              have v10 : vs 10 = .string (sb ++ (⟨#[63]⟩ : ByteArray) ++ ea) := hvs 10 (by decide)
              have v11 : vs 11 = .string (sb ++ (⟨#[63]⟩ : ByteArray) ++ ea ++ (⟨#[61]⟩ : ByteArray)) := hvs 11 (by decide)
              have v12 : vs 12 = .pointer (some ⟨G, 1, none⟩) := hvs 12 (by decide)
              have v13 : vs 13 = .slice (some ⟨g1, o1, none⟩) N c := hvs 13 (by decide)
              have v14 : vs 14 = .int .i64 k := hvs 14 (by decide)
              have v15 : vs 15 = .pointer (some ⟨g1, o1 + k * 2, none⟩) := hvs 15 (by decide)
              have v16 : vs 16 = .pointer (some ⟨g1, o1 + k * 2 + 1, none⟩) := hvs 16 (by decide)
              have v17 : vs 17 = .string bb := hvs 17 (by decide)
              have v18 : vs 18 = .string eb := hvs 18 (by decide)
              have v19 : vs 19 = .string (sb ++ (⟨#[63]⟩ : ByteArray) ++ ea ++ (⟨#[61]⟩ : ByteArray) ++ eb) := hvs 19 (by decide)
              simp only [fillN, List.size_toArray, List.length_cons, List.length_nil, Nat.reduceAdd, show List.range 20 = [0, 1, 2, 3, 4, 5, 6, 7, 8, 9, 10, 11, 12, 13, 14, 15, 16, 17, 18, 19] from rfl, List.foldl_cons, List.foldl_nil, show 32 + min 0 19 = 32 from rfl, show 32 + min 1 19 = 33 from rfl, show 32 + min 2 19 = 34 from rfl, show 32 + min 3 19 = 35 from rfl, show 32 + min 4 19 = 36 from rfl, show 32 + min 5 19 = 37 from rfl, show 32 + min 6 19 = 38 from rfl, show 32 + min 7 19 = 39 from rfl, show 32 + min 8 19 = 40 from rfl, show 32 + min 9 19 = 41 from rfl, show 32 + min 10 19 = 42 from rfl, show 32 + min 11 19 = 43 from rfl, show 32 + min 12 19 = 44 from rfl, show 32 + min 13 19 = 45 from rfl, show 32 + min 14 19 = 46 from rfl, show 32 + min 15 19 = 47 from rfl, show 32 + min 16 19 = 48 from rfl, show 32 + min 17 19 = 49 from rfl, show 32 + min 18 19 = 50 from rfl, show 32 + min 19 19 = 51 from rfl, v0, v1, v2, v3, v4, v5, v6, v7, v8, v9, v10, v11, v12, v13, v14, v15, v16, v17, v18, v19]
              clear v0 v1 v2 v3 v4 v5 v6 v7 v8 v9 v10 v11 v12 v13 v14 v15 v16 v17 v18 v19 hvs
              have HTT := Lib.hid hT
              clear hT
              unfold Oper.wp execOp
              simp only [hopL]
              go_simp
              clear hopL hdsL
              go_wp2_with fail
              have HBN := Lib.hid (HBR.out.trans ((below_drewN (Below.refl W1.heap.size wr) 1).trans (HTT.out.mono (by show W1.heap.size ≤ wr.heap.size; exact HBR.out.size))))
              go_roundw
              case rel => exact ⟨k + 1, _, by omega, by go_num, rfl, HQ.out, HBN.out⟩
              case measure => simp [intOf]; omega
            case start => exact Below.refl _ _
          · have HQ := Lib.hid (HQ0.out 38 (by unfold Gt.by_; rw [if_neg hk0]))
            have z1' := z1 38
            have z2' := z2 38
            have z3' := z3 38
            have hkz : ¬ (k : Int) = 0 := by omega
            clear z1 z2 z3
            go_wp2_with fail
            clear hk0 hkz
            refine region_last2 20 (fun i => 32 + min i 19) (txG G g1 o1 N c k sb (⟨#[38]⟩ : ByteArray) ab bb ea eb) (txT wr.drew) (by kernel_rfl) (by kernel_rfl) rfl (by kernel_rfl) (fun i => by show 32 + min i 19 < _; simp; omega) (fun i j hi hj h => by have h : 32 + min i 19 = 32 + min j 19 := h; omega) ?start ?dst ?step ?last
            case dst =>
              intro i o hi ho
              match i, hi, ho with
              | 0, _, ho => cases ho; rfl
              | 1, _, ho => cases ho; rfl
              | 2, _, ho => cases ho; rfl
              | 3, _, ho => cases ho; rfl
              | 4, _, ho => cases ho; rfl
              | 5, _, ho => cases ho; rfl
              | 6, _, ho => cases ho; rfl
              | 7, _, ho => cases ho; rfl
              | 8, _, ho => cases ho; rfl
              | 9, _, ho => cases ho; rfl
              | 10, _, ho => cases ho; rfl
              | 11, _, ho => cases ho; rfl
              | 12, _, ho => cases ho; rfl
              | 13, _, ho => cases ho; rfl
              | 14, _, ho => cases ho; rfl
              | 15, _, ho => cases ho; rfl
              | 16, _, ho => cases ho; rfl
              | 17, _, ho => cases ho; rfl
              | 18, _, ho => cases ho; rfl
              | 19, _, ho => cases ho; rfl
              | n + 20, hi, _ => exact absurd hi (by omega)
            case step =>
              intro f a' W i o hib ho hfi hpre hT hrest
              match i, hib, ho with
              | 0, _, ho =>
                cases ho
                have q3 : a'.tmps.getD 3 undef = .string sb := (hrest 3 (by intro i hi; show 32 + min i 19 ≠ _; omega))
                have e3 := rg_ev q3
                exact rg_same2 (.string sb) (by unfold Oper.wp execOp; go_simp; all_goals ((try simp only [e3]); (try go_simp); (try rw [if_pos (by omega)]); (try rw [if_neg (by omega)]); first | done | rfl | exact ⟨rfl, rfl⟩ | trivial)) rfl (hT)
              | 1, _, ho =>
                cases ho
                have q6 : a'.tmps.getD 6 undef = .string (⟨#[38]⟩ : ByteArray) := (hrest 6 (by intro i hi; show 32 + min i 19 ≠ _; omega))
                have e6 := rg_ev q6
                exact rg_same2 (.string (⟨#[38]⟩ : ByteArray)) (by unfold Oper.wp execOp; go_simp; all_goals ((try simp only [e6]); (try go_simp); (try rw [if_pos (by omega)]); (try rw [if_neg (by omega)]); first | done | rfl | exact ⟨rfl, rfl⟩ | trivial)) rfl (hT)
              | 2, _, ho =>
                cases ho
                have f32 := (hpre { on := 0, ground := .data } (by simp) rfl).1
                have q32 : a'.tmps.getD 32 undef = .string sb := (hpre { on := 0, ground := .data } (by simp) rfl).2
                have f33 := (hpre { on := 1, ground := .data } (by simp) rfl).1
                have q33 : a'.tmps.getD 33 undef = .string (⟨#[38]⟩ : ByteArray) := (hpre { on := 1, ground := .data } (by simp) rfl).2
                have e32 := rg_ev q32
                have e33 := rg_ev q33
                exact rg_same2 (.string (sb ++ (⟨#[38]⟩ : ByteArray))) (by unfold Oper.wp execOp; go_simp; all_goals ((try simp only [e32, e33]); (try go_simp); (try rw [if_pos (by omega)]); (try rw [if_neg (by omega)]); first | done | rfl | exact ⟨rfl, rfl⟩ | trivial)) rfl (hT)
              | 3, _, ho =>
                cases ho
                have q1 : a'.tmps.getD 1 undef = .pointer (some ⟨G, 0, none⟩) := (hrest 1 (by intro i hi; show 32 + min i 19 ≠ _; omega))
                have e1 := rg_ev q1
                exact rg_same2 (.pointer (some ⟨G, 1, none⟩)) (by unfold Oper.wp execOp; go_simp; all_goals ((try simp only [e1]); (try go_simp); (try rw [if_pos (by omega)]); (try rw [if_neg (by omega)]); first | done | rfl | exact ⟨rfl, rfl⟩ | trivial)) rfl (hT)
              | 4, _, ho =>
                cases ho
                have f35 := (hpre { on := 3, ground := .data } (by simp) rfl).1
                have q35 : a'.tmps.getD 35 undef = .pointer (some ⟨G, 1, none⟩) := (hpre { on := 3, ground := .data } (by simp) rfl).2
                have cH : W.cell? ⟨G, 1, none⟩ = some (.slice (some ⟨g1, o1, none⟩) N c) := (hT.cell (p := ⟨G, 1, none⟩) HGL.out).trans HA1.out
                have e35 := rg_ev q35
                exact rg_same2 (.slice (some ⟨g1, o1, none⟩) N c) (by unfold Oper.wp execOp; go_simp; all_goals ((try simp only [e35]); (try go_simp); (try rw [if_pos (by omega)]); (try rw [if_neg (by omega)]); first | done | rfl | exact ⟨rfl, rfl⟩ | trivial)) rfl (hT)
              | 5, _, ho =>
                cases ho
                have q5 : a'.tmps.getD 5 undef = .int .i64 k := (hrest 5 (by intro i hi; show 32 + min i 19 ≠ _; omega))
                have e5 := rg_ev q5
                exact rg_same2 (.int .i64 k) (by unfold Oper.wp execOp; go_simp; all_goals ((try simp only [e5]); (try go_simp); (try rw [if_pos (by omega)]); (try rw [if_neg (by omega)]); first | done | rfl | exact ⟨rfl, rfl⟩ | trivial)) rfl (hT)
              | 6, _, ho =>
                cases ho
                have f36 := (hpre { on := 4, ground := .data } (by simp) rfl).1
                have q36 : a'.tmps.getD 36 undef = .slice (some ⟨g1, o1, none⟩) N c := (hpre { on := 4, ground := .data } (by simp) rfl).2
                have f37 := (hpre { on := 5, ground := .data } (by simp) rfl).1
                have q37 : a'.tmps.getD 37 undef = .int .i64 k := (hpre { on := 5, ground := .data } (by simp) rfl).2
                have e36 := rg_ev q36
                have e37 := rg_ev q37
                exact rg_same2 (.pointer (some ⟨g1, o1 + k * 2, none⟩)) (by unfold Oper.wp execOp; go_simp; all_goals ((try simp only [e36, e37]); (try go_simp); (try rw [if_pos (by omega)]); (try rw [if_neg (by omega)]); first | done | rfl | exact ⟨rfl, rfl⟩ | trivial)) rfl (hT)
              | 7, _, ho =>
                cases ho
                have f38 := (hpre { on := 6, ground := .data } (by simp) rfl).1
                have q38 : a'.tmps.getD 38 undef = .pointer (some ⟨g1, o1 + k * 2, none⟩) := (hpre { on := 6, ground := .data } (by simp) rfl).2
                have e38 := rg_ev q38
                exact rg_same2 (.pointer (some ⟨g1, o1 + k * 2, none⟩)) (by unfold Oper.wp execOp; go_simp; all_goals ((try simp only [e38]); (try go_simp); (try rw [if_pos (by omega)]); (try rw [if_neg (by omega)]); first | done | rfl | exact ⟨rfl, rfl⟩ | trivial)) rfl (hT)
              | 8, _, ho =>
                cases ho
                have f39 := (hpre { on := 7, ground := .data } (by simp) rfl).1
                have q39 : a'.tmps.getD 39 undef = .pointer (some ⟨g1, o1 + k * 2, none⟩) := (hpre { on := 7, ground := .data } (by simp) rfl).2
                have cX : W.cell? ⟨g1, o1 + k * 2, none⟩ = some (.string ab) := (hT.cell (p := ⟨g1, o1 + k * 2, none⟩) HGG.out).trans HX.out
                have e39 := rg_ev q39
                exact rg_same2 (.string ab) (by unfold Oper.wp execOp; go_simp; all_goals ((try simp only [e39]); (try go_simp); (try rw [if_pos (by omega)]); (try rw [if_neg (by omega)]); first | done | rfl | exact ⟨rfl, rfl⟩ | trivial)) rfl (hT)
              | 9, _, ho =>
                cases ho
                have f40 := (hpre { on := 8, ground := .data } (by simp) rfl).1
                have q40 : a'.tmps.getD 40 undef = .string ab := (hpre { on := 8, ground := .data } (by simp) rfl).2
                exact rg_call 40 14 _ _ _ rfl q40 (enters_of Tryz.func14 (by kernel_rfl) rfl) (KA.out W) (fun e w' h => ⟨_, h.1, _, rfl, rfl, hT.trans (h.2.mono hT.size), fun j v' _ hj => txG_w j v' hj⟩)
              | 10, _, ho =>
                cases ho
                have f34 := (hpre { on := 2, ground := .data } (by simp) rfl).1
                have q34 : a'.tmps.getD 34 undef = .string (sb ++ (⟨#[38]⟩ : ByteArray)) := (hpre { on := 2, ground := .data } (by simp) rfl).2
                have f41 := (hpre { on := 9, ground := .data } (by simp) rfl).1
                have q41 : a'.tmps.getD 41 undef = .string ea := (hpre { on := 9, ground := .data } (by simp) rfl).2
                have e34 := rg_ev q34
                have e41 := rg_ev q41
                exact rg_same2 (.string (sb ++ (⟨#[38]⟩ : ByteArray) ++ ea)) (by unfold Oper.wp execOp; go_simp; all_goals ((try simp only [e34, e41]); (try go_simp); (try rw [if_pos (by omega)]); (try rw [if_neg (by omega)]); first | done | rfl | exact ⟨rfl, rfl⟩ | trivial)) rfl (hT)
              | 11, _, ho =>
                cases ho
                have f42 := (hpre { on := 10, ground := .data } (by simp) rfl).1
                have q42 : a'.tmps.getD 42 undef = .string (sb ++ (⟨#[38]⟩ : ByteArray) ++ ea) := (hpre { on := 10, ground := .data } (by simp) rfl).2
                have e42 := rg_ev q42
                exact rg_same2 (.string (sb ++ (⟨#[38]⟩ : ByteArray) ++ ea ++ (⟨#[61]⟩ : ByteArray))) (by unfold Oper.wp execOp; go_simp; all_goals ((try simp only [e42]); (try go_simp); (try rw [if_pos (by omega)]); (try rw [if_neg (by omega)]); first | done | rfl | exact ⟨rfl, rfl⟩ | trivial)) rfl (hT)
              | 12, _, ho =>
                cases ho
                have q1 : a'.tmps.getD 1 undef = .pointer (some ⟨G, 0, none⟩) := (hrest 1 (by intro i hi; show 32 + min i 19 ≠ _; omega))
                have e1 := rg_ev q1
                exact rg_same2 (.pointer (some ⟨G, 1, none⟩)) (by unfold Oper.wp execOp; go_simp; all_goals ((try simp only [e1]); (try go_simp); (try rw [if_pos (by omega)]); (try rw [if_neg (by omega)]); first | done | rfl | exact ⟨rfl, rfl⟩ | trivial)) rfl (hT)
              | 13, _, ho =>
                cases ho
                have f44 := (hpre { on := 12, ground := .data } (by simp) rfl).1
                have q44 : a'.tmps.getD 44 undef = .pointer (some ⟨G, 1, none⟩) := (hpre { on := 12, ground := .data } (by simp) rfl).2
                have cH : W.cell? ⟨G, 1, none⟩ = some (.slice (some ⟨g1, o1, none⟩) N c) := (hT.cell (p := ⟨G, 1, none⟩) HGL.out).trans HA1.out
                have e44 := rg_ev q44
                exact rg_same2 (.slice (some ⟨g1, o1, none⟩) N c) (by unfold Oper.wp execOp; go_simp; all_goals ((try simp only [e44]); (try go_simp); (try rw [if_pos (by omega)]); (try rw [if_neg (by omega)]); first | done | rfl | exact ⟨rfl, rfl⟩ | trivial)) rfl (hT)
              | 14, _, ho =>
                cases ho
                have q5 : a'.tmps.getD 5 undef = .int .i64 k := (hrest 5 (by intro i hi; show 32 + min i 19 ≠ _; omega))
                have e5 := rg_ev q5
                exact rg_same2 (.int .i64 k) (by unfold Oper.wp execOp; go_simp; all_goals ((try simp only [e5]); (try go_simp); (try rw [if_pos (by omega)]); (try rw [if_neg (by omega)]); first | done | rfl | exact ⟨rfl, rfl⟩ | trivial)) rfl (hT)
              | 15, _, ho =>
                cases ho
                have f45 := (hpre { on := 13, ground := .data } (by simp) rfl).1
                have q45 : a'.tmps.getD 45 undef = .slice (some ⟨g1, o1, none⟩) N c := (hpre { on := 13, ground := .data } (by simp) rfl).2
                have f46 := (hpre { on := 14, ground := .data } (by simp) rfl).1
                have q46 : a'.tmps.getD 46 undef = .int .i64 k := (hpre { on := 14, ground := .data } (by simp) rfl).2
                have e45 := rg_ev q45
                have e46 := rg_ev q46
                exact rg_same2 (.pointer (some ⟨g1, o1 + k * 2, none⟩)) (by unfold Oper.wp execOp; go_simp; all_goals ((try simp only [e45, e46]); (try go_simp); (try rw [if_pos (by omega)]); (try rw [if_neg (by omega)]); first | done | rfl | exact ⟨rfl, rfl⟩ | trivial)) rfl (hT)
              | 16, _, ho =>
                cases ho
                have f47 := (hpre { on := 15, ground := .data } (by simp) rfl).1
                have q47 : a'.tmps.getD 47 undef = .pointer (some ⟨g1, o1 + k * 2, none⟩) := (hpre { on := 15, ground := .data } (by simp) rfl).2
                have e47 := rg_ev q47
                exact rg_same2 (.pointer (some ⟨g1, o1 + k * 2 + 1, none⟩)) (by unfold Oper.wp execOp; go_simp; all_goals ((try simp only [e47]); (try go_simp); (try rw [if_pos (by omega)]); (try rw [if_neg (by omega)]); first | done | rfl | exact ⟨rfl, rfl⟩ | trivial)) rfl (hT)
              | 17, _, ho =>
                cases ho
                have f48 := (hpre { on := 16, ground := .data } (by simp) rfl).1
                have q48 : a'.tmps.getD 48 undef = .pointer (some ⟨g1, o1 + k * 2 + 1, none⟩) := (hpre { on := 16, ground := .data } (by simp) rfl).2
                have cY : W.cell? ⟨g1, o1 + k * 2 + 1, none⟩ = some (.string bb) := (hT.cell (p := ⟨g1, o1 + k * 2 + 1, none⟩) HGG.out).trans HY.out
                have e48 := rg_ev q48
                exact rg_same2 (.string bb) (by unfold Oper.wp execOp; go_simp; all_goals ((try simp only [e48]); (try go_simp); (try rw [if_pos (by omega)]); (try rw [if_neg (by omega)]); first | done | rfl | exact ⟨rfl, rfl⟩ | trivial)) rfl (hT)
              | 18, _, ho =>
                cases ho
                have f49 := (hpre { on := 17, ground := .data } (by simp) rfl).1
                have q49 : a'.tmps.getD 49 undef = .string bb := (hpre { on := 17, ground := .data } (by simp) rfl).2
                exact rg_call 49 14 _ _ _ rfl q49 (enters_of Tryz.func14 (by kernel_rfl) rfl) (KB.out W) (fun e w' h => ⟨_, h.1, _, rfl, rfl, hT.trans (h.2.mono hT.size), fun j v' _ hj => txG_w j v' hj⟩)
              | 19, _, ho =>
                cases ho
                have f43 := (hpre { on := 11, ground := .data } (by simp) rfl).1
                have q43 : a'.tmps.getD 43 undef = .string (sb ++ (⟨#[38]⟩ : ByteArray) ++ ea ++ (⟨#[61]⟩ : ByteArray)) := (hpre { on := 11, ground := .data } (by simp) rfl).2
                have f50 := (hpre { on := 18, ground := .data } (by simp) rfl).1
                have q50 : a'.tmps.getD 50 undef = .string eb := (hpre { on := 18, ground := .data } (by simp) rfl).2
                have e43 := rg_ev q43
                have e50 := rg_ev q50
                exact rg_same2 (.string (sb ++ (⟨#[38]⟩ : ByteArray) ++ ea ++ (⟨#[61]⟩ : ByteArray) ++ eb)) (by unfold Oper.wp execOp; go_simp; all_goals ((try simp only [e43, e50]); (try go_simp); (try rw [if_pos (by omega)]); (try rw [if_neg (by omega)]); first | done | rfl | exact ⟨rfl, rfl⟩ | trivial)) rfl (hT)
              | n + 20, hib, _ => exact absurd hib (by omega)
            case last =>
              intro f vs W oL ho hall hT hvs
              have hopL : oL.op = Op.assign (.tmp 51) := by cases ho; rfl
              have hdsL : oL.dst = some 3 := by cases ho; rfl
              clear ho hall
              have v0 : vs 0 = .string sb := hvs 0 (by decide)
              have v1 : vs 1 = .string (⟨#[38]⟩ : ByteArray) := hvs 1 (by decide)
              have v2 : vs 2 = .string (sb ++ (⟨#[38]⟩ : ByteArray)) := hvs 2 (by decide)
              have v3 : vs 3 = .pointer (some ⟨G, 1, none⟩) := hvs 3 (by decide)
              have v4 : vs 4 = .slice (some ⟨g1, o1, none⟩) N c := hvs 4 (by decide)
              have v5 : vs 5 = .int .i64 k := hvs 5 (by decide)
              have v6 : vs 6 = .pointer (some ⟨g1, o1 + k * 2, none⟩) := hvs 6 (by decide)
              have v7 : vs 7 = .pointer (some ⟨g1, o1 + k * 2, none⟩) := hvs 7 (by decide)
              have v8 : vs 8 = .string ab := hvs 8 (by decide)
              have v9 : vs 9 = .string ea := hvs 9 (by decide)
              have v10 : vs 10 = .string (sb ++ (⟨#[38]⟩ : ByteArray) ++ ea) := hvs 10 (by decide)
              have v11 : vs 11 = .string (sb ++ (⟨#[38]⟩ : ByteArray) ++ ea ++ (⟨#[61]⟩ : ByteArray)) := hvs 11 (by decide)
              have v12 : vs 12 = .pointer (some ⟨G, 1, none⟩) := hvs 12 (by decide)
              have v13 : vs 13 = .slice (some ⟨g1, o1, none⟩) N c := hvs 13 (by decide)
              have v14 : vs 14 = .int .i64 k := hvs 14 (by decide)
              have v15 : vs 15 = .pointer (some ⟨g1, o1 + k * 2, none⟩) := hvs 15 (by decide)
              have v16 : vs 16 = .pointer (some ⟨g1, o1 + k * 2 + 1, none⟩) := hvs 16 (by decide)
              have v17 : vs 17 = .string bb := hvs 17 (by decide)
              have v18 : vs 18 = .string eb := hvs 18 (by decide)
              have v19 : vs 19 = .string (sb ++ (⟨#[38]⟩ : ByteArray) ++ ea ++ (⟨#[61]⟩ : ByteArray) ++ eb) := hvs 19 (by decide)
              simp only [fillN, List.size_toArray, List.length_cons, List.length_nil, Nat.reduceAdd, show List.range 20 = [0, 1, 2, 3, 4, 5, 6, 7, 8, 9, 10, 11, 12, 13, 14, 15, 16, 17, 18, 19] from rfl, List.foldl_cons, List.foldl_nil, show 32 + min 0 19 = 32 from rfl, show 32 + min 1 19 = 33 from rfl, show 32 + min 2 19 = 34 from rfl, show 32 + min 3 19 = 35 from rfl, show 32 + min 4 19 = 36 from rfl, show 32 + min 5 19 = 37 from rfl, show 32 + min 6 19 = 38 from rfl, show 32 + min 7 19 = 39 from rfl, show 32 + min 8 19 = 40 from rfl, show 32 + min 9 19 = 41 from rfl, show 32 + min 10 19 = 42 from rfl, show 32 + min 11 19 = 43 from rfl, show 32 + min 12 19 = 44 from rfl, show 32 + min 13 19 = 45 from rfl, show 32 + min 14 19 = 46 from rfl, show 32 + min 15 19 = 47 from rfl, show 32 + min 16 19 = 48 from rfl, show 32 + min 17 19 = 49 from rfl, show 32 + min 18 19 = 50 from rfl, show 32 + min 19 19 = 51 from rfl, v0, v1, v2, v3, v4, v5, v6, v7, v8, v9, v10, v11, v12, v13, v14, v15, v16, v17, v18, v19]
              clear v0 v1 v2 v3 v4 v5 v6 v7 v8 v9 v10 v11 v12 v13 v14 v15 v16 v17 v18 v19 hvs
              have HTT := Lib.hid hT
              clear hT
              unfold Oper.wp execOp
              simp only [hopL]
              go_simp
              clear hopL hdsL
              go_wp2_with fail
              have HBN := Lib.hid (HBR.out.trans ((below_drewN (Below.refl W1.heap.size wr) 1).trans (HTT.out.mono (by show W1.heap.size ≤ wr.heap.size; exact HBR.out.size))))
              go_roundw
              case rel => exact ⟨k + 1, _, by omega, by go_num, rfl, HQ.out, HBN.out⟩
              case measure => simp [intOf]; omega
            case start => exact Below.refl _ _
        · have HF := Lib.hid (show sb = ⟨(Gt.text P Q).toArray⟩ from ba_of _ _ (by rw [HT.out, List.take_of_length_le (by rw [HN2.out]; omega)]; rfl))
          have HBe := Lib.hid (HB.out.trans (HBR.out.mono HB.out.size))
          go_wp2_with fail
          go_ret
          exact ⟨by rw [HF.out]; rfl, HBe.out⟩
end Go.Proofs.YtcfhenekoaegaaaGreatDoor

/- The law's num and works. -/
namespace Go.Proofs.YtcfhenekoaegaaaGreatDoor
set_option linter.unusedVariables false
set_option linter.unusedSimpArgs false
open Go.RowKit Go.Shelf
set_option maxHeartbeats 8000000
set_option maxRecDepth 100000
theorem law_num (n : Int) (w : World) (h : -9223372036854775808 ≤ n ∧ n ≤ 9223372036854775807) :
    Calls Tryz.prog 10 #[.int .i64 n] w fun e w' => e = .returned (.int .i64 n) ∧ w' = w := by
  go_enter Tryz.func10, Tryz.ntmps10
  go_wp2
  go_ret
  exact ⟨rfl, rfl⟩
theorem ts_lit {W : World} {b c : Nat} {t : TypeId} (L : List (List UInt8)) (h : W.heap[b]? = some (.cells (L.map tx).toArray t (0, 0))) : TS W (.slice (some ⟨b, 0, none⟩) L.length c) L := by
  refine .inr ⟨b, 0, c, rfl, fun j hj => ?_⟩
  rw [Nat.zero_add]
  simp [World.cell?, h, List.getElem?_eq_getElem hj, List.getD_eq_getElem?_getD]
theorem ps_lit {W : World} {b c : Nat} {t : TypeId} (L : List (List UInt8 × List UInt8)) (h : W.heap[b]? = some (.cells (prs L).toArray t (0, 0))) : PS W (.slice (some ⟨b, 0, none⟩) L.length c) L := by
  refine .inr ⟨b, 0, c, rfl, fun j hj => ?_⟩
  have hp := prs_get L j hj
  rw [Nat.zero_add]
  refine ⟨?_, ?_⟩
  · simp [World.cell?, h, hp.1]
  · simp [World.cell?, h, hp.2]
theorem parse1 : Gt.parse [47, 97, 47, 98, 37, 50, 48, 99, 63, 120, 61, 49, 38, 121, 38, 38, 122, 61, 97, 43, 98] = some ([[97], [98, 32, 99]], [([120], [49]), ([121], []), ([122], [97, 32, 98])]) := by decide +kernel
theorem parse2 : Gt.parse [47] = some ([[]], []) := by decide +kernel
def badT : List (List UInt8) := [[97], [47, 46, 46], [47, 37, 50, 101, 37, 50, 101], [47, 97, 37, 50], [47, 35]]
theorem parse_badT : ∀ l ∈ badT, Gt.parse l = none := by decide +kernel
theorem txt1 : txtOut [[97, 47, 98]] [] = .tuple #[.string ⟨#[]⟩, .int .i64 2] := by
  unfold txtOut
  rw [show Gt.right [[97, 47, 98]] = false by decide +kernel]; rfl
theorem txt2 : txtOut [[98, 32, 99]] [([195, 169], [49])] = .tuple #[.string ⟨#[47, 98, 37, 50, 48, 99, 63, 37, 67, 51, 37, 65, 57, 61, 49]⟩, .int .i64 0] := by
  unfold txtOut
  rw [show Gt.right [[98, 32, 99]] = true by decide +kernel, show Gt.text [[98, 32, 99]] [([195, 169], [49])] = [47, 98, 37, 50, 48, 99, 63, 37, 67, 51, 37, 65, 57, 61, 49] by decide +kernel]; rfl
end Go.Proofs.YtcfhenekoaegaaaGreatDoor

/- The law's works. -/
namespace Go.Proofs.YtcfhenekoaegaaaGreatDoor
set_option linter.unusedVariables false
set_option linter.unusedSimpArgs false
open Go.RowKit Go.Shelf
set_option maxHeartbeats 8000000
set_option maxRecDepth 100000
/-- what the calls lean on -/
structure KX (w : World) : Prop where
  mx : Mx w
  pos : 0 < w.heap.size
  tabs : Tabs w
theorem KX.below {w w' : World} (h : KX w) (hb : Below w.heap.size w w') : KX w' := ⟨h.mx.below hb h.pos, Nat.lt_of_lt_of_le h.pos hb.size, h.tabs.below hb⟩
theorem StrRow.slice {w : World} {v : Value} {L : List (List UInt8)} (h : StrRow w v L) : ∃ p c, v = .slice p L.length c := by
  obtain ⟨p, c, rfl, _⟩ := h
  exact ⟨p, c, rfl⟩
theorem parse_yes (s : ByteArray) (P : List (List UInt8)) (Q : List (List UInt8 × List UInt8)) (w : World) (hs : s.size ≤ 90000) (h : KX w) (hp : Gt.parse s.data.toList = some (P, Q)) :
    Calls Tryz.prog 7 #[.string s] w fun e w' => ∃ p c q d, e = .returned (.tuple #[.agg #[.slice p P.length c, .slice q Q.length d], .int .i64 0]) ∧ TS w' (.slice p P.length c) P ∧ PS w' (.slice q Q.length d) Q ∧ Below w.heap.size w w' := by
  refine (tg_Parse s w hs h.mx h.pos).mono ?_
  rw [hp]
  rintro e w' ⟨⟨vp, vq, rfl, h1, h2⟩, hb⟩
  have h3 := PS.of h2
  obtain ⟨p, c, rfl⟩ := h1.slice
  obtain ⟨q, d, rfl⟩ := h3.slice
  exact ⟨p, c, q, d, rfl, TS.of h1, h3, hb⟩
theorem parse_no (s : ByteArray) (w : World) (hs : s.size ≤ 90000) (h : KX w) (hp : Gt.parse s.data.toList = none) :
    Calls Tryz.prog 7 #[.string s] w fun e w' => e = .returned (.tuple #[.agg #[.slice none 0 0, .slice none 0 0], .int .i64 210]) ∧ Below w.heap.size w w' := by
  refine (tg_Parse s w hs h.mx h.pos).mono ?_
  rw [hp]
  rintro e w' ⟨rfl, hb⟩
  exact ⟨rfl, hb⟩
theorem law_works (w : World) (h : KX w) :
    Calls Tryz.prog 6 #[] w fun e w' => e = .returned (.bool true) ∧ Below w.heap.size w w' := by
  have HK := Lib.hid h
  have HN := Lib.hid law_num
  clear h
  go_enter Tryz.func6, Tryz.ntmps6
  go_wp2_with fail
  refine (parse_yes _ _ _ w (by decide) HK.out parse1).mono ?_
  rintro e w1 ⟨p1, c1, q1, d1, rfl, ht1, hq1, hb1⟩
  simp only [List.length_cons, List.length_nil, Nat.reduceAdd] at ht1 hq1 ⊢
  obtain ⟨W2, hW2⟩ : ∃ Z, (w1.alloc (.cells #[.slice p1 2 c1, .slice q1 3 d1] 26)).alloc (.cells (badT.map tx).toArray 9) = Z := ⟨_, rfl⟩
  have hbb : (badT.map tx).toArray = #[.string ⟨#[97]⟩, .string ⟨#[47, 46, 46]⟩, .string ⟨#[47, 37, 50, 101, 37, 50, 101]⟩, .string ⟨#[47, 97, 37, 50]⟩, .string ⟨#[47, 35]⟩] := rfl
  rw [hbb] at hW2
  obtain ⟨G, hG⟩ : ∃ z, w1.heap.size = z := ⟨_, rfl⟩
  have HKX1 := Lib.hid (HK.out.below hb1)
  have HB2 := Lib.hid (show Below w1.heap.size w1 W2 by rw [← hW2]; exact ((Below.refl _ _).alloc (Nat.le_refl _) _).alloc (by simp) _)
  have HG2 := Lib.hid (show W2.heap[G]? = some (.cells #[.slice p1 2 c1, .slice q1 3 d1] 26 (0, 0)) by
    rw [← hW2, ← hG, Below.heap_alloc _ _ _ (by simp)]; exact World.alloc_heap_new _ _)
  have HL2 := Lib.hid (show W2.heap[G + 1]? = some (.cells (badT.map tx).toArray 9 (0, 0)) by
    rw [hbb, ← hW2, ← hG]
    have := World.alloc_heap_new (w1.alloc (.cells #[.slice p1 2 c1, .slice q1 3 d1] 26)) (.cells #[.string ⟨#[97]⟩, .string ⟨#[47, 46, 46]⟩, .string ⟨#[47, 37, 50, 101, 37, 50, 101]⟩, .string ⟨#[47, 97, 37, 50]⟩, .string ⟨#[47, 35]⟩] 9)
    simpa using this)
  have HBW := Lib.hid (show Below w.heap.size w W2 from hb1.trans (HB2.out.mono hb1.size))
  have HZ2 := Lib.hid (show W2.heap.size = G + 2 by rw [← hW2, ← hG]; simp)
  have HT1 := Lib.hid (ht1.below HB2.out)
  have HQ1 := Lib.hid (hq1.below HB2.out)
  have HKX2 := Lib.hid (HKX1.out.below HB2.out)
  clear hb1 ht1 hq1 hbb
  go_wp2_with fail
  clear hW2 hG
  go_loopw [4] (fun i wr => ∃ k : Nat, k ≤ 5 ∧ i = .int .i64 k ∧ Below W2.heap.size W2 wr) (fun i _ => 5 - (intOf i).toNat)
  case atStart => exact ⟨0, Nat.zero_le _, rfl, Below.refl _ _⟩
  case round =>
    obtain ⟨k, hk, rfl, hb⟩ := hrel
    have HB := Lib.hid hb
    have HKX := Lib.hid (HKX2.out.below hb)
    clear hb
    by_cases hlt : k < 5
    · have hcell : wr.cell? ⟨G + 1, k, none⟩ = some (tx (badT.getD k [])) := by
        have h1 := (HB.out.block (G + 1) (by rw [HZ2.out]; omega)).trans HL2.out
        have h2 : k < badT.length := hlt
        simp [World.cell?, h1, List.getElem?_eq_getElem h2, List.getD_eq_getElem?_getD]
      have hmem : badT.getD k [] ∈ badT := by
        rw [List.getD_eq_getElem?_getD, List.getElem?_eq_getElem (show k < badT.length from hlt)]
        exact List.getElem_mem _
      have hlen : ∀ l ∈ badT, l.length ≤ 90000 := by decide
      have HPN := Lib.hid (parse_badT _ hmem)
      have HLL := Lib.hid (hlen _ hmem)
      obtain ⟨l, hl⟩ : ∃ l, badT.getD k [] = l := ⟨_, rfl⟩
      rw [hl] at hcell HPN HLL
      obtain ⟨lb, hlb⟩ : ∃ z : ByteArray, (⟨l.toArray⟩ : ByteArray) = z := ⟨_, rfl⟩
      unfold tx at hcell
      rw [hlb] at hcell
      have KN := Lib.hid (parse_no lb wr (by rw [← hlb]; exact HLL.out) HKX.out (by rw [← hlb]; exact HPN.out))
      clear hmem hlen hl hlb
      go_wp2_with fail
      refine KN.out.mono ?_
      rintro e w3 ⟨rfl, hb3⟩
      have HB3 := Lib.hid (HB.out.trans (hb3.mono HB.out.size))
      clear hb3 KN
      go_wp2_with fail
      refine (HN.out 210 _ (by omega)).mono ?_
      rintro e w4 ⟨rfl, hw4⟩
      subst w4
      go_wp2_with fail
      go_roundw
      case rel => exact ⟨k + 1, hlt, by go_num, HB3.out.alloc HB3.out.size _⟩
      case measure => simp [intOf]; omega
    · go_wp2_with fail
      refine (parse_yes _ _ _ wr (by decide) HKX.out parse2).mono ?_
      rintro e w3 ⟨p3, c3, q3, d3, rfl, ht3, hq3, hb3⟩
      simp only [List.length_cons, List.length_nil, Nat.reduceAdd] at ht3 hq3 ⊢
      obtain ⟨V, hV⟩ : ∃ z, w3.heap.size = z := ⟨_, rfl⟩
      obtain ⟨W4, hW4⟩ : ∃ Z, (w3.alloc (.cells #[.slice p3 1 c3, .slice q3 0 d3] 26)).alloc (.cells #[.string ⟨#[97, 47, 98]⟩] 9) = Z := ⟨_, rfl⟩
      have HB3 := Lib.hid (HB.out.trans (hb3.mono HB.out.size))
      have HB4 := Lib.hid (show Below w3.heap.size w3 W4 by rw [← hW4]; exact ((Below.refl _ _).alloc (Nat.le_refl _) _).alloc (by simp) _)
      have HV4 := Lib.hid (show W4.heap[V]? = some (.cells #[.slice p3 1 c3, .slice q3 0 d3] 26 (0, 0)) by
        rw [← hW4, ← hV, Below.heap_alloc _ _ _ (by simp)]; exact World.alloc_heap_new _ _)
      have HS4 := Lib.hid (show W4.heap[V + 1]? = some (.cells #[.string ⟨#[97, 47, 98]⟩] 9 (0, 0)) by
        rw [← hW4, ← hV]
        have := World.alloc_heap_new (w3.alloc (.cells #[.slice p3 1 c3, .slice q3 0 d3] 26)) (.cells #[.string ⟨#[97, 47, 98]⟩] 9)
        simpa using this)
      have HZ4 := Lib.hid (show W4.heap.size = V + 2 by rw [← hW4, ← hV]; simp)
      have HBW4 := Lib.hid (show Below W2.heap.size W2 W4 from HB3.out.trans (HB4.out.mono HB3.out.size))
      have HKX4 := Lib.hid (HKX2.out.below HBW4.out)
      have HT3 := Lib.hid (ht3.below HB4.out)
      have HQ3 := Lib.hid (hq3.below HB4.out)
      clear ht3 hq3 hb3
      have KT1 := Lib.hid (tg_Text (.slice (some ⟨V + 1, 0, none⟩) 1 1) (.slice none 0 0) [[97, 47, 98]] [] W4 (ts_lit [[97, 47, 98]] HS4.out) (.inl ⟨rfl, rfl⟩) (by decide) (by decide) (by decide) (by decide) HKX4.out.tabs)
      rw [txt1] at KT1
      go_wp2_with fail
      clear hW4 hV
      refine KT1.out.mono ?_
      rintro e w5 ⟨rfl, hb5⟩
      obtain ⟨V5, hV5⟩ : ∃ z, w5.heap.size = z := ⟨_, rfl⟩
      obtain ⟨W6, hW6⟩ : ∃ Z, (w5.alloc (.cells #[.string ⟨#[98, 32, 99]⟩] 9)).alloc (.cells #[.string ⟨#[195, 169]⟩, .string ⟨#[49]⟩] 47) = Z := ⟨_, rfl⟩
      have HB5 := Lib.hid hb5
      have HB6 := Lib.hid (show Below w5.heap.size w5 W6 by rw [← hW6]; exact ((Below.refl _ _).alloc (Nat.le_refl _) _).alloc (by simp) _)
      have HS6 := Lib.hid (show W6.heap[V5]? = some (.cells #[.string ⟨#[98, 32, 99]⟩] 9 (0, 0)) by
        rw [← hW6, ← hV5, Below.heap_alloc _ _ _ (by simp)]; exact World.alloc_heap_new _ _)
      have HP6 := Lib.hid (show W6.heap[V5 + 1]? = some (.cells #[.string ⟨#[195, 169]⟩, .string ⟨#[49]⟩] 47 (0, 0)) by
        rw [← hW6, ← hV5]
        have := World.alloc_heap_new (w5.alloc (.cells #[.string ⟨#[98, 32, 99]⟩] 9)) (.cells #[.string ⟨#[195, 169]⟩, .string ⟨#[49]⟩] 47)
        simpa using this)
      have HB46 := Lib.hid (show Below W4.heap.size W4 W6 from hb5.trans (HB6.out.mono hb5.size))
      have HKX6 := Lib.hid (HKX4.out.below HB46.out)
      have KT2 := Lib.hid (tg_Text (.slice (some ⟨V5, 0, none⟩) 1 1) (.slice (some ⟨V5 + 1, 0, none⟩) 1 1) [[98, 32, 99]] [([195, 169], [49])] W6 (ts_lit [[98, 32, 99]] HS6.out) (ps_lit [([195, 169], [49])] HP6.out) (by decide) (by decide) (by decide) (by decide) HKX6.out.tabs)
      rw [txt2] at KT2
      clear hb5 KT1
      go_wp2_with fail
      clear hW6 hV5
      refine KT2.out.mono ?_
      rintro e w7 ⟨rfl, hb7⟩
      have HB7 := Lib.hid (show Below W4.heap.size W4 w7 from HB46.out.trans (hb7.mono HB46.out.size))
      have HB27 := Lib.hid (show Below W2.heap.size W2 w7 from HBW4.out.trans (HB7.out.mono HBW4.out.size))
      have hG7 := (HB27.out.block G (by rw [HZ2.out]; omega)).trans HG2.out
      have g0 : w7.cell? ⟨G, 0, none⟩ = some (.slice p1 2 c1) := by simp [World.cell?, hG7]
      have g1 : w7.cell? ⟨G, 1, none⟩ = some (.slice q1 3 d1) := by simp [World.cell?, hG7]
      have HT7 := Lib.hid (HT1.out.below HB27.out)
      have HQ7 := Lib.hid (HQ1.out.below HB27.out)
      clear hb7 hG7 KT2
      go_wp2_with fail
      refine (HN.out 0 _ (by omega)).mono ?_
      rintro e w8 ⟨rfl, hw8⟩
      subst w8
      go_wp2_with fail
      refine (HN.out 0 _ (by omega)).mono ?_
      rintro e w8 ⟨rfl, hw8⟩
      subst w8
      go_wp2_with fail
      refine (HN.out 0 _ (by omega)).mono ?_
      rintro e w8 ⟨rfl, hw8⟩
      subst w8
      obtain ⟨V7, hV7⟩ : ∃ z, w7.heap.size = z := ⟨_, rfl⟩
      obtain ⟨W8, hW8⟩ : ∃ Z, (w7.alloc (.cells #[.string ⟨#[97]⟩, .string ⟨#[98, 32, 99]⟩] 9)).alloc (.cells #[.string ⟨#[120]⟩, .string ⟨#[49]⟩, .string ⟨#[121]⟩, .string ⟨#[]⟩, .string ⟨#[122]⟩, .string ⟨#[97, 32, 98]⟩] 47) = Z := ⟨_, rfl⟩
      have HB8 := Lib.hid (show Below w7.heap.size w7 W8 by rw [← hW8]; exact ((Below.refl _ _).alloc (Nat.le_refl _) _).alloc (by simp) _)
      have HS8 := Lib.hid (show W8.heap[V7]? = some (.cells #[.string ⟨#[97]⟩, .string ⟨#[98, 32, 99]⟩] 9 (0, 0)) by
        rw [← hW8, ← hV7, Below.heap_alloc _ _ _ (by simp)]; exact World.alloc_heap_new _ _)
      have HP8 := Lib.hid (show W8.heap[V7 + 1]? = some (.cells #[.string ⟨#[120]⟩, .string ⟨#[49]⟩, .string ⟨#[121]⟩, .string ⟨#[]⟩, .string ⟨#[122]⟩, .string ⟨#[97, 32, 98]⟩] 47 (0, 0)) by
        rw [← hW8, ← hV7]
        have := World.alloc_heap_new (w7.alloc (.cells #[.string ⟨#[97]⟩, .string ⟨#[98, 32, 99]⟩] 9)) (.cells #[.string ⟨#[120]⟩, .string ⟨#[49]⟩, .string ⟨#[121]⟩, .string ⟨#[]⟩, .string ⟨#[122]⟩, .string ⟨#[97, 32, 98]⟩] 47)
        simpa using this)
      have KS1 := Lib.hid (ref_Same (.slice p1 2 c1) (.slice q1 3 d1) (.slice (some ⟨V7, 0, none⟩) 2 2) (.slice (some ⟨V7 + 1, 0, none⟩) 3 3) [[97], [98, 32, 99]] [[97], [98, 32, 99]] [([120], [49]), ([121], []), ([122], [97, 32, 98])] [([120], [49]), ([121], []), ([122], [97, 32, 98])] W8
        (HT7.out.below HB8.out) (HQ7.out.below HB8.out) (ts_lit [[97], [98, 32, 99]] HS8.out) (ps_lit [([120], [49]), ([121], []), ([122], [97, 32, 98])] HP8.out) (by decide) (by decide) (by decide) (by decide))
      rw [decide_eq_true (show ([[97], [98, 32, 99]] : List (List UInt8)) = [[97], [98, 32, 99]] ∧ ([([120], [49]), ([121], []), ([122], [97, 32, 98])] : List (List UInt8 × List UInt8)) = [([120], [49]), ([121], []), ([122], [97, 32, 98])] from ⟨rfl, rfl⟩)] at KS1
      go_wp2_with fail
      clear hW8 hV7
      refine KS1.out.mono ?_
      rintro e w9 ⟨rfl, hb9⟩
      have HB9 := Lib.hid (show Below W4.heap.size W4 w9 from HB7.out.trans ((HB8.out.trans (hb9.mono HB8.out.size)).mono HB7.out.size))
      have hV9 := (HB9.out.block V (by rw [HZ4.out]; omega)).trans HV4.out
      have v0 : w9.cell? ⟨V, 0, none⟩ = some (.slice p3 1 c3) := by simp [World.cell?, hV9]
      have v1 : w9.cell? ⟨V, 1, none⟩ = some (.slice q3 0 d3) := by simp [World.cell?, hV9]
      obtain ⟨V10, hV10⟩ : ∃ z, w9.heap.size = z := ⟨_, rfl⟩
      obtain ⟨W10, hW10⟩ : ∃ Z, w9.alloc (.cells #[.string ⟨#[]⟩] 9) = Z := ⟨_, rfl⟩
      have HB10 := Lib.hid (show Below w9.heap.size w9 W10 by rw [← hW10]; exact (Below.refl _ _).alloc (Nat.le_refl _) _)
      have HS10 := Lib.hid (show W10.heap[V10]? = some (.cells #[.string ⟨#[]⟩] 9 (0, 0)) by rw [← hW10, ← hV10]; exact World.alloc_heap_new _ _)
      have HB410 := Lib.hid (show Below W4.heap.size W4 W10 from HB9.out.trans (HB10.out.mono HB9.out.size))
      have KS2 := Lib.hid (ref_Same (.slice p3 1 c3) (.slice q3 0 d3) (.slice (some ⟨V10, 0, none⟩) 1 1) (.slice none 0 0) [[]] [[]] [] [] W10
        (HT3.out.below HB410.out) (HQ3.out.below HB410.out) (ts_lit [[]] HS10.out) (.inl ⟨rfl, rfl⟩) (by decide) (by decide) (by decide) (by decide))
      rw [decide_eq_true (show ([[]] : List (List UInt8)) = [[]] ∧ ([] : List (List UInt8 × List UInt8)) = [] from ⟨rfl, rfl⟩)] at KS2
      clear hb9 hV9 KS1 g0 g1
      go_wp2_with fail
      clear hW10 hV10
      refine KS2.out.mono ?_
      rintro e w11 ⟨rfl, hb11⟩
      have HB11 := Lib.hid (show Below w.heap.size w w11 from HBW.out.trans ((HBW4.out.trans ((HB410.out.trans (hb11.mono HB410.out.size)).mono HBW4.out.size)).mono HBW.out.size))
      clear hb11 v0 v1
      go_wp2_with fail
      refine (HN.out 2 _ (by omega)).mono ?_
      rintro e w12 ⟨rfl, hw12⟩
      subst w12
      go_wp2_with fail
      go_ret
      exact ⟨rfl, HB11.out⟩
end Go.Proofs.YtcfhenekoaegaaaGreatDoor

/- What Parse and the reference's Parse answer, in one form; bounds of what is read. -/
namespace Go.Proofs.YtcfhenekoaegaaaGreatDoor
set_option linter.unusedVariables false
set_option linter.unusedSimpArgs false
open Go.RowKit Go.Shelf
set_option maxHeartbeats 2000000
set_option maxRecDepth 100000
namespace Gt
abbrev Tg := List (List UInt8) × List (List UInt8 × List UInt8)
def tgOf (o : Option Tg) : Tg := o.getD ([], [])
def noOf (o : Option Tg) : Int := if o.isSome then 0 else 210
theorem parse_bound {s : List UInt8} {P : List (List UInt8)} {Q : List (List UInt8 × List UInt8)} (h : parse s = some (P, Q)) :
    P.length ≤ s.length + 1 ∧ Q.length ≤ s.length + 1 ∧ (∀ p ∈ P, p.length ≤ s.length) ∧ ∀ q ∈ Q, q.1.length ≤ s.length ∧ q.2.length ≤ s.length := by
  cases hok : ok s with
  | false => rw [parse_bad hok] at h; cases h
  | true =>
    cases hs : all? seg (segs s) with
    | none => rw [parse_segs hok hs] at h; cases h
    | some R =>
      rw [parse_is hok hs] at h
      cases hq : all? pairOf (qrys s) with
      | none => rw [hq] at h; cases h
      | some V =>
        rw [hq] at h
        cases h
        have hl1 : ((s.take (Gs.pos 63 s)).drop 1).length ≤ s.length := by rw [List.length_drop, List.length_take]; omega
        have hl2 : (s.drop (Gs.pos 63 s + 1)).length ≤ s.length := by rw [List.length_drop]; omega
        refine ⟨?_, ?_, fun p hp => ?_, fun q hq' => ?_⟩
        · rw [all_length hs]
          have := Gs.parts_many 47 ((s.take (Gs.pos 63 s)).drop 1) []
          unfold segs
          omega
        · rw [all_length hq]
          have h1 := Gs.parts_many 38 (s.drop (Gs.pos 63 s + 1)) []
          have h2 := List.length_filter_le (fun l : List UInt8 => !l.isEmpty) (Gs.parts 38 [] (s.drop (Gs.pos 63 s + 1)))
          unfold qrys
          omega
        · obtain ⟨x, hx, hsx⟩ := all_each hs p hp
          have h1 := Gs.parts_len 47 _ [] x hx
          unfold seg at hsx
          cases hd : dec false x with
          | none => rw [hd] at hsx; cases hsx
          | some y =>
            rw [hd] at hsx
            simp only at hsx
            split at hsx
            · cases hsx
              have h2 := dec_length false _ x p (Nat.le_refl _) hd
              rw [List.length_nil, Nat.zero_add] at h1
              omega
            · cases hsx
        · obtain ⟨x, hx, hpx⟩ := all_each hq q hq'
          have hx' := (List.mem_filter.1 hx).1
          have h1 := Gs.parts_len 38 _ [] x hx'
          unfold pairOf at hpx
          cases hd : dec true (x.take (Gs.pos 61 x)) with
          | none => rw [hd] at hpx; cases hpx
          | some k =>
            rw [hd] at hpx
            simp only at hpx
            cases he : dec true (x.drop (Gs.pos 61 x + 1)) with
            | none => rw [he] at hpx; cases hpx
            | some v =>
              rw [he] at hpx
              cases hpx
              have h2 := dec_length true _ _ k (Nat.le_refl _) hd
              have h3 := dec_length true _ _ v (Nat.le_refl _) he
              rw [List.length_take] at h2
              rw [List.length_drop] at h3
              rw [List.length_nil, Nat.zero_add] at h1
              exact ⟨by simp only; omega, by simp only; omega⟩
theorem tg_bound (s : List UInt8) : (tgOf (parse s)).1.length ≤ s.length + 1 ∧ (tgOf (parse s)).2.length ≤ s.length + 1 ∧ (∀ p ∈ (tgOf (parse s)).1, p.length ≤ s.length) ∧ ∀ q ∈ (tgOf (parse s)).2, q.1.length ≤ s.length ∧ q.2.length ≤ s.length := by
  cases h : parse s with
  | none => exact ⟨by simp [tgOf], by simp [tgOf], fun p hp => by simp [tgOf] at hp, fun q hq => by simp [tgOf] at hq⟩
  | some r => exact parse_bound h
end Gt
/-- what both answer -/
def TgOut (w : World) (o : Option Gt.Tg) (e : Ending) : Prop :=
  ∃ p c q d, e = .returned (.tuple #[.agg #[.slice p (Gt.tgOf o).1.length c, .slice q (Gt.tgOf o).2.length d], .int .i64 (Gt.noOf o)]) ∧ TS w (.slice p (Gt.tgOf o).1.length c) (Gt.tgOf o).1 ∧ PS w (.slice q (Gt.tgOf o).2.length d) (Gt.tgOf o).2
theorem tgOut_of {w : World} {o : Option Gt.Tg} {e : Ending} (h : ParseOut w o e) : TgOut w o e := by
  cases o with
  | none =>
    have h : e = _ := h
    subst h
    exact ⟨none, 0, none, 0, rfl, .inl ⟨none, 0, rfl, rfl⟩, .inl ⟨rfl, rfl⟩⟩
  | some r =>
    obtain ⟨P, Q⟩ := r
    obtain ⟨vp, vq, rfl, h1, h2⟩ := h
    have h3 := PS.of h2
    obtain ⟨p, c, rfl⟩ := h1.slice
    obtain ⟨q, d, rfl⟩ := h3.slice
    exact ⟨p, c, q, d, rfl, TS.of h1, h3⟩
theorem parse_any (s : ByteArray) (w : World) (hs : s.size ≤ 90000) (h : KX w) :
    Calls Tryz.prog 7 #[.string s] w fun e w' => TgOut w' (Gt.parse s.data.toList) e ∧ Below w.heap.size w w' :=
  (tg_Parse s w hs h.mx h.pos).mono fun e w' ⟨h1, h2⟩ => ⟨tgOut_of h1, h2⟩
theorem rparse_any (s : ByteArray) (w : World) (hs : s.size ≤ 90000) :
    Calls Tryz.prog 8 #[.string s] w fun e w' => TgOut w' (Gt.parse s.data.toList) e ∧ Below w.heap.size w w' :=
  (ref_Parse s w hs).mono fun e w' ⟨h1, h2⟩ => ⟨tgOut_of h1, h2⟩
theorem KX.of {w : World} (h : Mx w) (t : Tabs w) : KX w := ⟨h, by obtain ⟨m, hm⟩ := h; exact lt_of_cell hm, t⟩
theorem ba_back (s : ByteArray) : (⟨s.data.toList.toArray⟩ : ByteArray) = s := by cases s; simp
end Go.Proofs.YtcfhenekoaegaaaGreatDoor

/- Of a text that is taken the target's text is no longer than three times that; targets that come in. -/
namespace Go.Proofs.YtcfhenekoaegaaaGreatDoor
set_option linter.unusedVariables false
set_option linter.unusedSimpArgs false
open Go.RowKit Go.Shelf
set_option maxHeartbeats 2000000
set_option maxRecDepth 100000
namespace Gt
def sumBy {α : Type} (m : α → Nat) (L : List α) : Nat := (L.map m).sum
theorem sumBy_nil {α : Type} (m : α → Nat) : sumBy m [] = 0 := rfl
theorem sumBy_cons {α : Type} (m : α → Nat) (x : α) (L : List α) : sumBy m (x :: L) = m x + sumBy m L := by simp [sumBy]
theorem all_sum {α β : Type} {f : α → Option β} {m : α → Nat} {n : β → Nat} (hf : ∀ x y, f x = some y → n y ≤ m x) : ∀ {L : List α} {R : List β}, all? f L = some R → sumBy n R ≤ sumBy m L
  | [], R, h => by rw [all_nil] at h; cases h; exact Nat.le_refl _
  | x :: L, R, h => by
    cases hx : f x with
    | none => rw [all_none hx] at h; cases h
    | some y =>
      rw [all_some hx] at h
      cases hl : all? f L with
      | none => rw [hl] at h; cases h
      | some R' =>
        rw [hl] at h
        cases h
        have h1 := all_sum hf hl
        have h2 := hf x y hx
        rw [sumBy_cons, sumBy_cons]
        omega
theorem filter_sum {α : Type} (m : α → Nat) (p : α → Bool) : ∀ L : List α, sumBy m (L.filter p) ≤ sumBy m L
  | [] => Nat.le_refl _
  | x :: L => by
    have h := filter_sum m p L
    rw [List.filter_cons, sumBy_cons]
    split
    · rw [sumBy_cons]; omega
    · omega
theorem parts_sum (z : UInt8) : ∀ (l a : List UInt8), sumBy List.length (Gs.parts z a l) ≤ a.length + l.length
  | [], a => by rw [Gs.parts_nil, sumBy_cons, sumBy_nil]; simp
  | c :: l, a => by
    by_cases h : c = z
    · subst h
      have := parts_sum c l []
      rw [Gs.parts_here, sumBy_cons]
      simp at this ⊢
      omega
    · have := parts_sum z l (a ++ [c])
      rw [Gs.parts_next z c a l h]
      simp at this ⊢
      omega
theorem ptext_sum : ∀ P : List (List UInt8), (ptext P).length ≤ P.length + 3 * sumBy List.length P
  | [] => Nat.le_refl _
  | p :: P => by
    have h1 := ptext_sum P
    have h2 := (enc_length p).2
    have h3 : ptext (p :: P) = (47 :: enc p) ++ ptext P := rfl
    rw [h3, sumBy_cons]
    simp
    omega
def prLen (q : List UInt8 × List UInt8) : Nat := q.1.length + q.2.length
theorem qtail_sum : ∀ Q : List (List UInt8 × List UInt8), (Q.flatMap fun q => 38 :: pr q).length ≤ 2 * Q.length + 3 * sumBy prLen Q
  | [] => Nat.le_refl _
  | q :: Q => by
    have h1 := qtail_sum Q
    have h2 := (enc_length q.1).2
    have h3 := (enc_length q.2).2
    rw [List.flatMap_cons, sumBy_cons]
    unfold pr at h1 ⊢
    unfold prLen
    simp at h1 ⊢
    unfold prLen at h1
    omega
theorem qtext_sum (Q : List (List UInt8 × List UInt8)) : (qtext Q).length ≤ 2 * Q.length + 3 * sumBy prLen Q := by
  cases Q with
  | nil => exact Nat.le_refl _
  | cons q Q =>
    have h1 := qtail_sum Q
    have h2 := (enc_length q.1).2
    have h3 := (enc_length q.2).2
    rw [sumBy_cons]
    unfold qtext
    unfold pr at h1 ⊢
    simp at h1 ⊢
    show _ ≤ 2 * (Q.length + 1) + 3 * (q.1.length + q.2.length + _)
    omega
theorem seg_len {x y : List UInt8} (h : seg x = some y) : y.length ≤ x.length := by
  unfold seg at h
  cases hd : dec false x with
  | none => rw [hd] at h; cases h
  | some p =>
    rw [hd] at h
    simp only at h
    split at h
    · cases h
      exact dec_length false _ x _ (Nat.le_refl _) hd
    · cases h
theorem pairOf_len {x : List UInt8} {y : List UInt8 × List UInt8} (h : pairOf x = some y) : prLen y ≤ x.length := by
  unfold pairOf at h
  cases hd : dec true (x.take (Gs.pos 61 x)) with
  | none => rw [hd] at h; cases h
  | some k =>
    rw [hd] at h
    simp only at h
    cases he : dec true (x.drop (Gs.pos 61 x + 1)) with
    | none => rw [he] at h; cases h
    | some v =>
      rw [he] at h
      cases h
      have h2 := dec_length true _ _ k (Nat.le_refl _) hd
      have h3 := dec_length true _ _ v (Nat.le_refl _) he
      have h4 := Gs.pos_le 61 x
      rw [List.length_take] at h2
      rw [List.length_drop] at h3
      unfold prLen
      simp only
      omega
theorem parse_text_len {s : List UInt8} {P : List (List UInt8)} {Q : List (List UInt8 × List UInt8)} (h : parse s = some (P, Q)) (hs : s.length ≤ 200) : (text P Q).length ≤ 3000 := by
  have hb := parse_bound h
  cases hok : ok s with
  | false => rw [parse_bad hok] at h; cases h
  | true =>
    cases hg : all? seg (segs s) with
    | none => rw [parse_segs hok hg] at h; cases h
    | some R =>
      rw [parse_is hok hg] at h
      cases hq : all? pairOf (qrys s) with
      | none => rw [hq] at h; cases h
      | some V =>
        rw [hq] at h
        cases h
        have h1 := all_sum (m := List.length) (n := List.length) (fun x y hxy => seg_len hxy) hg
        have h2 := all_sum (m := List.length) (n := prLen) (fun x y hxy => pairOf_len hxy) hq
        have h3 := parts_sum 47 ((s.take (Gs.pos 63 s)).drop 1) []
        have h4 := parts_sum 38 (s.drop (Gs.pos 63 s + 1)) []
        have h5 := filter_sum List.length (fun l : List UInt8 => !l.isEmpty) (Gs.parts 38 [] (s.drop (Gs.pos 63 s + 1)))
        have h6 := ptext_sum P
        have h7 := qtext_sum Q
        have h8 := Gs.pos_le 63 s
        have e1 : sumBy List.length (segs s) ≤ s.length := by
          unfold segs
          rw [List.length_drop, List.length_take] at h3
          simp only [List.length_nil] at h3
          omega
        have e2 : sumBy List.length (qrys s) ≤ s.length := by
          unfold qrys
          rw [List.length_drop] at h4
          simp only [List.length_nil] at h4
          omega
        unfold text
        rw [List.length_append]
        omega
/-- no more than is looked at -/
structure FewT (P : List (List UInt8)) (Q : List (List UInt8 × List UInt8)) : Prop where
  path : P.length ≤ 20
  part : ∀ p ∈ P, p.length ≤ 60
  query : Q.length ≤ 20
  pair : ∀ q ∈ Q, q.1.length + q.2.length ≤ 120
theorem sum_le {α : Type} {m : α → Nat} {k : Nat} : ∀ {L : List α}, (∀ x ∈ L, m x ≤ k) → sumBy m L ≤ k * L.length
  | [], _ => Nat.le_refl _
  | x :: L, h => by
    have h1 := sum_le (fun y hy => h y (List.mem_cons_of_mem _ hy))
    have h2 := h x List.mem_cons_self
    rw [sumBy_cons, List.length_cons, Nat.mul_add, Nat.mul_one]
    omega
theorem few_text {P : List (List UInt8)} {Q : List (List UInt8 × List UInt8)} (h : FewT P Q) : (text P Q).length ≤ 12000 := by
  have h1 := ptext_sum P
  have h2 := qtext_sum Q
  have h3 := sum_le (m := List.length) (k := 60) h.part
  have h4 := sum_le (m := prLen) (k := 120) h.pair
  have h5 := h.path
  have h6 := h.query
  unfold text
  rw [List.length_append]
  omega
end Gt
/-- a text's bytes -/
def bsOf (o : Option Value) : List UInt8 := match o with
  | some (.string s) => s.data.toList
  | _ => []
section
variable {H : Type} {enc : TypeId × Value → H} {w : World} {base : Nat} {spare : Nat → Bool} {held : Bool}
open Go.ChangeShapes Go.WideShapes
theorem ts_in {fuel : Nat} {v : Value} {y : DataW H × List MemPlace} {r : Reach} {b0 : Nat} (hok : Cell.okWide Tryz.prog w r b0 23 v) (h : DataW.trod enc Tryz.prog w base spare held fuel 23 [v] = some y) :
    ∃ P, TS w v P ∧ (∀ p ∈ P, p.length ≤ maxLen) ∧ P.length ≤ maxLen := by
  rcases open_strings Tryz.underlying23 Tryz.underlying9 (by kernel_rfl) h with ⟨hcs, _⟩ | ⟨a, len, cap, ss, hcs, _, hl, hm, hz, _, hc, hs⟩
  · cases hcs
    exact ⟨[], .inl ⟨none, 0, rfl, rfl⟩, fun p hp => (List.not_mem_nil hp).elim, by simp⟩
  · simp only [List.cons.injEq, and_true] at hcs
    subst hcs
    obtain ⟨b, off, spot⟩ := a
    have hsp : spot = none := by
      simp only [Tryz.underlying23, Cell.okWide, Cell.ok] at hok
      exact hok.2.2.2.1
    subst hsp
    have hlen : len ≤ ss.length := by rw [hz]; split <;> omega
    refine ⟨(ss.take len).map (·.data.toList), .inr ⟨b, off, cap, by rw [List.length_map, List.length_take, Nat.min_eq_left hlen], fun j hj => ?_⟩, fun p hp => ?_, by rw [List.length_map, List.length_take]; omega⟩
    · rw [List.length_map, List.length_take, Nat.min_eq_left hlen] at hj
      have h1 := hc j (by omega)
      rw [Lib.add_plain] at h1
      rw [h1]
      have h2 : ss[j]? = some (ss.getD j ByteArray.empty) := by
        rw [List.getD_eq_getElem?_getD, List.getElem?_eq_getElem (by omega)]; rfl
      have h3 : ((ss.take len).map (·.data.toList)).getD j [] = (ss.getD j ByteArray.empty).data.toList := by
        rw [List.getD_eq_getElem?_getD, List.getElem?_map, List.getElem?_take_of_lt hj, h2]; rfl
      rw [h3]
      unfold tx
      rw [ba_back]
    · obtain ⟨s, h1, rfl⟩ := List.mem_map.1 hp
      exact hs s (List.mem_of_mem_take h1)
theorem weigh_lit {P : Program} {t : TypeId} (l : List UInt8) : l.length ∈ DataW.weights P t (.lit (.string l) : DataW H) := by simp [DataW.weights]
theorem weigh_two {P : Program} {t : TypeId} {f0 f1 : Field} (ht : P.underlying t = some (.struct #[f0, f1])) (a b : DataW H) {n : Nat} (h : n ∈ a.weights P f0.type ∨ n ∈ b.weights P f1.type) : n ∈ DataW.weights P t (.agg [a, b]) := by
  simp only [DataW.weights, ht, DataW.weightsEach, List.map_cons, List.map_nil]
  simpa using h
theorem weigh_all {P : Program} {e : TypeId} {d : DataW H} {n : Nat} (hn : n ∈ d.weights P e) : ∀ {l : List (DataW H)}, d ∈ l → n ∈ DataW.weightsAll P e l
  | x :: l, h => by
    simp only [DataW.weightsAll, List.mem_append]
    rcases List.mem_cons.1 h with rfl | h
    · exact .inl hn
    · exact .inr (weigh_all hn h)
theorem weigh_slice {P : Program} {t e : TypeId} (ht : P.underlying t = some (.slice e)) {d : DataW H} {a b : List (DataW H)} {n : Nat} (hd : d ∈ a) (hn : n ∈ d.weights P e) : n ∈ DataW.weights P t (.slice a b) := by
  simp only [DataW.weights, ht, List.mem_cons, List.mem_append]
  exact .inr (.inl (weigh_all hn hd))
theorem ps_in {fuel : Nat} {v : Value} {y : DataW H × List MemPlace} {r : Reach} {b0 : Nat} (hok : Cell.okWide Tryz.prog w r b0 24 v) (h : DataW.trod enc Tryz.prog w base spare held fuel 24 [v] = some y) (hwt : ∀ n ∈ y.1.weights Tryz.prog 24, n ≤ reachBytes) :
    ∃ Q, PS w v Q ∧ (∀ q ∈ Q, q.1.length ≤ reachBytes ∧ q.2.length ≤ reachBytes) ∧ Q.length ≤ maxLen := by
  rcases DataW.trod_slice Tryz.underlying24 h with ⟨hcs, _⟩ | ⟨a, len, cap, elems, rest, n, _, hcs, hyd, hb, hl, hm, hlen, hel, _, _⟩
  · cases hcs
    exact ⟨[], .inl ⟨rfl, rfl⟩, fun p hp => (List.not_mem_nil hp).elim, by simp⟩
  · simp only [List.cons.injEq, and_true] at hcs
    subst hcs
    obtain ⟨b, off, spot⟩ := a
    have hsp : spot = none := by
      simp only [Tryz.underlying24, Cell.okWide, Cell.ok] at hok
      exact hok.2.2.2.1
    subst hsp
    have hc2 : Tryz.prog.cellsOf 47 = 2 := by kernel_rfl
    have each : ∀ j, j < len → ∃ k v : ByteArray, w.cell? ⟨b, off + j * 2, none⟩ = some (.string k) ∧ w.cell? ⟨b, off + j * 2 + 1, none⟩ = some (.string v) ∧ k.size ≤ reachBytes ∧ v.size ≤ reachBytes := by
      intro j hj
      have h1 := hel j hj
      rw [List.getElem?_eq_getElem (by omega), Option.bind_eq_some_iff] at h1
      obtain ⟨cs, h2, h3⟩ := h1
      have h6 := (World.cells?_some h2).2
      match cs, h6.1, h3, h6.2 with
      | [c0, c1], _, h3, h6 =>
        obtain ⟨y0, y1, n', hx, _, h4, h5⟩ := trod_struct2 Tryz.underlying47 h3
        have hc1 : Tryz.prog.cellsOf 9 = 1 := by kernel_rfl
        have h7 := h6 0 (by rw [hc2]; omega)
        have h8 := h6 1 (by rw [hc2]; omega)
        simp only [hc2, Lib.add_plain, List.getElem?_cons_zero, List.getElem?_cons_succ, Nat.add_zero] at h7 h8
        simp [hc1] at h4 h5
        obtain ⟨k, hk, hy0, hks⟩ := DataW.trod_string Tryz.underlying9 h4
        obtain ⟨u, hu, hy1, hus⟩ := DataW.trod_string Tryz.underlying9 h5
        simp only [List.cons.injEq, and_true] at hk hu
        subst hk
        subst hu
        have hin : (elems[j]'(by omega)).1 ∈ elems.map (·.1) := List.mem_map_of_mem (List.getElem_mem _)
        have hle : ∀ n ∈ (elems[j]'(by omega)).1.weights Tryz.prog 47, n ≤ reachBytes := fun n hn => hwt n (by rw [hyd]; exact weigh_slice Tryz.underlying24 hin hn)
        rw [hx, hy0, hy1] at hle
        exact ⟨k, u, h7, h8, hle _ (weigh_two Tryz.underlying47 _ _ (.inl (weigh_lit k.data.toList))), hle _ (weigh_two Tryz.underlying47 _ _ (.inr (weigh_lit u.data.toList)))⟩
    refine ⟨(List.range len).map fun j => (bsOf (w.cell? ⟨b, off + j * 2, none⟩), bsOf (w.cell? ⟨b, off + j * 2 + 1, none⟩)), .inr ⟨b, off, cap, by simp, fun j hj => ?_⟩, fun q hq => ?_, by simp; omega⟩
    · simp only [List.length_map, List.length_range] at hj
      obtain ⟨k, u, h1, h2, _⟩ := each j hj
      have e : (((List.range len).map fun j => (bsOf (w.cell? ⟨b, off + j * 2, none⟩), bsOf (w.cell? ⟨b, off + j * 2 + 1, none⟩))).getD j ([], [])) = (k.data.toList, u.data.toList) := by
        rw [List.getD_eq_getElem?_getD, List.getElem?_map, List.getElem?_range hj]
        simp only [Option.map_some, Option.getD_some, h1, h2, bsOf]
      rw [e]
      unfold tx
      rw [ba_back, ba_back]
      exact ⟨h1, h2⟩
    · obtain ⟨j, hj, rfl⟩ := List.mem_map.1 hq
      obtain ⟨k, u, h1, h2, h3, h4⟩ := each j (List.mem_range.1 hj)
      simp only [h1, h2, bsOf]
      exact ⟨h3, h4⟩
/-- a target that comes in -/
theorem targ_in {r : Reach} {b0 : Nat} {v : Value} {d : DataW H} {p : List MemPlace} (hv : Value.okWide Tryz.prog w r b0 26 v) (h : DataW.Trod enc Tryz.prog w base spare held 26 v d p) (hwt : ∀ n ∈ d.weights Tryz.prog 26, n ≤ reachBytes) :
    ∃ v1 v2 P Q, v = .agg #[v1, v2] ∧ TS w v1 P ∧ PS w v2 Q ∧ (∀ p ∈ P, p.length ≤ maxLen) ∧ P.length ≤ maxLen ∧ (∀ q ∈ Q, q.1.length ≤ reachBytes ∧ q.2.length ≤ reachBytes) ∧ Q.length ≤ maxLen := by
  obtain ⟨v1, v2, y1, y2, n, rfl, hd, _, h1, h2⟩ := Go.Joins.open_agg2 Tryz.underlying26 (by kernel_rfl) (by kernel_rfl) hv h
  have hv' := hv
  simp only [Value.okWide, Tryz.underlying26] at hv'
  obtain ⟨cs, hcs, _, ts, hts, _, hall⟩ := hv'
  cases hcs
  have hts' : ts = [23, 24] := Option.some.inj (hts.symm.trans (by kernel_rfl))
  subst hts'
  obtain ⟨u1, e1, k1⟩ := hall 0 v1 rfl
  obtain ⟨u2, e2, k2⟩ := hall 1 v2 rfl
  cases e1
  cases e2
  obtain ⟨P, hP, hPs, hPl⟩ := ts_in k1 h1
  obtain ⟨Q, hQ, hQs, hQl⟩ := ps_in k2 h2 (fun n hn => hwt n (by rw [hd]; exact weigh_two Tryz.underlying26 _ _ (.inr hn)))
  exact ⟨v1, v2, P, Q, rfl, hP, hQ, hPs, hPl, hQs, hQl⟩
end
end Go.Proofs.YtcfhenekoaegaaaGreatDoor

/- The law's few: a target that is looked at is small. -/
namespace Go.Proofs.YtcfhenekoaegaaaGreatDoor
set_option linter.unusedVariables false
set_option linter.unusedSimpArgs false
open Go.RowKit Go.Shelf
set_option maxHeartbeats 8000000
set_option maxRecDepth 100000
theorem take_all {α : Type} {L : List α} {p : α → Prop} {d : α} {k : Nat} (hk : k < L.length) (h : ∀ x ∈ L.take k, p x) (hd : p (L.getD k d)) : ∀ x ∈ L.take (k + 1), p x := by
  intro x hx
  rw [take_getD L d k hk, List.mem_append] at hx
  rcases hx with hx | hx
  · exact h x hx
  · rw [List.mem_singleton.1 hx]; exact hd
theorem ba_size (x : List UInt8) : (⟨x.toArray⟩ : ByteArray).size = x.length := by simp [ByteArray.size]
theorem law_few (v1 v2 : Value) (P : List (List UInt8)) (Q : List (List UInt8 × List UInt8)) (w : World) (h1 : TS w v1 P) (h2 : PS w v2 Q)
    (hs1 : ∀ p ∈ P, p.length ≤ maxLen) (hl1 : P.length ≤ maxLen) (hs2 : ∀ q ∈ Q, q.1.length ≤ reachBytes ∧ q.2.length ≤ reachBytes) (hl2 : Q.length ≤ maxLen) :
    Calls Tryz.prog 15 #[.agg #[v1, v2]] w fun e w' => ∃ b, e = .returned (.bool b) ∧ (b = true → Gt.FewT P Q) ∧ Below w.heap.size w w' := by
  obtain ⟨p1, c1, rfl⟩ := h1.slice
  obtain ⟨p2, c2, rfl⟩ := h2.slice
  obtain ⟨n1, hn1⟩ : ∃ n, P.length = n := ⟨_, rfl⟩
  obtain ⟨n2, hn2⟩ : ∃ n, Q.length = n := ⟨_, rfl⟩
  rw [hn1] at h1 hl1 ⊢
  rw [hn2] at h2 hl2 ⊢
  have hl1' : n1 ≤ 9223372036854775807 := hl1
  have hl2' : n2 ≤ 9223372036854775807 := hl2
  obtain ⟨W1, hW1⟩ : ∃ Z, w.alloc (.cells #[.slice p1 n1 c1, .slice p2 n2 c2] 26) = Z := ⟨_, rfl⟩
  have hb1 : Below w.heap.size w W1 := by rw [← hW1]; exact (Below.refl _ _).alloc (Nat.le_refl _) _
  have hA : W1.heap[w.heap.size]? = some (.cells #[.slice p1 n1 c1, .slice p2 n2 c2] 26 (0, 0)) := by
    rw [← hW1]; exact World.alloc_heap_new _ _
  have a0 : W1.cell? ⟨w.heap.size, 0, none⟩ = some (.slice p1 n1 c1) := by simp [World.cell?, hA]
  have a1 : W1.cell? ⟨w.heap.size, 1, none⟩ = some (.slice p2 n2 c2) := by simp [World.cell?, hA]
  have HB := Lib.hid hb1
  have H1 := Lib.hid (h1.below hb1)
  have H2 := Lib.hid (h2.below hb1)
  have HS1 := Lib.hid hs1
  have HS2 := Lib.hid hs2
  have HN1 := Lib.hid hn1
  have HN2 := Lib.hid hn2
  have HW := Lib.hid hW1
  clear h1 h2 hb1 hA hn1 hn2 hW1 hs1 hs2 hl1 hl2
  go_enter Tryz.func15, Tryz.ntmps15
  go_wp2_with fail
  rw [HW.out]
  go_loopw [3] (fun i wr => ∃ k n : Nat, k ≤ n1 ∧ k ≤ 21 ∧ i = .int .i64 k ∧ (∀ p ∈ P.take k, p.length ≤ 60) ∧ wr = W1.drewN n) (fun i _ => n1 - (intOf i).toNat)
  case atStart => exact ⟨0, 0, Nat.zero_le _, by omega, rfl, fun p hp => by simp at hp, rfl⟩
  case round =>
    obtain ⟨k, n, hk, hk2, rfl, htk, rfl⟩ := hrel
    have HT := Lib.hid htk
    clear htk
    by_cases hgo : k < n1 ∧ k ≤ 20
    · obtain ⟨hlt, hl20⟩ := hgo
      obtain ⟨g1, o1, rfl, hc1⟩ := H1.out.cells (k := k) (by rw [HN1.out]; exact hlt)
      have hx := hc1 k (by rw [HN1.out]; exact hlt)
      have HTA := Lib.hid (take_all (L := P) (p := fun p => p.length ≤ 60) (d := []) (k := k) (by rw [HN1.out]; exact hlt) HT.out)
      obtain ⟨x, hxx⟩ : ∃ x, P.getD k [] = x := ⟨_, rfl⟩
      have hxm : x.length ≤ 9223372036854775807 := HS1.out x (by rw [← hxx, List.getD_eq_getElem?_getD, List.getElem?_eq_getElem (by rw [HN1.out]; exact hlt)]; exact List.getElem_mem _)
      rw [hxx] at hx HTA
      unfold tx at hx
      have hxs := ba_size x
      obtain ⟨xb, hxb⟩ : ∃ z : ByteArray, (⟨x.toArray⟩ : ByteArray) = z := ⟨_, rfl⟩
      rw [hxb] at hx hxs
      obtain ⟨sz, hsz⟩ : ∃ n, xb.size = n := ⟨_, rfl⟩
      have HX := Lib.hid (hxs.symm.trans hsz)
      have hszm : sz ≤ 9223372036854775807 := by rw [← HX.out]; exact hxm
      clear hxb hc1 hxx hxs hxm
      have hd1 : decide ((k : Int) ≤ 20) = true := decide_eq_true (by omega)
      have hd2 : decide ((k : Int) < (n1 : Int)) = true := decide_eq_true (by omega)
      by_cases hle : sz ≤ 60
      · have hd3 : decide ((60 : Int) < (sz : Int)) = false := decide_eq_false (by omega)
        go_wp2_with fail
        go_roundw
        case rel => exact ⟨k + 1, _, by omega, by omega, by go_num, HTA.out (by rw [HX.out]; exact hle), rfl⟩
        case measure => simp [intOf]; omega
      · have hd3 : decide ((60 : Int) < (sz : Int)) = true := decide_eq_true (by omega)
        go_wp2_with fail
        go_ret
        exact ⟨false, rfl, fun h => (Bool.false_ne_true h).elim, HB.out.trans ⟨rfl, rfl, rfl, Nat.le_refl _, fun _ _ => rfl⟩⟩
    · have HPA := Lib.hid (show n1 ≤ 20 → ∀ p ∈ P, p.length ≤ 60 by
        intro h20
        have := HT.out
        rwa [List.take_of_length_le (by rw [HN1.out]; omega)] at this)
      by_cases hlt1 : k < n1
      · have hd1 : decide ((k : Int) ≤ 20) = false := decide_eq_false (by omega)
        have hd2 : decide ((k : Int) < (n1 : Int)) = true := decide_eq_true (by omega)
        clear hgo
        go_wp2_with fail
        clear hd1 hd2 hlt1
        go_loopw [4] (fun i wr => ∃ k n : Nat, k ≤ n2 ∧ k ≤ 21 ∧ i = .int .i64 k ∧ (∀ q ∈ Q.take k, q.1.length + q.2.length ≤ 120) ∧ wr = W1.drewN n) (fun i _ => n2 - (intOf i).toNat)
        case atStart => exact ⟨0, n, Nat.zero_le _, by omega, rfl, fun p hp => by simp at hp, rfl⟩
        case round =>
          clear hk hk2
          obtain ⟨k, n, hk, hk2, rfl, htk, rfl⟩ := hrel
          have HT := Lib.hid htk
          clear htk
          by_cases hgo : k < n2 ∧ k ≤ 20
          · obtain ⟨hlt, hl20⟩ := hgo
            obtain ⟨g1, o1, rfl, hc1⟩ := H2.out.cells (k := k) (by rw [HN2.out]; exact hlt)
            obtain ⟨hx, hy⟩ := hc1 k (by rw [HN2.out]; exact hlt)
            have HTA := Lib.hid (take_all (L := Q) (p := fun q => q.1.length + q.2.length ≤ 120) (d := ([], [])) (k := k) (by rw [HN2.out]; exact hlt) HT.out)
            obtain ⟨⟨x, y⟩, hxx⟩ : ∃ x, Q.getD k ([], []) = x := ⟨_, rfl⟩
            have hxm : x.length ≤ 140737488351232 ∧ y.length ≤ 140737488351232 := HS2.out (x, y) (by rw [← hxx, List.getD_eq_getElem?_getD, List.getElem?_eq_getElem (by rw [HN2.out]; exact hlt)]; exact List.getElem_mem _)
            rw [hxx] at hx hy HTA
            unfold tx at hx hy
            have hxs := ba_size x
            have hys := ba_size y
            simp only at hx hy
            obtain ⟨xb, hxb⟩ : ∃ z : ByteArray, (⟨x.toArray⟩ : ByteArray) = z := ⟨_, rfl⟩
            obtain ⟨yb, hyb⟩ : ∃ z : ByteArray, (⟨y.toArray⟩ : ByteArray) = z := ⟨_, rfl⟩
            rw [hxb] at hx hxs
            rw [hyb] at hy hys
            obtain ⟨sz, hsz⟩ : ∃ n, xb.size = n := ⟨_, rfl⟩
            obtain ⟨sy, hsy⟩ : ∃ n, yb.size = n := ⟨_, rfl⟩
            have HX := Lib.hid (hxs.symm.trans hsz)
            have HY := Lib.hid (hys.symm.trans hsy)
            have hszm : sz ≤ 140737488351232 := by rw [← HX.out]; exact hxm.1
            have hsym : sy ≤ 140737488351232 := by rw [← HY.out]; exact hxm.2
            clear hxb hyb hc1 hxx hxs hys hxm
            have hd1 : decide ((k : Int) ≤ 20) = true := decide_eq_true (by omega)
            have hd2 : decide ((k : Int) < (n2 : Int)) = true := decide_eq_true (by omega)
            by_cases hle : sz + sy ≤ 120
            · have hd3 : decide ((120 : Int) < (sz : Int) + (sy : Int)) = false := decide_eq_false (by omega)
              go_wp2_with fail
              go_quiet (fail)
              go_wp2_with fail
              go_roundw
              case rel => exact ⟨k + 1, _, by omega, by omega, by go_num, HTA.out (by rw [HX.out, HY.out]; exact hle), rfl⟩
              case measure => simp [intOf]; omega
            · have hd3 : decide ((120 : Int) < (sz : Int) + (sy : Int)) = true := decide_eq_true (by omega)
              go_wp2_with fail
              go_quiet (fail)
              go_wp2_with fail
              go_ret
              exact ⟨false, rfl, fun h => (Bool.false_ne_true h).elim, HB.out.trans ⟨rfl, rfl, rfl, Nat.le_refl _, fun _ _ => rfl⟩⟩
          · have HQA := Lib.hid (show n2 ≤ 20 → ∀ q ∈ Q, q.1.length + q.2.length ≤ 120 by
              intro h20
              have := HT.out
              rwa [List.take_of_length_le (by rw [HN2.out]; omega)] at this)
            have HF := Lib.hid (show n1 ≤ 20 ∧ n2 ≤ 20 → Gt.FewT P Q from fun h => ⟨by rw [HN1.out]; exact h.1, HPA.out h.1, by rw [HN2.out]; exact h.2, HQA.out h.2⟩)
            by_cases hlt : k < n2
            · have hd1 : decide ((k : Int) ≤ 20) = false := decide_eq_false (by omega)
              have hd2 : decide ((k : Int) < (n2 : Int)) = true := decide_eq_true (by omega)
              by_cases hA : n1 ≤ 20
              · by_cases hB : n2 ≤ 20
                · exact absurd hB (by omega)
                · have hd5 : decide ((n1 : Int) ≤ 20) = true := decide_eq_true (by omega)
                  have hd6 : decide ((n2 : Int) ≤ 20) = false := decide_eq_false (by omega)
                  go_wp2_with fail
                  go_ret
                  exact ⟨false, rfl, fun h => (Bool.false_ne_true h).elim, HB.out.trans ⟨rfl, rfl, rfl, Nat.le_refl _, fun _ _ => rfl⟩⟩
              · have hd5 : decide ((n1 : Int) ≤ 20) = false := decide_eq_false (by omega)
                go_wp2_with fail
                go_ret
                exact ⟨false, rfl, fun h => (Bool.false_ne_true h).elim, HB.out.trans ⟨rfl, rfl, rfl, Nat.le_refl _, fun _ _ => rfl⟩⟩
            · have hd2 : decide ((k : Int) < (n2 : Int)) = false := decide_eq_false (by omega)
              by_cases hA : n1 ≤ 20
              · by_cases hB : n2 ≤ 20
                · have hd5 : decide ((n1 : Int) ≤ 20) = true := decide_eq_true (by omega)
                  have hd6 : decide ((n2 : Int) ≤ 20) = true := decide_eq_true (by omega)
                  go_wp2_with fail
                  go_ret
                  exact ⟨true, rfl, fun _ => HF.out ⟨hA, hB⟩, HB.out.trans ⟨rfl, rfl, rfl, Nat.le_refl _, fun _ _ => rfl⟩⟩
                · have hd5 : decide ((n1 : Int) ≤ 20) = true := decide_eq_true (by omega)
                  have hd6 : decide ((n2 : Int) ≤ 20) = false := decide_eq_false (by omega)
                  go_wp2_with fail
                  go_ret
                  exact ⟨false, rfl, fun h => (Bool.false_ne_true h).elim, HB.out.trans ⟨rfl, rfl, rfl, Nat.le_refl _, fun _ _ => rfl⟩⟩
              · have hd5 : decide ((n1 : Int) ≤ 20) = false := decide_eq_false (by omega)
                go_wp2_with fail
                go_ret
                exact ⟨false, rfl, fun h => (Bool.false_ne_true h).elim, HB.out.trans ⟨rfl, rfl, rfl, Nat.le_refl _, fun _ _ => rfl⟩⟩
      · have hd2 : decide ((k : Int) < (n1 : Int)) = false := decide_eq_false (by omega)
        clear hgo
        go_wp2_with fail
        clear hd2 hlt1
        go_loopw [4] (fun i wr => ∃ k n : Nat, k ≤ n2 ∧ k ≤ 21 ∧ i = .int .i64 k ∧ (∀ q ∈ Q.take k, q.1.length + q.2.length ≤ 120) ∧ wr = W1.drewN n) (fun i _ => n2 - (intOf i).toNat)
        case atStart => exact ⟨0, n, Nat.zero_le _, by omega, rfl, fun p hp => by simp at hp, rfl⟩
        case round =>
          clear hk hk2
          obtain ⟨k, n, hk, hk2, rfl, htk, rfl⟩ := hrel
          have HT := Lib.hid htk
          clear htk
          by_cases hgo : k < n2 ∧ k ≤ 20
          · obtain ⟨hlt, hl20⟩ := hgo
            obtain ⟨g1, o1, rfl, hc1⟩ := H2.out.cells (k := k) (by rw [HN2.out]; exact hlt)
            obtain ⟨hx, hy⟩ := hc1 k (by rw [HN2.out]; exact hlt)
            have HTA := Lib.hid (take_all (L := Q) (p := fun q => q.1.length + q.2.length ≤ 120) (d := ([], [])) (k := k) (by rw [HN2.out]; exact hlt) HT.out)
            obtain ⟨⟨x, y⟩, hxx⟩ : ∃ x, Q.getD k ([], []) = x := ⟨_, rfl⟩
            have hxm : x.length ≤ 140737488351232 ∧ y.length ≤ 140737488351232 := HS2.out (x, y) (by rw [← hxx, List.getD_eq_getElem?_getD, List.getElem?_eq_getElem (by rw [HN2.out]; exact hlt)]; exact List.getElem_mem _)
            rw [hxx] at hx hy HTA
            unfold tx at hx hy
            have hxs := ba_size x
            have hys := ba_size y
            simp only at hx hy
            obtain ⟨xb, hxb⟩ : ∃ z : ByteArray, (⟨x.toArray⟩ : ByteArray) = z := ⟨_, rfl⟩
            obtain ⟨yb, hyb⟩ : ∃ z : ByteArray, (⟨y.toArray⟩ : ByteArray) = z := ⟨_, rfl⟩
            rw [hxb] at hx hxs
            rw [hyb] at hy hys
            obtain ⟨sz, hsz⟩ : ∃ n, xb.size = n := ⟨_, rfl⟩
            obtain ⟨sy, hsy⟩ : ∃ n, yb.size = n := ⟨_, rfl⟩
            have HX := Lib.hid (hxs.symm.trans hsz)
            have HY := Lib.hid (hys.symm.trans hsy)
            have hszm : sz ≤ 140737488351232 := by rw [← HX.out]; exact hxm.1
            have hsym : sy ≤ 140737488351232 := by rw [← HY.out]; exact hxm.2
            clear hxb hyb hc1 hxx hxs hys hxm
            have hd1 : decide ((k : Int) ≤ 20) = true := decide_eq_true (by omega)
            have hd2 : decide ((k : Int) < (n2 : Int)) = true := decide_eq_true (by omega)
            by_cases hle : sz + sy ≤ 120
            · have hd3 : decide ((120 : Int) < (sz : Int) + (sy : Int)) = false := decide_eq_false (by omega)
              go_wp2_with fail
              go_quiet (fail)
              go_wp2_with fail
              go_roundw
              case rel => exact ⟨k + 1, _, by omega, by omega, by go_num, HTA.out (by rw [HX.out, HY.out]; exact hle), rfl⟩
              case measure => simp [intOf]; omega
            · have hd3 : decide ((120 : Int) < (sz : Int) + (sy : Int)) = true := decide_eq_true (by omega)
              go_wp2_with fail
              go_quiet (fail)
              go_wp2_with fail
              go_ret
              exact ⟨false, rfl, fun h => (Bool.false_ne_true h).elim, HB.out.trans ⟨rfl, rfl, rfl, Nat.le_refl _, fun _ _ => rfl⟩⟩
          · have HQA := Lib.hid (show n2 ≤ 20 → ∀ q ∈ Q, q.1.length + q.2.length ≤ 120 by
              intro h20
              have := HT.out
              rwa [List.take_of_length_le (by rw [HN2.out]; omega)] at this)
            have HF := Lib.hid (show n1 ≤ 20 ∧ n2 ≤ 20 → Gt.FewT P Q from fun h => ⟨by rw [HN1.out]; exact h.1, HPA.out h.1, by rw [HN2.out]; exact h.2, HQA.out h.2⟩)
            by_cases hlt : k < n2
            · have hd1 : decide ((k : Int) ≤ 20) = false := decide_eq_false (by omega)
              have hd2 : decide ((k : Int) < (n2 : Int)) = true := decide_eq_true (by omega)
              by_cases hA : n1 ≤ 20
              · by_cases hB : n2 ≤ 20
                · exact absurd hB (by omega)
                · have hd5 : decide ((n1 : Int) ≤ 20) = true := decide_eq_true (by omega)
                  have hd6 : decide ((n2 : Int) ≤ 20) = false := decide_eq_false (by omega)
                  go_wp2_with fail
                  go_ret
                  exact ⟨false, rfl, fun h => (Bool.false_ne_true h).elim, HB.out.trans ⟨rfl, rfl, rfl, Nat.le_refl _, fun _ _ => rfl⟩⟩
              · have hd5 : decide ((n1 : Int) ≤ 20) = false := decide_eq_false (by omega)
                go_wp2_with fail
                go_ret
                exact ⟨false, rfl, fun h => (Bool.false_ne_true h).elim, HB.out.trans ⟨rfl, rfl, rfl, Nat.le_refl _, fun _ _ => rfl⟩⟩
            · have hd2 : decide ((k : Int) < (n2 : Int)) = false := decide_eq_false (by omega)
              by_cases hA : n1 ≤ 20
              · by_cases hB : n2 ≤ 20
                · have hd5 : decide ((n1 : Int) ≤ 20) = true := decide_eq_true (by omega)
                  have hd6 : decide ((n2 : Int) ≤ 20) = true := decide_eq_true (by omega)
                  go_wp2_with fail
                  go_ret
                  exact ⟨true, rfl, fun _ => HF.out ⟨hA, hB⟩, HB.out.trans ⟨rfl, rfl, rfl, Nat.le_refl _, fun _ _ => rfl⟩⟩
                · have hd5 : decide ((n1 : Int) ≤ 20) = true := decide_eq_true (by omega)
                  have hd6 : decide ((n2 : Int) ≤ 20) = false := decide_eq_false (by omega)
                  go_wp2_with fail
                  go_ret
                  exact ⟨false, rfl, fun h => (Bool.false_ne_true h).elim, HB.out.trans ⟨rfl, rfl, rfl, Nat.le_refl _, fun _ _ => rfl⟩⟩
              · have hd5 : decide ((n1 : Int) ≤ 20) = false := decide_eq_false (by omega)
                go_wp2_with fail
                go_ret
                exact ⟨false, rfl, fun h => (Bool.false_ne_true h).elim, HB.out.trans ⟨rfl, rfl, rfl, Nat.le_refl _, fun _ _ => rfl⟩⟩
end Go.Proofs.YtcfhenekoaegaaaGreatDoor

/- TargetHolds returns true for any target and any text: the walk. -/
namespace Go.Proofs.YtcfhenekoaegaaaGreatDoor
set_option linter.unusedVariables false
set_option linter.unusedSimpArgs false
open Go.RowKit Go.Shelf
set_option maxHeartbeats 8000000
set_option maxRecDepth 100000
theorem two_cells {W : World} {B : Nat} {x y : Value} {t : TypeId} (h : W.heap[B]? = some (.cells #[x, y] t (0, 0))) : W.cell? ⟨B, 0, none⟩ = some x ∧ W.cell? ⟨B, 1, none⟩ = some y := by
  constructor <;> simp [World.cell?, h]
theorem TS.sr {w : World} {v : Value} {L : List (List UInt8)} (h : TS w v L) : SR w v (L.map fun l => ⟨l.toArray⟩) := by
  rcases h with ⟨p, c, rfl, rfl⟩ | ⟨b, off, cap, rfl, h3⟩
  · exact .inl ⟨p, c, rfl, rfl⟩
  · cases L with
    | nil => exact .inl ⟨some ⟨b, off, none⟩, cap, rfl, rfl⟩
    | cons x L =>
      have h0 := h3 0 (by simp)
      refine .inr ⟨b, off, cap, by simp, lt_of_cell h0, fun j hj => ?_⟩
      rw [List.length_map] at hj
      rw [h3 j hj, List.getElem_map]
      simp only [tx, List.getD_eq_getElem?_getD, List.getElem?_eq_getElem hj, Option.getD_some]
theorem right_any (v : Value) (P : List (List UInt8)) (w : World) (hv : TS w v P) (hP : P.length ≤ 1000000) (hs : ∀ p ∈ P, p.length ≤ 1000000) (a2 : Option Addr) (n2 c2 : Nat) :
    Calls Tryz.prog 16 #[.agg #[v, .slice a2 n2 c2]] w fun e w' => e = .returned (.bool (Gt.right P)) ∧ Below w.heap.size w w' := by
  have h := ref_Right v _ w hv.sr (by simpa using hP) (fun s hs' => by
    obtain ⟨p, hp, rfl⟩ := List.mem_map.1 hs'
    rw [ba_size]; exact hs p hp) a2 n2 c2
  rw [List.map_map, show ((fun x : ByteArray => x.data.toList) ∘ fun l : List UInt8 => (⟨l.toArray⟩ : ByteArray)) = id from by funext l; simp, List.map_id] at h
  exact h
theorem walkGH (v1 v2 : Value) (P : List (List UInt8)) (Q : List (List UInt8 × List UInt8)) (s : ByteArray) (w : World) (h1 : TS w v1 P) (h2 : PS w v2 Q)
    (hs1 : ∀ p ∈ P, p.length ≤ maxLen) (hl1 : P.length ≤ maxLen) (hs2 : ∀ q ∈ Q, q.1.length ≤ reachBytes ∧ q.2.length ≤ reachBytes) (hl2 : Q.length ≤ maxLen) (hs : s.size ≤ maxLen) (hk : KX w) :
    Calls Tryz.prog 4 #[.agg #[v1, v2], .string s] w fun e w' => e = .returned (.bool true) ∧ Below w.heap.size w w' := by
  have WK := Lib.hid (fun W (h : KX W) => law_works W h)
  have HK := Lib.hid hk
  have HN := Lib.hid law_num
  obtain ⟨p1, c1, rfl⟩ := h1.slice
  obtain ⟨p2, c2, rfl⟩ := h2.slice
  obtain ⟨n1, hn1⟩ : ∃ n, P.length = n := ⟨_, rfl⟩
  obtain ⟨n2, hn2⟩ : ∃ n, Q.length = n := ⟨_, rfl⟩
  have hl1' := hl1
  have hl2' := hl2
  rw [hn1] at h1 ⊢
  rw [hn2] at h2 ⊢
  obtain ⟨G, hG⟩ : ∃ z, w.heap.size = z := ⟨_, rfl⟩
  obtain ⟨W1, hW1⟩ : ∃ Z, w.alloc (.cells #[.slice p1 n1 c1, .slice p2 n2 c2] 26) = Z := ⟨_, rfl⟩
  have HBW1 := Lib.hid (show Below w.heap.size w W1 by rw [← hW1]; exact (Below.refl _ _).alloc (Nat.le_refl _) _)
  have HG1 := Lib.hid (show W1.heap[G]? = some (.cells #[.slice p1 n1 c1, .slice p2 n2 c2] 26 (0, 0)) by rw [← hW1, ← hG]; exact World.alloc_heap_new _ _)
  have HZ1 := Lib.hid (show W1.heap.size = G + 1 by rw [← hW1, ← hG]; simp)
  have HT1 := Lib.hid (h1.below HBW1.out)
  have HQ1 := Lib.hid (h2.below HBW1.out)
  have FW := Lib.hid (law_few (.slice p1 n1 c1) (.slice p2 n2 c2) P Q W1 HT1.out HQ1.out hs1 hl1 hs2 hl2)
  have HN1 := Lib.hid hn1
  have HN2 := Lib.hid hn2
  have g10 := (two_cells HG1.out).1
  have g11 := (two_cells HG1.out).2
  clear h1 h2 hs1 hl1 hs2 hl2 hn1 hn2 hk hl1' hl2'
  have hs' : s.size ≤ 9223372036854775807 := hs
  clear hs
  go_enter Tryz.func4, Tryz.ntmps4
  go_wp2_with fail
  clear hW1 hG
  refine FW.out.mono ?_
  rintro e w2 ⟨b, rfl, hfw, hb2⟩
  have HB2 := Lib.hid hb2
  have HBW2 := Lib.hid (HBW1.out.trans (hb2.mono HBW1.out.size))
  clear hb2 g10 g11
  cases b with
  | false =>
    go_wp2_with fail
    refine (WK.out _ (HK.out.below HBW2.out)).mono ?_
    rintro e w3 ⟨rfl, hb3⟩
    have HB3 := Lib.hid (HBW2.out.trans (hb3.mono HBW2.out.size))
    clear hb3
    go_wp2_with fail
    go_ret
    exact ⟨rfl, HB3.out⟩
  | true =>
    have HFW := Lib.hid (hfw rfl)
    clear hfw
    by_cases hl : s.size ≤ 200
    · have HSZ := Lib.hid (show s.data.toList.length = s.size from rfl)
      have HSL := Lib.hid hl
      cases ho : Gt.parse s.data.toList with
      | none =>
        have PN := Lib.hid (fun W (h : KX W) => parse_no s W (by have := HSL.out; omega) h ho)
        clear ho
        go_wp2_with fail
        refine (PN.out _ (HK.out.below HBW2.out)).mono ?_
        rintro e w3 ⟨rfl, hb3⟩
        obtain ⟨W4, hW4⟩ : ∃ Z, w3.alloc (.cells #[.slice none 0 0, .slice none 0 0] 26) = Z := ⟨_, rfl⟩
        have hb4 : Below w3.heap.size w3 W4 := by rw [← hW4]; exact (Below.refl _ _).alloc (Nat.le_refl _) _
        have HB4 := Lib.hid (HB2.out.trans ((hb3.trans (hb4.mono hb3.size)).mono HB2.out.size))
        have HW4 := Lib.hid hW4
        clear hb3 hb4 hW4
        go_wp2_with fail
        rw [HW4.out]
        refine (HN.out 210 _ (by omega)).mono ?_
        rintro e w5 ⟨rfl, hw5⟩
        subst hw5
        have HT2 := Lib.hid (HT1.out.below HB4.out)
        have HQ2 := Lib.hid (HQ1.out.below HB4.out)
        have hgx := two_cells ((HB4.out.block G (by rw [HZ1.out]; omega)).trans HG1.out)
        have gx0 := hgx.1
        have gx1 := hgx.2
        have RT := Lib.hid (fun W (h : TS W (.slice p1 n1 c1) P) => right_any (.slice p1 n1 c1) P W h (by have := HFW.out.path; omega) (fun p hp => by have := HFW.out.part p hp; omega) p2 n2 c2)
        clear hgx
        cases hr : Gt.right P with
        | false =>
          rw [hr] at RT
          clear hr
          go_wp2_with fail
          refine (RT.out _ HT2.out).mono ?_
          rintro e w20 ⟨rfl, hb20⟩
          have HB20 := Lib.hid (HBW1.out.trans ((HB4.out.trans (hb20.mono HB4.out.size)).mono HBW1.out.size))
          clear hb20 gx0 gx1
          go_wp2_with fail
          refine (WK.out _ (HK.out.below HB20.out)).mono ?_
          rintro e w21 ⟨rfl, hb21⟩
          have HB21 := Lib.hid (HB20.out.trans (hb21.mono HB20.out.size))
          clear hb21
          go_wp2_with fail
          go_ret
          exact ⟨rfl, HB21.out⟩
        | true =>
          rw [hr] at RT
          have TX := Lib.hid (fun W (a : TS W (.slice p1 n1 c1) P) (b : PS W (.slice p2 n2 c2) Q) (t : Tabs W) => tg_Text (.slice p1 n1 c1) (.slice p2 n2 c2) P Q W a b (by have := HFW.out.path; omega) (fun p hp => by have := HFW.out.part p hp; omega) (by have := HFW.out.query; omega) (fun q hq => by have := HFW.out.pair q hq; omega) t)
          have hpt := Gt.parse_text (Q := Q) hr
          unfold txtOut at TX
          rw [if_pos hr] at TX
          have hsz := Gt.few_text HFW.out
          have hsz2 := ba_size (Gt.text P Q)
          obtain ⟨x, hx⟩ : ∃ z : ByteArray, (⟨(Gt.text P Q).toArray⟩ : ByteArray) = z := ⟨_, rfl⟩
          have hxl : x.data.toList = Gt.text P Q := by rw [← hx]
          rw [hx] at TX hsz2
          have HXS := Lib.hid (show x.size ≤ 90000 by omega)
          have PY := Lib.hid (fun W (h : KX W) => parse_yes x P Q W HXS.out h (by rw [hxl]; exact hpt))
          rw [HN1.out, HN2.out] at PY
          clear hr hpt hsz hsz2 hx hxl
          go_wp2_with fail
          refine (RT.out _ HT2.out).mono ?_
          rintro e w20 ⟨rfl, hb20⟩
          have HBT := Lib.hid (HB4.out.trans (hb20.mono HB4.out.size))
          have HBU := Lib.hid (HBW1.out.trans (HBT.out.mono HBW1.out.size))
          have hgy := two_cells ((HBT.out.block G (by rw [HZ1.out]; omega)).trans HG1.out)
          have gy0 := hgy.1
          have gy1 := hgy.2
          clear hgy hb20 gx0 gx1
          go_wp2_with fail
          refine (TX.out _ (HT1.out.below HBT.out) (HQ1.out.below HBT.out) (HK.out.tabs.below HBU.out)).mono ?_
          rintro e w22 ⟨rfl, hb22⟩
          have HBV := Lib.hid (HBT.out.trans (hb22.mono HBT.out.size))
          have HBV' := Lib.hid (HBW1.out.trans (HBV.out.mono HBW1.out.size))
          clear hb22 gy0 gy1
          go_wp2_with fail
          refine (PY.out _ (HK.out.below HBV'.out)).mono ?_
          rintro e w23 ⟨p5, c5, q5, d5, rfl, ht5, hq5, hb23⟩
          obtain ⟨V, hV⟩ : ∃ z, w23.heap.size = z := ⟨_, rfl⟩
          obtain ⟨W6, hW6⟩ : ∃ Z, w23.alloc (.cells #[.slice p5 n1 c5, .slice q5 n2 d5] 26) = Z := ⟨_, rfl⟩
          have hb6 : Below w23.heap.size w23 W6 := by rw [← hW6]; exact (Below.refl _ _).alloc (Nat.le_refl _) _
          have hv6 := two_cells (show W6.heap[V]? = some (.cells #[.slice p5 n1 c5, .slice q5 n2 d5] 26 (0, 0)) by rw [← hW6, ← hV]; exact World.alloc_heap_new _ _)
          have hv60 := hv6.1
          have hv61 := hv6.2
          have HT6 := Lib.hid (ht5.below hb6)
          have HQ6 := Lib.hid (hq5.below hb6)
          have HBG := Lib.hid (HBV.out.trans ((hb23.trans (hb6.mono hb23.size)).mono HBV.out.size))
          have HBG' := Lib.hid (HBW1.out.trans (HBG.out.mono HBW1.out.size))
          have hgz := two_cells ((HBG.out.block G (by rw [HZ1.out]; omega)).trans HG1.out)
          have gz0 := hgz.1
          have gz1 := hgz.2
          have SM := Lib.hid (tg_Same (.slice p5 n1 c5) (.slice q5 n2 d5) (.slice p1 n1 c1) (.slice p2 n2 c2) P P Q Q W6 HT6.out HQ6.out (HT1.out.below HBG.out) (HQ1.out.below HBG.out) (by have := HFW.out.path; omega) (by have := HFW.out.query; omega) (by have := HFW.out.path; omega) (by have := HFW.out.query; omega))
          rw [decide_eq_true (show P = P ∧ Q = Q from ⟨rfl, rfl⟩)] at SM
          clear ht5 hq5 hb23 hb6 hv6 hgz
          go_wp2_with fail
          refine (HN.out 0 _ (by omega)).mono ?_
          rintro e w24 ⟨rfl, rfl⟩
          go_wp2_with fail
          refine (HN.out 0 _ (by omega)).mono ?_
          rintro e w25 ⟨rfl, rfl⟩
          clear hW6 hV
          go_wp2_with fail
          refine SM.out.mono ?_
          rintro e w26 ⟨rfl, hb26⟩
          have HB26 := Lib.hid (HBG'.out.trans (hb26.mono HBG'.out.size))
          clear hb26
          go_wp2_with fail
          refine (WK.out _ (HK.out.below HB26.out)).mono ?_
          rintro e w27 ⟨rfl, hb27⟩
          have HB27 := Lib.hid (HB26.out.trans (hb27.mono HB26.out.size))
          clear hb27
          go_wp2_with fail
          go_ret
          exact ⟨rfl, HB27.out⟩
      | some r =>
        obtain ⟨P3, Q3⟩ := r
        have PS3 := Lib.hid (fun W (h : KX W) => parse_yes s P3 Q3 W (by have := HSL.out; omega) h ho)
        have HBD := Lib.hid (Gt.parse_bound ho)
        have hrt := Gt.parse_right ho
        have hpt := Gt.parse_text (Q := Q3) hrt
        have hln := Gt.parse_text_len ho (by have := HSL.out; have := HSZ.out; omega)
        obtain ⟨m1, hm1⟩ : ∃ n, P3.length = n := ⟨_, rfl⟩
        obtain ⟨m2, hm2⟩ : ∃ n, Q3.length = n := ⟨_, rfl⟩
        have hml : m1 ≤ 201 ∧ m2 ≤ 201 := by have := HBD.out.1; have := HBD.out.2.1; have := HSL.out; have := HSZ.out; omega
        have HML := Lib.hid hml
        have hxs := ba_size (Gt.text P3 Q3)
        have TX3 := Lib.hid (fun W v1 v2 (a : TS W v1 P3) (b : PS W v2 Q3) (t : Tabs W) => tg_Text v1 v2 P3 Q3 W a b (by have := HML.out; omega) (fun p hp => by have := HBD.out.2.2.1 p hp; have := HSL.out; have := HSZ.out; omega) (by have := HML.out; omega) (fun q hq => by have := HBD.out.2.2.2 q hq; have := HSL.out; have := HSZ.out; omega) t)
        unfold txtOut at TX3
        rw [if_pos hrt] at TX3
        have RT3 := Lib.hid (fun W v1 (h : TS W v1 P3) a n c => right_any v1 P3 W h (by have := HML.out; omega) (fun p hp => by have := HBD.out.2.2.1 p hp; have := HSL.out; have := HSZ.out; omega) a n c)
        rw [hrt] at RT3
        obtain ⟨x, hx⟩ : ∃ z : ByteArray, (⟨(Gt.text P3 Q3).toArray⟩ : ByteArray) = z := ⟨_, rfl⟩
        have hxl : x.data.toList = Gt.text P3 Q3 := by rw [← hx]
        rw [hx] at TX3 hxs
        have PX := Lib.hid (fun W (h : KX W) => parse_yes x P3 Q3 W (by omega) h (by rw [hxl]; exact hpt))
        rw [hm1, hm2] at PS3 PX
        have HM1 := Lib.hid hm1
        have HM2 := Lib.hid hm2
        clear ho hrt hpt hln hml hxs hx hxl hm1 hm2
        go_wp2_with fail
        refine (PS3.out _ (HK.out.below HBW2.out)).mono ?_
        rintro e w3 ⟨p3, c3, q3, d3, rfl, ht3, hq3, hb3⟩
        obtain ⟨U, hU⟩ : ∃ z, w3.heap.size = z := ⟨_, rfl⟩
        obtain ⟨W4, hW4⟩ : ∃ Z, w3.alloc (.cells #[.slice p3 m1 c3, .slice q3 m2 d3] 26) = Z := ⟨_, rfl⟩
        have hb4 : Below w3.heap.size w3 W4 := by rw [← hW4]; exact (Below.refl _ _).alloc (Nat.le_refl _) _
        have HU4 := Lib.hid (show W4.heap[U]? = some (.cells #[.slice p3 m1 c3, .slice q3 m2 d3] 26 (0, 0)) by rw [← hW4, ← hU]; exact World.alloc_heap_new _ _)
        have HUZ := Lib.hid (show W4.heap.size = U + 1 by rw [← hW4, ← hU]; simp)
        have HB4 := Lib.hid (HB2.out.trans ((hb3.trans (hb4.mono hb3.size)).mono HB2.out.size))
        have HBW4 := Lib.hid (HBW1.out.trans (HB4.out.mono HBW1.out.size))
        have HT4 := Lib.hid (ht3.below hb4)
        have HQ4 := Lib.hid (hq3.below hb4)
        have u40 := (two_cells HU4.out).1
        have u41 := (two_cells HU4.out).2
        clear hb3 hb4 ht3 hq3
        go_wp2_with fail
        clear hW4 hU
        refine (HN.out 0 _ (by omega)).mono ?_
        rintro e w5 ⟨rfl, hw5⟩
        subst hw5
        go_wp2_with fail
        refine (RT3.out _ _ HT4.out _ _ _).mono ?_
        rintro e w6 ⟨rfl, hb6⟩
        have HC6 := Lib.hid hb6
        have HB6 := Lib.hid (HB4.out.trans (hb6.mono HB4.out.size))
        have HBW6 := Lib.hid (HBW1.out.trans (HB6.out.mono HBW1.out.size))
        have u60 := (two_cells ((HC6.out.block U (by rw [HUZ.out]; omega)).trans HU4.out)).1
        have u61 := (two_cells ((HC6.out.block U (by rw [HUZ.out]; omega)).trans HU4.out)).2
        clear u40 u41 hb6
        go_wp2_with fail
        refine (TX3.out _ _ _ (HT4.out.below HC6.out) (HQ4.out.below HC6.out) (HK.out.tabs.below HBW6.out)).mono ?_
        rintro e w7 ⟨rfl, hb7⟩
        have HC7 := Lib.hid (HC6.out.trans (hb7.mono HC6.out.size))
        have HB7 := Lib.hid (HB6.out.trans (hb7.mono HB6.out.size))
        have HBW7 := Lib.hid (HBW1.out.trans (HB7.out.mono HBW1.out.size))
        clear hb7 u60 u61
        go_wp2_with fail
        refine (PX.out _ (HK.out.below HBW7.out)).mono ?_
        rintro e w8 ⟨p8, c8, q8, d8, rfl, ht8, hq8, hb8⟩
        obtain ⟨V8, hV8⟩ : ∃ z, w8.heap.size = z := ⟨_, rfl⟩
        obtain ⟨W9, hW9⟩ : ∃ Z, w8.alloc (.cells #[.slice p8 m1 c8, .slice q8 m2 d8] 26) = Z := ⟨_, rfl⟩
        have hb9 : Below w8.heap.size w8 W9 := by rw [← hW9]; exact (Below.refl _ _).alloc (Nat.le_refl _) _
        have hv9 := two_cells (show W9.heap[V8]? = some (.cells #[.slice p8 m1 c8, .slice q8 m2 d8] 26 (0, 0)) by rw [← hW9, ← hV8]; exact World.alloc_heap_new _ _)
        have hv90 := hv9.1
        have hv91 := hv9.2
        have HC9 := Lib.hid (HC7.out.trans ((hb8.trans (hb9.mono hb8.size)).mono HC7.out.size))
        have HB9 := Lib.hid (HB7.out.trans ((hb8.trans (hb9.mono hb8.size)).mono HB7.out.size))
        have u90 := (two_cells ((HC9.out.block U (by rw [HUZ.out]; omega)).trans HU4.out)).1
        have u91 := (two_cells ((HC9.out.block U (by rw [HUZ.out]; omega)).trans HU4.out)).2
        have SM9 := Lib.hid (tg_Same (.slice p3 m1 c3) (.slice q3 m2 d3) (.slice p8 m1 c8) (.slice q8 m2 d8) P3 P3 Q3 Q3 W9 (HT4.out.below HC9.out) (HQ4.out.below HC9.out) (ht8.below hb9) (hq8.below hb9) (by have := HML.out; have := HM1.out; omega) (by have := HML.out; have := HM2.out; omega) (by have := HML.out; have := HM1.out; omega) (by have := HML.out; have := HM2.out; omega))
        rw [decide_eq_true (show P3 = P3 ∧ Q3 = Q3 from ⟨rfl, rfl⟩)] at SM9
        clear hb8 hb9 hv9 ht8 hq8
        go_wp2_with fail
        clear hW9 hV8
        refine (HN.out 0 _ (by omega)).mono ?_
        rintro e w10 ⟨rfl, hw10⟩
        subst hw10
        go_wp2_with fail
        refine (HN.out 0 _ (by omega)).mono ?_
        rintro e w11 ⟨rfl, hw11⟩
        subst hw11
        go_wp2_with fail
        refine SM9.out.mono ?_
        rintro e w12 ⟨rfl, hb12⟩
        have HB12 := Lib.hid (HB9.out.trans (hb12.mono HB9.out.size))
        clear hb12 u90 u91 hv90 hv91
        have HT2 := Lib.hid (HT1.out.below HB12.out)
        have HQ2 := Lib.hid (HQ1.out.below HB12.out)
        have hgx := two_cells ((HB12.out.block G (by rw [HZ1.out]; omega)).trans HG1.out)
        have gx0 := hgx.1
        have gx1 := hgx.2
        have RT := Lib.hid (fun W (h : TS W (.slice p1 n1 c1) P) => right_any (.slice p1 n1 c1) P W h (by have := HFW.out.path; omega) (fun p hp => by have := HFW.out.part p hp; omega) p2 n2 c2)
        clear hgx
        cases hr : Gt.right P with
        | false =>
          rw [hr] at RT
          clear hr
          go_wp2_with fail
          refine (RT.out _ HT2.out).mono ?_
          rintro e w20 ⟨rfl, hb20⟩
          have HB20 := Lib.hid (HBW1.out.trans ((HB12.out.trans (hb20.mono HB12.out.size)).mono HBW1.out.size))
          clear hb20 gx0 gx1
          go_wp2_with fail
          refine (WK.out _ (HK.out.below HB20.out)).mono ?_
          rintro e w21 ⟨rfl, hb21⟩
          have HB21 := Lib.hid (HB20.out.trans (hb21.mono HB20.out.size))
          clear hb21
          go_wp2_with fail
          go_ret
          exact ⟨rfl, HB21.out⟩
        | true =>
          rw [hr] at RT
          have TX := Lib.hid (fun W (a : TS W (.slice p1 n1 c1) P) (b : PS W (.slice p2 n2 c2) Q) (t : Tabs W) => tg_Text (.slice p1 n1 c1) (.slice p2 n2 c2) P Q W a b (by have := HFW.out.path; omega) (fun p hp => by have := HFW.out.part p hp; omega) (by have := HFW.out.query; omega) (fun q hq => by have := HFW.out.pair q hq; omega) t)
          have hpt := Gt.parse_text (Q := Q) hr
          unfold txtOut at TX
          rw [if_pos hr] at TX
          have hsz := Gt.few_text HFW.out
          have hsz2 := ba_size (Gt.text P Q)
          obtain ⟨x, hx⟩ : ∃ z : ByteArray, (⟨(Gt.text P Q).toArray⟩ : ByteArray) = z := ⟨_, rfl⟩
          have hxl : x.data.toList = Gt.text P Q := by rw [← hx]
          rw [hx] at TX hsz2
          have HXS := Lib.hid (show x.size ≤ 90000 by omega)
          have PY := Lib.hid (fun W (h : KX W) => parse_yes x P Q W HXS.out h (by rw [hxl]; exact hpt))
          rw [HN1.out, HN2.out] at PY
          clear hr hpt hsz hsz2 hx hxl
          go_wp2_with fail
          refine (RT.out _ HT2.out).mono ?_
          rintro e w20 ⟨rfl, hb20⟩
          have HBT := Lib.hid (HB12.out.trans (hb20.mono HB12.out.size))
          have HBU := Lib.hid (HBW1.out.trans (HBT.out.mono HBW1.out.size))
          have hgy := two_cells ((HBT.out.block G (by rw [HZ1.out]; omega)).trans HG1.out)
          have gy0 := hgy.1
          have gy1 := hgy.2
          clear hgy hb20 gx0 gx1
          go_wp2_with fail
          refine (TX.out _ (HT1.out.below HBT.out) (HQ1.out.below HBT.out) (HK.out.tabs.below HBU.out)).mono ?_
          rintro e w22 ⟨rfl, hb22⟩
          have HBV := Lib.hid (HBT.out.trans (hb22.mono HBT.out.size))
          have HBV' := Lib.hid (HBW1.out.trans (HBV.out.mono HBW1.out.size))
          clear hb22 gy0 gy1
          go_wp2_with fail
          refine (PY.out _ (HK.out.below HBV'.out)).mono ?_
          rintro e w23 ⟨p5, c5, q5, d5, rfl, ht5, hq5, hb23⟩
          obtain ⟨V, hV⟩ : ∃ z, w23.heap.size = z := ⟨_, rfl⟩
          obtain ⟨W6, hW6⟩ : ∃ Z, w23.alloc (.cells #[.slice p5 n1 c5, .slice q5 n2 d5] 26) = Z := ⟨_, rfl⟩
          have hb6 : Below w23.heap.size w23 W6 := by rw [← hW6]; exact (Below.refl _ _).alloc (Nat.le_refl _) _
          have hv6 := two_cells (show W6.heap[V]? = some (.cells #[.slice p5 n1 c5, .slice q5 n2 d5] 26 (0, 0)) by rw [← hW6, ← hV]; exact World.alloc_heap_new _ _)
          have hv60 := hv6.1
          have hv61 := hv6.2
          have HT6 := Lib.hid (ht5.below hb6)
          have HQ6 := Lib.hid (hq5.below hb6)
          have HBG := Lib.hid (HBV.out.trans ((hb23.trans (hb6.mono hb23.size)).mono HBV.out.size))
          have HBG' := Lib.hid (HBW1.out.trans (HBG.out.mono HBW1.out.size))
          have hgz := two_cells ((HBG.out.block G (by rw [HZ1.out]; omega)).trans HG1.out)
          have gz0 := hgz.1
          have gz1 := hgz.2
          have SM := Lib.hid (tg_Same (.slice p5 n1 c5) (.slice q5 n2 d5) (.slice p1 n1 c1) (.slice p2 n2 c2) P P Q Q W6 HT6.out HQ6.out (HT1.out.below HBG.out) (HQ1.out.below HBG.out) (by have := HFW.out.path; omega) (by have := HFW.out.query; omega) (by have := HFW.out.path; omega) (by have := HFW.out.query; omega))
          rw [decide_eq_true (show P = P ∧ Q = Q from ⟨rfl, rfl⟩)] at SM
          clear ht5 hq5 hb23 hb6 hv6 hgz
          go_wp2_with fail
          refine (HN.out 0 _ (by omega)).mono ?_
          rintro e w24 ⟨rfl, rfl⟩
          go_wp2_with fail
          refine (HN.out 0 _ (by omega)).mono ?_
          rintro e w25 ⟨rfl, rfl⟩
          clear hW6 hV
          go_wp2_with fail
          refine SM.out.mono ?_
          rintro e w26 ⟨rfl, hb26⟩
          have HB26 := Lib.hid (HBG'.out.trans (hb26.mono HBG'.out.size))
          clear hb26
          go_wp2_with fail
          refine (WK.out _ (HK.out.below HB26.out)).mono ?_
          rintro e w27 ⟨rfl, hb27⟩
          have HB27 := Lib.hid (HB26.out.trans (hb27.mono HB26.out.size))
          clear hb27
          go_wp2_with fail
          go_ret
          exact ⟨rfl, HB27.out⟩
    · go_wp2_with fail
      refine (WK.out _ (HK.out.below HBW2.out)).mono ?_
      rintro e w3 ⟨rfl, hb3⟩
      have HB3 := Lib.hid (HBW2.out.trans (hb3.mono HBW2.out.size))
      clear hb3
      go_wp2_with fail
      go_ret
      exact ⟨rfl, HB3.out⟩
end Go.Proofs.YtcfhenekoaegaaaGreatDoor

/- target.Path of parts. -/
namespace Go.Proofs.YtcfhenekoaegaaaGreatDoor
set_option linter.unusedVariables false
set_option linter.unusedSimpArgs false
open Go.RowKit Go.Shelf
set_option maxHeartbeats 8000000
set_option maxRecDepth 100000
theorem tg_madeO (f : FuncId) (g : List UInt8 → Option (List UInt8)) (v : Value) (L : List ByteArray) (w : World) (hv : SR w v L) (hL : L.length ≤ 100000)
    (hce : ∀ args W, (callFunc f args).run Tryz.prog W = .ok (.enter f args) W)
    (hf : ∀ s ∈ L, ∀ W, Calls Tryz.prog f #[.string s] W fun e w' => e = decEnd (g s.data.toList) ∧ Below W.heap.size W w') :
    Calls Tryz.prog 29 #[.func (.func f) #[] #[], v] w fun e w' =>
      ((∃ R r, Gt.all? g (L.map (·.data.toList)) = some R ∧ e = .returned r ∧ ∃ B, w'.ownsRow B 9 1 r R.length (R.map tx)) ∨ (Gt.all? g (L.map (·.data.toList)) = none ∧ e = .panicked [{ v := errno 210, recovered := false }])) ∧ Below w.heap.size w w' := by
  obtain ⟨i0, hi, hz0, hz1, hz2⟩ := info_parts (show (Tryz.prog.info? 9).map (fun i => (i.zero, i.size, i.bytes)) = some (some (.string ByteArray.empty), 1, 16) by kernel_rfl)
  obtain ⟨B, hB⟩ : ∃ B, w.heap.size = B := ⟨_, rfl⟩
  rw [hB]
  rcases hv with ⟨p0, c0, rfl, rfl⟩ | ⟨b, off, cap, rfl, hb, hc⟩
  · go_enter Tryz.func29, Tryz.ntmps29
    go_wp2_with fail
    go_loopw [4, 9] (fun v i wr => v = .slice none 0 0 ∧ i = .int .i64 0 ∧ wr = w) (fun _ _ _ => 0)
    case atStart => exact ⟨rfl, rfl, rfl⟩
    case round =>
      obtain ⟨rfl, rfl, rfl⟩ := hrel
      go_wp2_with fail
      go_ret
      exact ⟨.inl ⟨[], _, rfl, rfl, ⟨0, World.ownsRow_nil _ _ _ _⟩⟩, Below.refl _ _⟩
  · have HC := Lib.hid hc
    have HF := Lib.hid hf
    obtain ⟨N, hN⟩ : ∃ N, L.length = N := ⟨_, rfl⟩
    have HNL := Lib.hid hN
    have HBB := Lib.hid hb
    rw [hN] at hL ⊢
    obtain ⟨M, hM⟩ : ∃ M, L.map (·.data.toList) = M := ⟨_, rfl⟩
    rw [hM]
    have HML := Lib.hid (show M.length = N by rw [← hM, List.length_map, hN])
    have HM := Lib.hid hM
    clear hc hf hM hN hb
    go_enter Tryz.func29, Tryz.ntmps29
    go_wp2_with fail
    go_loopw [4, 9] (fun v i wr => ∃ (k : Nat) (acc : List (List UInt8)), k ≤ N ∧ i = .int .i64 k ∧ Gt.AAt g M acc k ∧ wr.ownsRow B 9 1 v acc.length (acc.map tx) ∧ Below B w wr)
      (fun _ i _ => N - (intOf i).toNat)
    case atStart => exact ⟨0, [], Nat.zero_le _, rfl, Gt.aAt_start _ _, World.ownsRow_nil _ _ _ _, Below.refl _ _⟩
    case round =>
      obtain ⟨k, acc, hk, rfl, hat, hown, hbl⟩ := hrel
      have HA := Lib.hid hat
      have HO := Lib.hid hown
      have HBL := Lib.hid hbl
      clear hat hown hbl
      by_cases hlt : k < N
      · have hkl : k < L.length := by have := HNL.out; omega
        have HBW := Lib.hid (show b < B by rw [← hB]; exact HBB.out)
        have hck : wr.cell? ⟨b, off + k, none⟩ = some (.string L[k]) := (HBL.out.cell (p := ⟨b, off + k, none⟩) HBW.out).trans (HC.out k hkl)
        obtain ⟨S, hS⟩ : ∃ S, L[k] = S := ⟨_, rfl⟩
        rw [hS] at hck
        have HKM := Lib.hid (show k < M.length by rw [HML.out]; exact hlt)
        have HMK := Lib.hid (show M[k]'HKM.out = S.data.toList by
          have : M[k]? = some S.data.toList := by rw [← HM.out, List.getElem?_map, List.getElem?_eq_getElem hkl, hS]; rfl
          exact (List.getElem?_eq_some_iff.1 this).2)
        have K := Lib.hid (HF.out S (by rw [← hS]; exact List.getElem_mem _) wr)
        clear hS hkl
        cases hg : g S.data.toList with
        | none =>
          rw [hg] at K
          have HN := Lib.hid (Gt.aAt_bad HA.out HKM.out (by rw [HMK.out]; exact hg))
          clear hg
          go_wp2_with fail
          refine K.out.mono ?_
          rintro e w2 ⟨rfl, hb2⟩
          exact ⟨rfl, .inr ⟨HN.out, rfl⟩, HBL.out.trans (hb2.mono (hB ▸ HBL.out.size))⟩
        | some q =>
          rw [hg] at K
          have HN := Lib.hid (Gt.aAt_next HA.out HKM.out (by rw [HMK.out]; exact hg))
          clear hg
          go_wp2_with fail
          refine K.out.mono ?_
          rintro e w2 ⟨rfl, hb2⟩
          have HB2 := Lib.hid (HBL.out.trans (hb2.mono (hB ▸ HBL.out.size)))
          have HO2 := Lib.hid (show w2.ownsRow B 9 1 _ acc.length (acc.map tx) from HO.out.belowed hb2)
          simp only [decEnd]
          obtain ⟨qb, hqb⟩ : ∃ z : ByteArray, (⟨q.toArray⟩ : ByteArray) = z := ⟨_, rfl⟩
          rw [hqb]
          have HTQ := Lib.hid (show tx q = .string qb by unfold tx; rw [hqb])
          clear hb2 hqb K
          go_wp2_with (at_builtin; refine wpList_append_own _ rfl _ _ 23 rfl B 9 i0 (.string ByteArray.empty) 1 16 Tryz.underlying23 hi hz0 hz1 hz2 rfl (by decide) _ _ _ rfl (HO2.out.alloc _) ⟨w2.heap.size, 0, none⟩ 1 1 [.string qb] rfl rfl ?c1 ?c2 ?c3 ?c4 ?c5 ?_)
          case c1 =>
            intro j u hj
            match j, hj with
            | 0, hj => simp at hj; subst hj; simp [Addr.add]
          case c2 => intro u hu; simp at hu; subst hu; rfl
          case c3 => have := HA.out.2.1; unfold maxLen; omega
          case c4 => have := HA.out.2.1; omega
          case c5 => have := HB2.out.size; simp; omega
          intro v' w3 hown' hgrow _
          have HB3 := Lib.hid (show Below B w w3 from Below.grown (HB2.out.alloc (by have := HB2.out.size; omega) _) hgrow (by have := HB2.out.size; simp; omega) (own_ge HO2.out))
          have HO3 := Lib.hid (show w3.ownsRow B 9 1 v' (acc ++ [q]).length ((acc ++ [q]).map tx) by
            rw [List.map_append, List.length_append]
            show w3.ownsRow B 9 1 v' _ (_ ++ [tx q])
            rw [HTQ.out]
            exact hown')
          clear hgrow hown'
          go_wp2
          go_roundw
          case rel => exact ⟨k + 1, acc ++ [q], hlt, by go_num, HN.out, HO3.out, HB3.out⟩
          case measure => simp [intOf]; omega
      · have HE := Lib.hid (Gt.aAt_end HA.out (by rw [HML.out]; omega))
        go_wp2_with fail
        go_ret
        exact ⟨.inl ⟨acc, _, HE.out, rfl, ⟨_, HO.out⟩⟩, HBL.out⟩
theorem tg_path1 (s : ByteArray) (w : World) (hs : s.size ≤ 100000) :
    Calls Tryz.prog 55 #[.string s] w fun e w' => e = decEnd (some (47 :: s.data.toList)) ∧ Below w.heap.size w w' := by
  have HQ := Lib.hid (show (⟨#[47]⟩ ++ s : ByteArray) = ⟨(47 :: s.data.toList).toArray⟩ from ba_of _ _ (by simp [ByteArray.data_append]))
  go_enter Tryz.func55, Tryz.ntmps55
  go_wp2_with fail
  go_ret
  refine ⟨?_, Below.refl _ _⟩
  show Ending.returned (.string (⟨#[47]⟩ ++ s)) = Ending.returned (.string ⟨(47 :: s.data.toList).toArray⟩)
  rw [HQ.out]
theorem path1_enter (args : Array Value) (W : World) : (callFunc 55 args).run Tryz.prog W = .ok (.enter 55 args) W := by
  simp [callFunc, go_sem, Tryz.func55]
  rw [if_neg (by decide), if_neg (by decide)]
namespace Gt
theorem join_none : ∀ L : List (List UInt8), Lib.join L [] = L.flatten
  | [] => rfl
  | [x] => by simp [Lib.join]
  | x :: y :: L => by
    have h := join_none (y :: L)
    unfold Lib.join at h ⊢
    rw [List.intercalate_cons_cons, h]; simp
theorem join_path (P : List (List UInt8)) : Lib.join (P.map fun p => 47 :: p) [] = jpath P := by
  rw [join_none]; unfold jpath; rw [List.flatMap_def]
theorem all_const {α β : Type} (f : α → β) : ∀ L : List α, all? (fun x => some (f x)) L = some (L.map f)
  | [] => rfl
  | x :: L => by unfold all?; simp [all_const f L]
end Gt
theorem join_path_own {w : World} {B : Nat} {v : Value} (L : List (List UInt8)) (h : w.ownsRow B 9 1 v L.length (L.map tx)) (hj : (Lib.join L []).length ≤ 140737488355328) (hl : L.length ≤ 100000) :
    Calls Tryz.prog 54 #[v, .string ⟨#[]⟩] w fun e w' => e = .returned (.string ⟨(Lib.join L []).toArray⟩) ∧ Below w.heap.size w w' := by
  cases L with
  | nil =>
    rcases h.2 with ⟨rfl, h0⟩ | ⟨g, cap, cur, rfl, hBg, hg, hnc, _, hcs, htk⟩
    · exact (Tryz.strings_Join_none none 0 ⟨#[]⟩ w).mono (fun e w' h => ⟨h.1, by rw [h.2]; exact Below.refl _ _⟩)
    · exact (Tryz.strings_Join_none _ _ ⟨#[]⟩ w).mono (fun e w' h => ⟨h.1, by rw [h.2]; exact Below.refl _ _⟩)
  | cons x L' =>
    obtain ⟨L, hL⟩ : ∃ L, x :: L' = L := ⟨_, rfl⟩
    have hp : 0 < L.length := by rw [← hL]; simp
    rw [hL] at h hj hl ⊢
    rcases h.2 with ⟨rfl, h0⟩ | ⟨g, cap, cur, rfl, hBg, hg, hnc, _, hcs, htk⟩
    · omega
    · have hlt : g < w.heap.size := (Array.getElem?_eq_some_iff.1 hg).1
      have hm : (L.map fun l => (⟨l.toArray⟩ : ByteArray)).map (·.data.toList) = L := by
        rw [List.map_map]
        conv => rhs; rw [← List.map_id L]
        refine List.map_congr_left (fun l _ => ?_)
        simp
      have K := Tryz.strings_Join g 0 cap (L.map fun l => (⟨l.toArray⟩ : ByteArray)) ⟨#[]⟩ w (fun j x hx => by
        rw [List.getElem?_map] at hx
        cases hLj : L[j]? with
        | none => rw [hLj] at hx; cases hx
        | some l =>
          rw [hLj] at hx
          cases hx
          have hjl : j < L.length := (List.getElem?_eq_some_iff.1 hLj).1
          have h1 : cur.toList[j]? = some (tx l) := by
            have h2 : (cur.toList.take (L.length * 1))[j]? = some (tx l) := by rw [htk, List.getElem?_map, hLj]; rfl
            rwa [List.getElem?_take_of_lt (by omega)] at h2
          rw [Nat.zero_add]
          simp only [World.cell?, hg, Option.isSome_none, Bool.false_eq_true, if_false]
          rw [Array.getElem?_toList] at h1
          exact h1) hlt (by rw [List.length_map]; omega) (by rw [List.length_map]; exact hnc) (by rw [hm]; exact hj)
      rw [hm, List.length_map] at K
      exact K
theorem tg_Path (v1 : Value) (P : List (List UInt8)) (w : World) (h1 : TS w v1 P) (hP : P.length ≤ 300) (hs : ∀ p ∈ P, p.length ≤ 300) (p2 : Option Addr) (n2 c2 : Nat) :
    Calls Tryz.prog 20 #[.agg #[v1, .slice p2 n2 c2]] w fun e w' => e = .returned (.string ⟨(Gt.jpath P).toArray⟩) ∧ Below w.heap.size w w' := by
  obtain ⟨p1, c1, rfl⟩ := h1.slice
  obtain ⟨n1, hn1⟩ : ∃ n, P.length = n := ⟨_, rfl⟩
  have hJL : (Gt.jpath P).length ≤ 140737488355328 := by
    have h1 := Gt.jpath_len P hs
    have h3 := Nat.mul_le_mul_right 301 hP
    omega
  obtain ⟨W1, hW1⟩ : ∃ Z, w.alloc (.cells #[.slice p1 n1 c1, .slice p2 n2 c2] 26) = Z := ⟨_, rfl⟩
  have hb1 : Below w.heap.size w W1 := by rw [← hW1]; exact (Below.refl _ _).alloc (Nat.le_refl _) _
  have KM := tg_madeO 55 (fun l => some (47 :: l)) _ _ W1 (h1.below hb1).sr (by simp; omega) path1_enter (fun s hs' W => tg_path1 s W (by
    obtain ⟨p, hp, rfl⟩ := List.mem_map.1 hs'
    have := hs p hp
    simp [ByteArray.size]; omega))
  rw [Gt.all_const, List.map_map, List.map_map, show ((List.cons 47 ∘ fun x : ByteArray => x.data.toList) ∘ fun l : List UInt8 => (⟨l.toArray⟩ : ByteArray)) = (fun p => 47 :: p) from by funext l; simp, hn1] at KM
  rw [hn1] at h1 ⊢
  have hA : W1.heap[w.heap.size]? = some (.cells #[.slice p1 n1 c1, .slice p2 n2 c2] 26 (0, 0)) := by
    rw [← hW1]; exact World.alloc_heap_new _ _
  have a0 : W1.cell? ⟨w.heap.size, 0, none⟩ = some (.slice p1 n1 c1) := by simp [World.cell?, hA]
  have HB := Lib.hid hb1
  have HK := Lib.hid KM
  have HW := Lib.hid hW1
  have HN1 := Lib.hid hn1
  have HJL := Lib.hid hJL
  clear h1 hb1 KM hA hW1 hs hn1 hJL
  go_enter Tryz.func20, Tryz.ntmps20
  go_wp2_with fail
  rw [HW.out]
  refine HK.out.mono ?_
  rintro e w2 ⟨⟨R, r, hR, rfl, hrow⟩ | ⟨hR, _⟩, hb2⟩
  · cases hR
    obtain ⟨B, hrow⟩ := hrow
    have KJ := Lib.hid (join_path_own _ hrow (by rw [Gt.join_path]; exact HJL.out) (by have := HN1.out; rw [List.length_map]; omega))
    have HB2 := Lib.hid (HB.out.trans (hb2.mono HB.out.size))
    obtain ⟨pr, cr, hr⟩ := own_slice hrow
    rw [List.length_map, HN1.out] at hr
    subst hr
    rw [Gt.join_path] at KJ
    clear hrow hb2 a0
    go_wp2_with fail
    refine KJ.out.mono ?_
    rintro e w3 ⟨rfl, hb3⟩
    have HB3 := Lib.hid (HB2.out.trans (hb3.mono HB2.out.size))
    clear hb3
    go_wp2_with fail
    go_ret
    exact ⟨rfl, HB3.out⟩
  · cases hR
end Go.Proofs.YtcfhenekoaegaaaGreatDoor

/- target.Get: the value of a key. -/
namespace Go.Proofs.YtcfhenekoaegaaaGreatDoor
set_option linter.unusedVariables false
set_option linter.unusedSimpArgs false
open Go.RowKit Go.Shelf
attribute [local go_sem] Oper.semAt_some
set_option maxHeartbeats 8000000
set_option maxRecDepth 100000
theorem ba_inj {a b : ByteArray} (h : a.toList = b.toList) : a = b := by
  rw [ByteArray.toList_eq, ByteArray.toList_eq] at h
  exact ByteArray.ext (Array.ext' (by simpa using h))
/-- a block as it lies, or none -/
def PB (o : Option (Nat × Obj)) (X : World) : Prop := match o with
  | none => True
  | some (g, ob) => X.heap[g]? = some ob ∧ ob.isCells = true
def PB.at (o : Option (Nat × Obj)) (E : Nat) : Nat := match o with
  | none => E
  | some (g, _) => g
theorem PB.keep {o : Option (Nat × Obj)} {X Y : World} {E : Nat} (h : PB o X) (k : Y.heap[PB.at o E]? = X.heap[PB.at o E]?) : PB o Y := by
  cases o with
  | none => trivial
  | some p => exact ⟨k.trans h.1, h.2⟩
theorem PB.turn {o : Option (Nat × Obj)} {X Y : World} {E : Nat} (h : PB o X) (ht : Turn E (fun _ => False) X Y) : PB o Y := by
  cases o with
  | none => trivial
  | some p => exact ⟨ht.cells h.1 h.2 (fun h => h), h.2⟩
theorem PB.put {o : Option (Nat × Obj)} {X : World} {l : Nat} {ob o' : Obj} (h : PB o X) (hl : X.heap[l]? = some ob) (hc : ob.isCells = false) : PB o (X.putObj l o') := by
  cases o with
  | none => trivial
  | some p =>
    refine ⟨(World.putObj_heap_other (fun e => ?_)).trans h.1, h.2⟩
    have h3 : X.heap[l]? = some p.2 := e ▸ h.1
    rw [hl] at h3
    cases h3
    have h4 : p.2.isCells = true := h.2
    rw [hc] at h4
    cases h4
theorem PB.below {o : Option (Nat × Obj)} {X Y : World} (h : PB o X) (hb : Below X.heap.size X Y) : PB o Y := by
  cases o with
  | none => trivial
  | some p => exact ⟨(hb.block _ (Array.getElem?_eq_some_iff.1 h.1).1).trans h.1, h.2⟩
theorem PB.of {B : Nat} {r : Value} {Q : List (List UInt8 × List UInt8)} {w : World} (h : w.ownsRow B 47 2 r Q.length (prs Q)) :
    ∃ o, PB o w ∧ (∀ X, PB o X → PS X r Q) ∧ (∀ E, PB.at o E = E ∨ (B ≤ PB.at o E ∧ PB.at o E < w.heap.size)) := by
  rcases h.2 with ⟨rfl, h0⟩ | ⟨g, cap, cur, rfl, hBg, hg, hnc, hz, hcs, htk⟩
  · exact ⟨none, trivial, fun X _ => .inl ⟨rfl, List.length_eq_zero_iff.1 h0⟩, fun E => .inl rfl⟩
  · refine ⟨some (g, _), ⟨hg, rfl⟩, fun X hX => PS.of ⟨B, h.1, .inr ⟨g, cap, cur, rfl, hBg, hX.1, hnc, hz, hcs, htk⟩⟩, fun E => .inr ⟨hBg, (Array.getElem?_eq_some_iff.1 hg).1⟩⟩
theorem pair_iter {Q : List (List UInt8 × List UInt8)} {v : Value} {o : Option (Nat × Obj)} {C E : Nat} {X : World} (hE : X.heap.size = E) (hC : Boxed X C 24 v) (hP : PB o X) (hS : ∀ X, PB o X → PS X v Q) (hl : Q.length ≤ 100000) (m : Nat) :
    IterAt Fence.wide m Tryz.prog 57 #[.pointer (some ⟨C, 0, none⟩)] (fun k => #[tx (Q.getD k ([], [])).1, tx (Q.getD k ([], [])).2]) Q.length (fun _ => False) (Keep (fun b => b = PB.at o E ∨ b = E)) X :=
  (pairs1_it v Q C E (Keep (fun b => b = PB.at o E ∨ b = E)) (PB o) hl X hE hS (fun X Y h s => s.keep (E := E) (h _ (.inl rfl))) (fun X Y h s => s.turn h)
    (fun X l ob o' h1 h2 s => s.put h1 h2) (fun X Y u h b => (h E (.inr rfl)).trans b) hC hP).any _
/-- what stays through a turn of Get -/
structure GB (w W : World) (kb : ByteArray) (B : Nat) (o : Option (Nat × Obj)) : Prop where
  hb : Below w.heap.size w W
  hB : w.heap.size = B
  key : Boxed W (B + 1) 9 (.string kb)
  val : Boxed W (B + 2) 9 (.string ⟨#[]⟩)
  is : Boxed W (B + 3) 4 (.bool false)
  row : PB o W
theorem GB.turn {w W W' : World} {kb : ByteArray} {B E : Nat} {o : Option (Nat × Obj)} (h : GB w W kb B o) (ht : Turn E (fun _ => False) W W') (hE : B ≤ E) : GB w W' kb B o :=
  ⟨h.hb.trans (ht.below (by have := h.hB; omega) h.hb.size (fun b hb => hb.elim)), h.hB, ht.boxed h.key (fun h => h), ht.boxed h.val (fun h => h), ht.boxed h.is (fun h => h), h.row.turn ht⟩
def getOut (Q : List (List UInt8 × List UInt8)) (k : Nat) : Value := if k < Q.length then .tuple #[tx (Q.getD k ([], [])).2, .bool true] else .tuple #[.string ⟨#[]⟩, .bool false]
theorem tg_Get (v1 v2 : Value) (P : List (List UInt8)) (Q : List (List UInt8 × List UInt8)) (kb : ByteArray) (k : Nat) (w : World) (h1 : TS w v1 P) (h2 : PS w v2 Q) (hl : Q.length ≤ 100000)
    (hk : k ≤ Q.length) (hno : ∀ j, j < k → tx (Q.getD j ([], [])).1 ≠ .string kb) (hyes : k < Q.length → tx (Q.getD k ([], [])).1 = .string kb) :
    Calls Tryz.prog 22 #[.agg #[v1, v2], .string kb] w fun e w' => e = .returned (getOut Q k) ∧ Below w.heap.size w w' := by
  obtain ⟨p1, c1, rfl⟩ := h1.slice
  obtain ⟨p2, c2, rfl⟩ := h2.slice
  obtain ⟨N, hN⟩ : ∃ n, Q.length = n := ⟨_, rfl⟩
  have hlN := hl
  rw [hN] at hlN
  obtain ⟨n1, hn1⟩ : ∃ n, P.length = n := ⟨_, rfl⟩
  obtain ⟨B, hB⟩ : ∃ B, w.heap.size = B := ⟨_, rfl⟩
  obtain ⟨W1, hW1⟩ : ∃ W1, (((w.alloc (.cells #[.slice p1 n1 c1, .slice p2 N c2] 26)).alloc (.cells #[.string kb] 9)).alloc (.cells #[.string ⟨#[]⟩] 9)).alloc (.cells #[.bool false] 4) = W1 := ⟨_, rfl⟩
  have e1 : Below w.heap.size w W1 ∧ W1.heap.size = B + 4 ∧ W1.heap[B]? = some (.cells #[.slice p1 n1 c1, .slice p2 N c2] 26 (0, 0)) ∧ Boxed W1 (B + 1) 9 (.string kb) ∧ Boxed W1 (B + 2) 9 (.string ⟨#[]⟩) ∧ Boxed W1 (B + 3) 4 (.bool false) := by
    subst hW1
    have b0 := World.alloc_heap_new w (.cells #[.slice p1 n1 c1, .slice p2 N c2] 26)
    have b1 := Boxed.new (w.alloc (.cells #[.slice p1 n1 c1, .slice p2 N c2] 26)) 9 (.string kb)
    have b2 := Boxed.new ((w.alloc (.cells #[.slice p1 n1 c1, .slice p2 N c2] 26)).alloc (.cells #[.string kb] 9)) 9 (.string ⟨#[]⟩)
    have b3 := Boxed.new (((w.alloc (.cells #[.slice p1 n1 c1, .slice p2 N c2] 26)).alloc (.cells #[.string kb] 9)).alloc (.cells #[.string ⟨#[]⟩] 9)) 4 (.bool false)
    simp only [World.size_alloc, hB] at b0 b1 b2 b3
    exact ⟨(((((Below.refl _ w).alloc (Nat.le_refl _) _).alloc (by simp) _).alloc (by simp; omega) _).alloc (by simp; omega) _), by simp [hB],
      (Below.heap_alloc _ _ _ (by simp; omega)).trans ((Below.heap_alloc _ _ _ (by simp; omega)).trans ((Below.heap_alloc _ _ _ (by simp; omega)).trans b0)), (b1.alloc _).alloc _, b2.alloc _, b3⟩
  obtain ⟨eb, ez, et, ek, ev, ei⟩ := e1
  have KP := Lib.hid (tg_Pairs (.slice p1 n1 c1) (.slice p2 N c2) Q W1 ⟨_, _, _, rfl⟩ ((by rw [hN] at h2; exact h2 : PS w (.slice p2 N c2) Q).below eb) hl)
  have HE1 := Lib.hid (And.intro eb (And.intro ek (And.intro ev ei)))
  have HZ1 := Lib.hid ez
  have HBB := Lib.hid hB
  have HW1 := Lib.hid hW1
  have HNO := Lib.hid hno
  have HY := Lib.hid hyes
  have HNN := Lib.hid hN
  have HK := Lib.hid (show k ≤ N by rw [← hN]; exact hk)
  obtain ⟨t0, t1⟩ := two_cells et
  rw [hn1, hN]
  clear h1 h2 hB hW1 hno hyes hk eb ez et ek ev ei hn1 hN
  refine callsIn_wide.1 (callsIn_of_wp_marks (F := Fence.wide) (n := 9) Tryz.func22 rfl trivial ?_ rfl)
  simp only [Tryz.ntmps22, List.size_toArray, List.length_cons, List.length_nil, Nat.reduceAdd, Nat.reduceSub, Array.replicate_succ, Array.replicate_zero, List.push_toArray, List.append_toArray, List.nil_append, List.cons_append]
  gi_wp2_with fail
  rw [HW1.out, HBB.out, show B + 1 + 1 + 1 = B + 3 from rfl, show B + 1 + 1 = B + 2 from rfl]
  refine ⟨trivial, (callsIn_wide.2 KP.out).mono ?_⟩
  rintro e V ⟨C, r, rfl, hbC, hrow, hCB, hbV⟩
  obtain ⟨o, po, hpo, hat⟩ := PB.of hrow
  rw [HZ1.out] at hCB hbV hat
  have EV : GB w V kb B o := by
    obtain ⟨g1, g2, g3, g4⟩ := HE1.out
    exact ⟨g1.trans (hbV.mono (by rw [HBB.out]; omega)), HBB.out, (hbV.block _ (by omega)).trans g2, (hbV.block _ (by omega)).trans g3, (hbV.block _ (by omega)).trans g4, po⟩
  obtain ⟨E, hE⟩ : ∃ E, V.heap.size = E := ⟨_, rfl⟩
  have hBE : B + 4 ≤ E := by rw [← hE]; have := hbV.size; rw [HZ1.out] at this; exact this
  have hatE := hat (E + 2)
  rw [hE] at hatE
  clear hrow hat hbV t0 t1
  gi_wp2_with fail
  refine rf_outer (N := N) (own := fun _ => False) (Kp := Keep (fun b => b = PB.at o (E + 2) ∨ b = E + 2)) (encs := fun k => #[tx (Q.getD k ([], [])).1, tx (Q.getD k ([], [])).2]) rfl (by omega) (gf := 57) (lb := #[.pointer (some ⟨C, 0, none⟩)]) rfl trivial (enters_of Tryz.func57 (by kernel_rfl) rfl)
    (fun _ => rfl) (fun b hb => hb.elim)
    (fun X hX hs => by
      have := pair_iter (E := E + 2) (o := o) (by omega) ((hX.block _ hbC.lt).trans hbC) (EV.row.below hX) hpo hl (9 - 1)
      rwa [HNN.out] at this)
    Keep.trans (fun X ob o' h2 h3 => Keep.putObj _ _ _ (by omega))
    (fun j X => GB w X kb B o ∧ j ≤ k) (fun c X => c = .ret ∧ k < N ∧ Below w.heap.size w X ∧ Boxed X (B + 2) 9 (tx (Q.getD k ([], [])).2) ∧ Boxed X (B + 3) 4 (.bool true))
    (fun j X Y hs ht => ⟨hs.1.turn ht (by omega), hs.2⟩)
    (fun c X Y hs ht => ⟨hs.1, hs.2.1, hs.2.2.1.trans (ht.below (by have := HBB.out; omega) hs.2.2.1.size (fun b hb => hb.elim)), ht.boxed hs.2.2.2.1 (fun h => h), ht.boxed hs.2.2.2.2 (fun h => h)⟩)
    ⟨EV, Nat.zero_le _⟩
    (fun j b _ => b = { tmps := #[.agg #[.slice p1 n1 c1, .slice p2 N c2], .string kb, .pointer (some ⟨B, 0, none⟩), .pointer (some ⟨B + 1, 0, none⟩), .pointer (some ⟨B + 2, 0, none⟩), .pointer (some ⟨B + 3, 0, none⟩), tx (Q.getD j ([], [])).1, tx (Q.getD j ([], [])).2, .agg #[.slice p1 n1 c1, .slice p2 N c2], .func (.func 57) #[] #[.pointer (some ⟨C, 0, none⟩)], tx (Q.getD j ([], [])).1, tx (Q.getD j ([], [])).2, undef, undef, undef, undef], defers := [] })
    (fun _ _ _ _ hs _ => hs) ?assign ?body ?done ?stop
  case assign =>
    intro l' j X K hj hi hK
    gi_wp2
    exact hK _ _ (KeepsFrom.refl _ _) (fun _ _ => rfl) hi rfl
  case body =>
    rintro l' j b X hl' ⟨rc, hr⟩ hj ⟨EX, hjk⟩ rfl
    have ck := EX.key.cell
    have cv := EX.val.cell
    have ci := EX.is.cell
    have fv := EX.val.frozen
    have fi := EX.is.frozen
    obtain ⟨ab, hab⟩ : ∃ z : ByteArray, tx (Q.getD j ([], [])).1 = .string z := ⟨_, rfl⟩
    obtain ⟨bb, hbb⟩ : ∃ z : ByteArray, tx (Q.getD j ([], [])).2 = .string z := ⟨_, rfl⟩
    rw [hab, hbb]
    have HEX := Lib.hid EX
    have HAB := Lib.hid hab
    have HBQ := Lib.hid hbb
    clear EX hab hbb
    by_cases hjk2 : j = k
    · have he : ab = kb := by
        have h := HY.out (by rw [HNN.out]; omega)
        rw [← hjk2, HAB.out] at h
        cases h; rfl
      subst he
      gi_wp2
      have b2 := HEX.out.val.set (.string bb)
      have hEB : V.heap.size = E := hE
      refine ⟨⟨by simp, fun i ob hi h1 h2 => (Below.heap_setCell _ _ _ _ (by show i ≠ B + 3; omega)).trans ((Below.heap_setCell _ _ _ _ (by show i ≠ B + 2; omega)).trans h1)⟩, rfl, by omega, ?_, ?_, ?_⟩
      · exact (HEX.out.hb.setCell (p := ⟨B + 2, 0, none⟩) (by have := HBB.out; show w.heap.size ≤ B + 2; omega) _).setCell (p := ⟨B + 3, 0, none⟩) (by have := HBB.out; show w.heap.size ≤ B + 3; omega) _
      · rw [← hjk2, HBQ.out]; exact b2.other (by omega) _
      · exact (HEX.out.is.other (by omega) _).set _
    · have hne : ab ≠ kb := fun e => HNO.out j (by omega) (by rw [HAB.out, e])
      have hbq : (ab.toList == kb.toList) = false := beq_eq_false_iff_ne.2 (fun e => hne (ba_inj e))
      gi_wp2
      exact ⟨KeepsFrom.refl _ _, fun _ _ => rfl, HEX.out, by omega⟩
  case done =>
    rintro D X hD ⟨EX, hjk⟩ hK
    have ck := EX.key.cell
    have cv := EX.val.cell
    have ci := EX.is.cell
    have fv := EX.val.frozen
    have fi := EX.is.frozen
    have HEX := Lib.hid EX
    have HKD := Lib.hid hK
    clear EX hK
    gi_wp2
    have hBD : B + 4 ≤ D := by omega
    have L9 : ((X.setCell ⟨B + 2, 0, none⟩ (.string ⟨#[]⟩)).setCell ⟨B + 3, 0, none⟩ (.bool false)).heap[D]? = some (.deferred (some [])) := (Below.heap_setCell _ _ _ _ (by show D ≠ B + 3; omega)).trans ((Below.heap_setCell _ _ _ _ (by show D ≠ B + 2; omega)).trans HKD.out)
    refine ⟨by simp, .inl ⟨_, _, rfl, run_takeDeferred L9, ?_⟩⟩
    have c2 := (show Boxed (((X.setCell ⟨B + 2, 0, none⟩ (.string ⟨#[]⟩)).setCell ⟨B + 3, 0, none⟩ (.bool false)).putObj D (.deferred none)) (B + 2) 9 (.string ⟨#[]⟩) from (World.putObj_heap_other (by omega)).trans ((HEX.out.val.set _).other (by omega) _)).cell
    have c3 := (show Boxed (((X.setCell ⟨B + 2, 0, none⟩ (.string ⟨#[]⟩)).setCell ⟨B + 3, 0, none⟩ (.bool false)).putObj D (.deferred none)) (B + 3) 4 (.bool false) from (World.putObj_heap_other (by omega)).trans ((HEX.out.is.other (by omega) _).set _)).cell
    refine ⟨.tuple #[.string ⟨#[]⟩, .bool false], ?_, ?_, ?_⟩
    · simp [results, Tryz.results22, go_sem, c2, c3]
    · unfold getOut; rw [if_neg (by rw [HNN.out]; omega)]
    · have hw := HBB.out
      exact ((HEX.out.hb.setCell (p := ⟨B + 2, 0, none⟩) (by show w.heap.size ≤ B + 2; omega) _).setCell (p := ⟨B + 3, 0, none⟩) (by show w.heap.size ≤ B + 3; omega) _).trans (belowK_b (w := w) (Nat.le_refl _) _ D _ _ (by omega) L9 rfl rfl)
  case stop =>
    rintro D c X hD ⟨rfl, hkn, hb, b2, b3⟩ hK
    obtain ⟨bb, hbb⟩ : ∃ z : ByteArray, tx (Q.getD k ([], [])).2 = .string z := ⟨_, rfl⟩
    rw [hbb] at b2
    have HBQ := Lib.hid hbb
    have Hb := Lib.hid hb
    have HKD := Lib.hid hK
    have Hb2 := Lib.hid b2
    have Hb3 := Lib.hid b3
    clear hb b2 b3 hK hbb
    gi_wp2
    refine ⟨by simp, .inl ⟨_, _, rfl, run_takeDeferred HKD.out, ?_⟩⟩
    have hBD : B + 4 ≤ D := by omega
    have c2 := (show Boxed (X.putObj D (.deferred none)) (B + 2) 9 (.string bb) from (World.putObj_heap_other (by omega)).trans Hb2.out).cell
    have c3 := (show Boxed (X.putObj D (.deferred none)) (B + 3) 4 (.bool true) from (World.putObj_heap_other (by omega)).trans Hb3.out).cell
    refine ⟨.tuple #[.string bb, .bool true], ?_, ?_, ?_⟩
    · simp [results, Tryz.results22, go_sem, c2, c3]
    · unfold getOut; rw [if_pos (by rw [HNN.out]; omega), HBQ.out]
    · have hw := HBB.out
      exact Hb.out.trans (belowK_b (w := w) (Nat.le_refl _) _ D _ _ (by omega) HKD.out rfl rfl)
end Go.Proofs.YtcfhenekoaegaaaGreatDoor

/- A region that draws its order and has guarded operations: by what its slots hold; which operations stand is decided ahead; a guard may hang on an operation that does not stand. -/
namespace Go.Proofs.YtcfhenekoaegaaaGreatDoor
set_option linter.unusedVariables false
set_option linter.unusedSimpArgs false
open Go.RowKit
set_option maxHeartbeats 2000000
section
variable {P : Program} {ops : Array Oper} {Q : Exit → Act → World → Prop}
theorem region_slotsH {id : Nat} {a0 : Act} {w0 : World} (slot : Nat → Nat) (F : Nat → World → Value → Prop) (sel : Nat → Bool) (hm : P.follows .mixedOrders = true) (hb : backG .any ops = true)
    (hs : ∀ i, slot i < a0.tmps.size) (hinj : ∀ i j, i < ops.size → j < ops.size → slot i = slot j → i = j) (hF : ∀ i w w' v, F i w v → Below w.heap.size w w' → F i w' v)
    (hdst : ∀ i o, ops[i]? = some o → o.dst = some (slot i))
    (hgu : ∀ i o g b, ops[i]? = some o → o.guard = some (g, b) → ∀ w v, F g w v → v = .bool (if sel i then b else !b) ∨ (sel i = false ∧ v = undef))
    (hng : ∀ i o, ops[i]? = some o → o.guard = none → sel i = true)
    (hskip : ∀ i w, i < ops.size → sel i = false → F i w undef)
    (hstep : ∀ (f : Nat → Bool) (a : Act) (w : World) (i : Nat) (o : Oper), ops[i]? = some o → sel i = true → (∀ e ∈ o.after, Region.binds .any e = true → F e.on w (a.tmps.getD (slot e.on) undef)) → Below w0.heap.size w0 w →
      (∀ j, (∀ i, i < ops.size → slot i ≠ j) → a.tmps.getD j undef = a0.tmps.getD j undef) → o.wp P a w (fun a' w' => ∃ v, a' = a.put o.dst v ∧ F i w' v ∧ Below w.heap.size w w') Q)
    (hdone : ∀ (vs : Nat → Value) (w : World), Below w0.heap.size w0 w → (∀ i, i < ops.size → F i w (vs i)) → Q .normal { a0 with tmps := fillN slot vs ops.size a0.tmps } w) : (Code.region id ops true).wp P Q a0 w0 := by
  refine region_invG hm hb (Stand a0 w0 ops.size slot F) ⟨rfl, rfl, fun _ _ => rfl, ⟨rfl, rfl, rfl, Nat.le_refl _, fun _ _ => rfl⟩, fun _ _ h => by cases h⟩ ?_ ?_
  · intro f a w i o ho hf hpre hI
    have hi := (Array.getElem?_eq_some_iff.1 ho).1
    have hsl : slot i < a.tmps.size := by rw [hI.size]; exact hs i
    have hput : ∀ w' v, F i w' v → Below w.heap.size w w' → Stand a0 w0 ops.size slot F (fun j => if j = i then true else f j) (a.put o.dst v) w' := by
      intro w' v hv hbw
      rw [hdst i o ho]
      refine ⟨hI.defers, by rw [← hI.size]; exact Array.size_setIfInBounds .., fun j hj => ?_, hI.bel.trans (hbw.mono hI.bel.size), fun j hj hfj => ?_⟩
      · show (a.tmps.setIfInBounds (slot i) v).getD j undef = _
        rw [getD_set _ _ _ _ hsl, if_neg (Ne.symm (hj i hi))]
        exact hI.rest j hj
      · show F j w' ((a.tmps.setIfInBounds (slot i) v).getD (slot j) undef)
        rw [getD_set _ _ _ _ hsl]
        by_cases hji : j = i
        · subst hji; rw [if_pos rfl]; exact hv
        · rw [if_neg (fun e => hji (hinj j i hj hi e))]
          have h2 : f j = true := by simpa [hji] using hfj
          exact hF j w w' _ (hI.have_ j hj h2) hbw
    have hwant : Region.wanted o (yielded ops a.tmps) = sel i := by
      unfold Region.wanted
      cases hg : o.guard with
      | none => exact (hng i o ho hg).symm
      | some gb =>
        obtain ⟨g, b⟩ := gb
        obtain ⟨e, he, heg, hbd⟩ := (back_ofG hb ho).1 g b hg
        have hgi : g < i := by rw [← heg]; exact (back_ofG hb ho).2 e he hbd
        have hfg : f g = true := by rw [← heg]; exact hpre e he hbd
        have hv := hgu i o g b ho hg w _ (hI.have_ g (by omega) hfg)
        have hsg : slot g < a.tmps.size := by rw [hI.size]; exact hs g
        have hy : yielded ops a.tmps g = (match a.tmps.getD (slot g) undef with | .bool x => some x | _ => none) := by
          unfold yielded
          rw [Array.getElem?_eq_getElem (show g < ops.size by omega), Option.bind_some, hdst g _ (Array.getElem?_eq_getElem (by omega)), Option.bind_some, Array.getElem?_eq_getElem hsg]
          rw [Array.getD_eq_getD_getElem?, Array.getElem?_eq_getElem hsg, Option.getD_some]
          cases a.tmps[slot g] <;> rfl
        show (yielded ops a.tmps g == some b) = sel i
        rw [hy]
        rcases hv with hv | ⟨hsi, hv⟩
        · rw [hv]
          cases sel i <;> cases b <;> rfl
        · rw [hv, hsi]; rfl
    rw [hwant]
    cases hsel : sel i with
    | true =>
      rw [if_pos rfl]
      refine Oper.wp_mono ?_ (hstep f a w i o ho hsel (fun e he hbd => hI.have_ e.on (by have := (back_ofG hb ho).2 e he hbd; omega) (hpre e he hbd)) hI.bel hI.rest)
      rintro a' w' ⟨v, rfl, hv, hbw⟩
      exact hput w' v hv hbw
    | false =>
      rw [if_neg (by decide)]
      exact hput w undef (hskip i w hi hsel) (Below.refl _ _)
  · intro f a w hall hI
    have e : a = { a0 with tmps := fillN slot (fun i => a.tmps.getD (slot i) undef) ops.size a0.tmps } := by
      have h1 : a.tmps = fillN slot (fun i => a.tmps.getD (slot i) undef) ops.size a0.tmps := by
        refine ext_getD (by rw [fillN_size, hI.size]) (fun j => ?_)
        by_cases hj : ∃ i, i < ops.size ∧ slot i = j
        · obtain ⟨i, hi, rfl⟩ := hj
          rw [fillN_at slot _ _ hs _ hinj i hi]
        · rw [fillN_get slot _ _ hs _ j (fun i hi e => hj ⟨i, hi, e⟩), hI.rest j (fun i hi e => hj ⟨i, hi, e⟩)]
      obtain ⟨t, d⟩ := a
      have h2 := hI.defers
      simp only at h1 h2
      rw [← h1, h2]
    rw [e]
    exact hdone _ w hI.bel (fun i hi => hI.have_ i hi (hall i hi))
end
end Go.Proofs.YtcfhenekoaegaaaGreatDoor
