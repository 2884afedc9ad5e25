/- A list's items, the program's: those of the text Ti. -/
import Derived.Test.YtlefgkiembokeaaDoorTw6
namespace Go.Proofs.YtlefgkiembokeaaDoor
set_option linter.unusedVariables false
set_option linter.unusedSimpArgs false
open Go.RowKit Go.Shelf
set_option maxHeartbeats 1000000
/-- internal/bytealg.MaxLen holds some integer -/
def ML (w : World) : Prop := ∃ m, w.cell? ⟨2, 0, none⟩ = some (.int .i64 m)
theorem ML.below {w w' : World} (h : ML w) (hb : Below w.heap.size w w') : ML w' := let ⟨m, hm⟩ := h; ⟨m, cell_below hb hm⟩
/-- the row of the parts, of which the first k are trimmed -/
def trF (P : List (List UInt8)) (k j : Nat) : List UInt8 := if j < k then Tp.trim (P.getD j []) else P.getD j []
def TrRow (w : World) (B : Nat) (P : List (List UInt8)) (k : Nat) : Prop := ∀ j, j < P.length → w.cell? ⟨B, j, none⟩ = some (tx (trF P k j)) ∧ w.frozen? ⟨B, j, none⟩ = false
theorem trRow_below {w w' : World} {B : Nat} {P : List (List UInt8)} {k : Nat} (h : TrRow w B P k) (hb : Below w.heap.size w w') (hB : B < w.heap.size) : TrRow w' B P k :=
  fun j hj => ⟨cell_below hb (h j hj).1, (hb.frozen (p := ⟨B, j, none⟩) hB).trans (h j hj).2⟩
theorem trRow_set {w : World} {B : Nat} {P : List (List UInt8)} {k : Nat} (h : TrRow w B P k) (hk : k < P.length) : TrRow (w.setCell ⟨B, k, none⟩ (tx (Tp.trim (P.getD k [])))) B P (k + 1) := by
  intro j hj
  refine ⟨?_, by rw [World.frozen?_setCell]; exact (h j hj).2⟩
  by_cases hjk : j = k
  · subst hjk
    rw [World.cell?_setCell_same _ _ _ (h j hj).1]
    unfold trF
    rw [if_pos (by omega)]
  · rw [World.cell?_setCell_other _ _ _ _ (by intro e; cases e; exact hjk rfl), (h j hj).1]
    unfold trF
    by_cases h2 : j < k
    · rw [if_pos h2, if_pos (by omega)]
    · rw [if_neg h2, if_neg (by omega)]
theorem trRow_start (w : World) (s : ByteArray) (B : Nat) (hB : w.heap.size = B) : TrRow (w.alloc (.cells ((Lib.splitB ⟨#[44]⟩ 0 (Lib.countB s ⟨#[44]⟩) s).map Value.string).toArray 9)) B (Tp.parts [] s.data.toList) 0 := by
  subst hB
  intro j hj
  have hp := Tp.parts_count s
  refine ⟨?_, ?_⟩
  · rw [World.cell?_alloc_new]
    rw [← hp] at hj ⊢
    unfold trF
    rw [if_neg (by omega)]
    have hj' : j < (Lib.splitB ⟨#[44]⟩ 0 (Lib.countB s ⟨#[44]⟩) s).length := by simpa using hj
    rw [List.getElem?_toArray, List.getElem?_map, List.getElem?_eq_getElem hj', List.getD_eq_getElem?_getD, List.getElem?_map, List.getElem?_eq_getElem hj']
    rfl
  · simp [World.frozen?, World.alloc, -World.alloc_eq]
theorem trRow_done {w : World} {B cap : Nat} {P : List (List UInt8)} (h : TrRow w B P P.length) : StrRow w (.slice (some ⟨B, 0, none⟩) P.length cap) (P.map Tp.trim) := by
  refine ⟨some ⟨B, 0, none⟩, cap, by rw [List.length_map], .inr ⟨B, rfl, fun j hj => ?_⟩⟩
  rw [List.length_map] at hj
  rw [(h j hj).1]
  unfold trF
  rw [if_pos hj]
  congr 2
  simp [List.getD_eq_getElem?_getD, List.getElem?_eq_getElem hj]
set_option maxRecDepth 100000 in
theorem tok_items (s : ByteArray) (w : World) (hs : s.size ≤ 500) (hm : ML w) :
    Calls Tryd.prog 62 #[.string s] w fun e w' => ∃ r, e = .returned r ∧ StrRow w' r (Tp.items s.data.toList) ∧ Below w.heap.size w w' := by
  obtain ⟨m, hm⟩ := hm
  have SP := Lib.hid (Tryd.strings_Split s ⟨#[44]⟩ m w (by omega) hm (by decide))
  clear hm
  have hn : (Tp.parts [] s.data.toList).length = Lib.countB s ⟨#[44]⟩ + 1 := by
    rw [← Tp.parts_count s, List.length_map, Lib.splitB_all _ (by decide) 0 _ s rfl]
  have hle : Lib.countB s ⟨#[44]⟩ ≤ s.size := Lib.countB_le _ (by decide) s.size s (Nat.le_refl _)
  have ST := Lib.hid (trRow_start w s w.heap.size rfl)
  have PA := Lib.hid (Tp.parts_at s.data.toList)
  have HI := Lib.hid (show Tp.items s.data.toList = ((Tp.parts [] s.data.toList).map Tp.trim).filter Tp.some? from rfl)
  obtain ⟨C, hC⟩ : ∃ C, ((Lib.splitB ⟨#[44]⟩ 0 (Lib.countB s ⟨#[44]⟩) s).map Value.string).toArray = C := ⟨_, rfl⟩
  rw [hC] at SP ST
  obtain ⟨P, hP⟩ : ∃ P, Tp.parts [] s.data.toList = P := ⟨_, rfl⟩
  rw [hP] at hn ST PA HI
  rw [HI.out]
  rw [← hn] at SP
  have hPl : P.length ≤ 501 := by omega
  obtain ⟨n, hnn⟩ : ∃ n, P.length = n := ⟨_, rfl⟩
  rw [hnn] at SP hPl
  have HN := Lib.hid hnn
  clear hnn hn hle hC hP
  have hsz : s.data.toList.length ≤ 500 := by simpa using hs
  have HS := Lib.hid hsz
  clear hsz
  go_enter Tryd.func62, Tryd.ntmps62
  go_wp2_with fail
  refine SP.out.mono ?_
  rintro e w1 ⟨rfl, rfl⟩
  go_wp2_with fail
  have hb1 : Below w.heap.size w (w.alloc (.cells C 9)) := (Below.refl _ _).alloc (Nat.le_refl _) _
  have HB1 := Lib.hid hb1
  clear hb1
  go_loopw [4, 9] (fun _ i wr => ∃ k : Nat, k ≤ n ∧ i = .int .i64 k ∧ Below w.heap.size w wr ∧ TrRow wr w.heap.size P k ∧ w.heap.size < wr.heap.size) (fun _ i _ => n - (intOf i).toNat)
  case atStart => exact ⟨0, Nat.zero_le _, rfl, HB1.out, ST.out, by simp⟩
  case round =>
    clear ST HB1
    obtain ⟨k, hk, rfl, hb, hrow, hlen⟩ := hrel
    have HB := Lib.hid hb
    have HR := Lib.hid hrow
    have HL := Lib.hid hlen
    clear hb hrow hlen
    by_cases hlt : k < n
    · have hc := (HR.out k (by rw [HN.out]; exact hlt)).1
      have hcur : trF P k k = P.getD k [] := if_neg (Nat.lt_irrefl k)
      rw [hcur] at hc
      clear hcur
      have hxs : (P.getD k []).length ≤ 500 := Nat.le_trans (PA.out k) HS.out
      have HW := Lib.hid (fun W h => trRow_set (w := W) (k := k) (P := P) (B := w.heap.size) h (by rw [HN.out]; exact hlt))
      obtain ⟨x, hx⟩ : ∃ x, P.getD k [] = x := ⟨_, rfl⟩
      rw [hx] at hc hxs HW
      clear hx
      have K := Lib.hid (tok_trim ⟨x.toArray⟩ wr (by show x.toArray.size ≤ _; simp; omega))
      rw [show (⟨x.toArray⟩ : ByteArray).data.toList = x from rfl] at K
      clear hxs
      unfold tx at hc
      obtain ⟨xb, hxb⟩ : ∃ z : ByteArray, (⟨x.toArray⟩ : ByteArray) = z := ⟨_, rfl⟩
      rw [hxb] at hc K
      clear hxb
      obtain ⟨y, hy⟩ : ∃ y : ByteArray, (⟨(Tp.trim x).toArray⟩ : ByteArray) = y := ⟨_, rfl⟩
      have hy2 : tx (Tp.trim x) = .string y := by unfold tx; rw [hy]
      rw [hy] at K
      rw [hy2] at HW
      clear hy hy2
      go_wp2_with fail
      refine K.out.mono ?_
      rintro e w2 ⟨rfl, hb2⟩
      have hrow2 := trRow_below HR.out hb2 HL.out
      have hc2 := (hrow2 k (by rw [HN.out]; exact hlt)).1
      have hf2 := (hrow2 k (by rw [HN.out]; exact hlt)).2
      have HR2 := Lib.hid (HW.out _ hrow2)
      have HB2 := Lib.hid ((HB.out.trans (hb2.mono HB.out.size)).setCell (p := ⟨w.heap.size, k, none⟩) (Nat.le_refl _) (.string y))
      have HL2 := Lib.hid (show w.heap.size < (w2.setCell ⟨w.heap.size, k, none⟩ (.string y)).heap.size by rw [World.size_setCell]; exact Nat.lt_of_lt_of_le HL.out hb2.size)
      clear hrow2 hb2
      clear hc
      go_wp2_with fail
      go_roundw
      case rel => exact ⟨k + 1, by omega, by go_num, HB2.out, HR2.out, HL2.out⟩
      case measure => simp [intOf]; omega
    · have hk1 : k = n := by omega
      have hrow := HR.out
      rw [hk1, ← HN.out] at hrow
      have F := Lib.hid (fun c W (h : W = wr) => tok_sifted wr.heap.size (.slice (some ⟨w.heap.size, 0, none⟩) n c) (P.map Tp.trim) W (by rw [h]) (by rw [h, ← HN.out]; exact trRow_done hrow) (by rw [List.length_map, HN.out]; omega))
      clear hrow
      go_wp2_with fail
      refine (F.out _ _ rfl).mono ?_
      rintro e w2 ⟨r, rfl, hown, hb2⟩
      go_wp2
      go_ret
      exact ⟨r, rfl, strRow_own hown, HB.out.trans (hb2.mono HB.out.size)⟩
end Go.Proofs.YtlefgkiembokeaaDoor
