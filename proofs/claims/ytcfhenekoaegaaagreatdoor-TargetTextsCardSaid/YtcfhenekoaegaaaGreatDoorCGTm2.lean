/- Texts of this claim, one behind the other: Tq, Tw2, Tw3, Tw4, Tw5, Ti, Tw6, Tw7, Tw9, Tb, G2, G3, Dt, Du, G4, G5, G6, G7, Gs, Gt, G8, GA, GB, GC, Tw8, GD, GE, GF, GG, GH, GJ. -/
import Derived.Test.YtcfhenekoaegaaaGreatDoorCGTm1
import Derived.Lib.IndexBytes
import Derived.Shelf.Strings.SlTrimAscii
import Derived.Lib.ItoaMem
import Derived.Lib.SplitLaws
import Derived.Lib.Replace
import Derived.WalkKit
import Derived.Deep.QuietTactic
import Derived.BigQuiet
import Derived.Laws.Externs
import Derived.Lib.UnsafeStr
import Derived.RangeFuncRecord
import Derived.Lib.Repeat
import Derived.Lib.Case
import Derived.Lib.AppendStr
import Derived.Lib.Bits
import Derived.Lib.DecodeN
import Derived.Laws.RangeString
import Derived.Laws.Runes
import Derived.Scope
import Derived.Below
import Derived.Lib.Hide
import Derived.Lib.IndexMore
/- How layer 9 (token) trims texts and makes their letters small, as plain functions: no program in sight. -/
namespace Go.Proofs.YtcfhenekoaegaaaGreatDoor
set_option linter.unusedVariables false
set_option linter.unusedSimpArgs false
namespace Tp
def blankB (c : UInt8) : Bool := blank (c.toNat : Int)
def trimL (l : List UInt8) : List UInt8 := l.dropWhile blankB
def trimR (l : List UInt8) : List UInt8 := (l.reverse.dropWhile blankB).reverse
/-- a text without the blanks at its ends -/
def trim (l : List UInt8) : List UInt8 := trimR (trimL l)
theorem blankB_is (c : UInt8) : blankB c = ([32, 9] : List UInt8).contains c := by
  have : ∀ c : Fin 256, blankB (UInt8.ofNat c.val) = ([32, 9] : List UInt8).contains (UInt8.ofNat c.val) := by decide +kernel
  have h := this ⟨c.toNat, c.toNat_lt⟩
  simpa using h
theorem trimL_nil : trimL [] = [] := rfl
theorem trimL_cons (c : UInt8) (l : List UInt8) : trimL (c :: l) = if blankB c then trimL l else c :: l := by unfold trimL; rw [List.dropWhile_cons]
theorem trimR_nil : trimR [] = [] := rfl
theorem trimR_snoc (l : List UInt8) (c : UInt8) : trimR (l ++ [c]) = if blankB c then trimR l else l ++ [c] := by
  unfold trimR
  rw [List.reverse_append]
  show ((c :: l.reverse).dropWhile blankB).reverse = _
  rw [List.dropWhile_cons]
  split
  · rfl
  · simp
theorem trimR_append (x y : List UInt8) (h : trimR y ≠ []) : trimR (x ++ y) = x ++ trimR y := by
  unfold trimR at *
  have hne : y.reverse.dropWhile blankB ≠ [] := fun e => h (by rw [e]; rfl)
  rw [List.reverse_append, List.dropWhile_append]
  have : (y.reverse.dropWhile blankB).isEmpty = false := by cases hd : y.reverse.dropWhile blankB with
    | nil => exact absurd hd hne
    | cons _ _ => rfl
  rw [this]
  simp
theorem trimR_head (c : UInt8) (l : List UInt8) (h : blankB c = false) : ∃ m, trimR (c :: l) = c :: m := by
  unfold trimR
  rw [List.reverse_cons, List.dropWhile_append]
  split
  · exact ⟨[], by rw [List.dropWhile_cons]; simp [h]⟩
  · exact ⟨_, by rw [List.reverse_append]; rfl⟩
theorem trimS_is (l : List UInt8) : Lib.trimS l [32, 9] = trim l := by
  have hp : (([32, 9] : List UInt8).contains ·) = blankB := by funext c; exact (blankB_is c).symm
  have e1 : ∀ l, Lib.trimLeftS l [32, 9] = trimL l := fun l => by unfold Lib.trimLeftS trimL; rw [hp]
  have e2 : ∀ l, Lib.trimRightS l [32, 9] = trimR l := fun l => by unfold Lib.trimRightS trimR; rw [hp]
  unfold Lib.trimS trim
  rw [e1, e2]
  induction l with
  | nil => rfl
  | cons c l ih =>
    rw [trimL_cons]
    by_cases hc : blankB c = true
    · rw [if_pos hc]
      by_cases hr : trimR l = []
      · have h1 : trimR (c :: l) = [] := by
          have : c :: l = [c] ++ l := rfl
          unfold trimR at hr ⊢
          have hd : l.reverse.dropWhile blankB = [] := by simpa using hr
          rw [this, List.reverse_append, List.dropWhile_append, hd]
          simp [hc]
        rw [h1, ← ih, hr]
      · have h1 := trimR_append [c] l hr
        rw [List.singleton_append] at h1
        rw [h1, List.singleton_append, trimL_cons, if_pos hc, ih]
    · have hc' : blankB c = false := by simpa using hc
      rw [if_neg hc]
      obtain ⟨m, hm⟩ := trimR_head c l hc'
      rw [hm, trimL_cons, if_neg hc]
/-- small letters -/
def lower (l : List UInt8) : List UInt8 := l.map fun c => UInt8.ofNat (lowB c.toNat).toNat
theorem lower_at (c : UInt8) : (((UInt8.ofNat (lowB c.toNat).toNat).toNat : Nat) : Int) = lowB c.toNat := by
  have h := c.toNat_lt
  have : 0 ≤ lowB c.toNat ∧ lowB c.toNat < 256 := by unfold lowB; split <;> omega
  rw [UInt8.toNat_ofNat_of_lt' (by show (lowB (c.toNat : Int)).toNat < 256; omega)]
  omega
def isTok (l : List UInt8) : Bool := !l.isEmpty && allT tokB l
def isVal (l : List UInt8) : Bool := (trim l == l) && allT valB l
end Tp
end Go.Proofs.YtcfhenekoaegaaaGreatDoor

/- The reference's bytes of tokens and values, and its trimming, are those of the texts Tp and Tq. Texts have a length that Go knows. -/
namespace Go.Proofs.YtcfhenekoaegaaaGreatDoor
set_option linter.unusedVariables false
set_option linter.unusedSimpArgs false
open Go.RowKit Go.Shelf
set_option maxHeartbeats 1000000
theorem isEmpty_size (s : ByteArray) : s.data.toList.isEmpty = decide (s.size = 0) := by
  by_cases h : s.size = 0
  · rw [decide_eq_true h]; exact List.isEmpty_iff_length_eq_zero.2 (by simpa using h)
  · rw [decide_eq_false h]
    cases he : s.data.toList.isEmpty with
    | false => rfl
    | true => exact absurd (by simpa using List.isEmpty_iff_length_eq_zero.1 he) h
theorem sg_index (k : Nat) (h : k < 15) (w : World) : (Instr.index 9 (.string ⟨#[33, 35, 36, 37, 38, 39, 42, 43, 45, 46, 94, 95, 96, 124, 126]⟩) (.int .i64 (k : Int))).run Tryz.prog w = .ok (.int .u8 (Tp.SGx k)) w :=
  match k, h with
  | 0, _ => by kernel_rfl
  | 1, _ => by kernel_rfl
  | 2, _ => by kernel_rfl
  | 3, _ => by kernel_rfl
  | 4, _ => by kernel_rfl
  | 5, _ => by kernel_rfl
  | 6, _ => by kernel_rfl
  | 7, _ => by kernel_rfl
  | 8, _ => by kernel_rfl
  | 9, _ => by kernel_rfl
  | 10, _ => by kernel_rfl
  | 11, _ => by kernel_rfl
  | 12, _ => by kernel_rfl
  | 13, _ => by kernel_rfl
  | 14, _ => by kernel_rfl
  | n + 15, h => absurd h (by omega)
end Go.Proofs.YtcfhenekoaegaaaGreatDoor

/- Trimming, values and small letters, the program's and the reference's, are those of the text Tq. Texts have a length that Go knows; small letters: at most 1000000 bytes. -/
namespace Go.Proofs.YtcfhenekoaegaaaGreatDoor
set_option linter.unusedVariables false
set_option linter.unusedSimpArgs false
open Go.RowKit Go.Shelf
set_option maxHeartbeats 1000000
theorem ba_eq {x : ByteArray} {l : List UInt8} (h : x.data.toList = l) : x = ⟨l.toArray⟩ := by subst h; cases x; simp
theorem last_split (u : ByteArray) (h : 0 < u.size) : u.data.toList = (u.extract 0 (u.size - 1)).data.toList ++ [u[u.size - 1]] := by
  rw [Lib.extract_data, List.drop_zero, Nat.sub_zero]
  have := take_snoc u (u.size - 1) (by omega)
  rw [← this, List.take_of_length_le (by simp; omega)]
theorem slice_head (u : ByteArray) (w : World) (h : 0 < u.size) (hu : u.size ≤ 9223372036854775807) : (Instr.slice 9 (.string u) none (some (.int .i64 ((u.size : Int) - 1))) none).run Tryz.prog w = .ok (.string (u.extract 0 (u.size - 1))) w := by
  have e : ((u.size : Int) - 1) = ((u.size - 1 : Nat) : Int) := by omega
  rw [e]
  simp [go_sem, Tryz.underlying9]
theorem index_last (u : ByteArray) (w : World) (h : 0 < u.size) (hu : u.size ≤ 9223372036854775807) : (Instr.index 9 (.string u) (.int .i64 ((u.size : Int) - 1))).run Tryz.prog w = .ok (.int .u8 ((u[u.size - 1]'(by omega)).toNat : Int)) w := by
  have e : ((u.size : Int) - 1) = ((u.size - 1 : Nat) : Int) := by omega
  have hi : (0 : Int) ≤ ((u.size - 1 : Nat) : Int) ∧ ((u.size - 1 : Nat) : Int) < u.size := by omega
  rw [e, run_index_string w 9 u .i64 _ Tryz.underlying9, dif_pos hi]
  simp only [Int.toNat_natCast]
theorem nil_of_size {u : ByteArray} (h : ¬ 0 < u.size) : u.data.toList = [] := by
  apply List.length_eq_zero_iff.1
  have : u.size = 0 := by omega
  exact this
end Go.Proofs.YtcfhenekoaegaaaGreatDoor

/- Whether a text is a token or a value, and its small letters, the program's and the reference's, are those of the text Tq. Texts have at most 1000000 bytes. -/
namespace Go.Proofs.YtcfhenekoaegaaaGreatDoor
set_option linter.unusedVariables false
set_option linter.unusedSimpArgs false
open Go.RowKit Go.Shelf
set_option maxHeartbeats 1000000
theorem beq_bytes (s : ByteArray) (l : List UInt8) : (((⟨l.toArray⟩ : ByteArray).toList == s.toList)) = (l == s.data.toList) := by
  rw [ByteArray.toList_eq, ByteArray.toList_eq]
end Go.Proofs.YtcfhenekoaegaaaGreatDoor

/- Values and small letters, the reference's and the program's. Texts have a length that Go knows. -/
namespace Go.Proofs.YtcfhenekoaegaaaGreatDoor
set_option linter.unusedVariables false
set_option linter.unusedSimpArgs false
open Go.RowKit Go.Shelf
set_option maxHeartbeats 1000000
/-- the row of a text's bytes, of which the first k are in small letters -/
def lowF (l : List UInt8) (k j : Nat) : Int := if j < k then Tp.lowB ((l.getD j 0).toNat : Int) else ((l.getD j 0).toNat : Int)
def LowRow (w : World) (B n : Nat) (l : List UInt8) (k : Nat) : Prop := ∀ j, j < n → w.cell? ⟨B, j, none⟩ = some (.int .u8 (lowF l k j)) ∧ w.frozen? ⟨B, j, none⟩ = false
theorem lowRow_start (w : World) (s : ByteArray) (B : Nat) (hB : w.heap.size = B) : LowRow (Lib.bytesWorld w 5 s) B s.size s.data.toList 0 := by
  subst hB
  intro j hj
  refine ⟨?_, ?_⟩
  · rw [Lib.bytesWorld_cell w 5 s j hj]; rfl
  · unfold World.frozen?
    rw [show (⟨w.heap.size, j, none⟩ : Addr).block = w.heap.size from rfl, Lib.bytesWorld_at_new]
    have : j < (Lib.bytesCells w 5 s).size := by simp [Lib.bytesCells]; omega
    simp
    omega
theorem lowRow_keep {w : World} {B n : Nat} {l : List UInt8} {k : Nat} (h : LowRow w B n l k) (hc : Tp.lowB ((l.getD k 0).toNat : Int) = ((l.getD k 0).toNat : Int)) : LowRow w B n l (k + 1) := by
  intro j hj
  refine ⟨?_, (h j hj).2⟩
  rw [(h j hj).1]
  unfold lowF
  by_cases hjk : j = k
  · subst hjk; rw [if_neg (by omega), if_pos (by omega), hc]
  · by_cases h2 : j < k
    · rw [if_pos h2, if_pos (by omega)]
    · rw [if_neg h2, if_neg (by omega)]
theorem lowRow_set {w : World} {B n : Nat} {l : List UInt8} {k : Nat} {x : Int} (h : LowRow w B n l k) (hk : k < n) (hc : Tp.lowB ((l.getD k 0).toNat : Int) = x) : LowRow (w.setCell ⟨B, k, none⟩ (.int .u8 x)) B n l (k + 1) := by
  intro j hj
  refine ⟨?_, by rw [World.frozen?_setCell]; exact (h j hj).2⟩
  by_cases hjk : j = k
  · subst hjk
    rw [World.cell?_setCell_same _ _ _ (h j hj).1]
    unfold lowF
    rw [if_pos (by omega), hc]
  · rw [World.cell?_setCell_other _ _ _ _ (by intro e; cases e; exact hjk rfl), (h j hj).1]
    unfold lowF
    by_cases h2 : j < k
    · rw [if_pos h2, if_pos (by omega)]
    · rw [if_neg h2, if_neg (by omega)]
theorem low_back {w : World} {B cap : Nat} {s : ByteArray} (h : LowRow w B s.size s.data.toList s.size) :
    (convert 74 9 (.slice (some ⟨B, 0, none⟩) s.size cap)).run Tryz.prog w = .ok (.string ⟨(Tp.lower s.data.toList).toArray⟩) w := by
  have hl : (Tp.lower s.data.toList).length = s.size := by unfold Tp.lower; rw [List.length_map]; rfl
  have := run_convert_bytes_back (P := Tryz.prog) w 74 9 5 ⟨B, 0, none⟩ cap (Tp.lower s.data.toList) Tryz.underlying74 Tryz.underlying5 Tryz.underlying9 (fun j hj => by
    have hadd : (⟨B, 0, none⟩ : Addr).add j = ⟨B, j, none⟩ := by simp [Addr.add]; exact fun e => e.symm
    rw [hadd, (h j (by omega)).1]
    unfold lowF
    rw [if_pos (by omega)]
    have hj' : j < s.data.toList.length := by simpa [Tp.lower] using hj
    have : (Tp.lower s.data.toList)[j] = UInt8.ofNat (Tp.lowB ((s.data.toList.getD j 0).toNat : Int)).toNat := by
      rw [show s.data.toList.getD j 0 = s.data.toList[j] by simp [List.getD_eq_getElem?_getD, List.getElem?_eq_getElem hj']]
      exact List.getElem_map _
    rw [this, Tp.lower_at])
  rw [hl] at this
  exact this
end Go.Proofs.YtcfhenekoaegaaaGreatDoor

/- How layer 9 (token) cuts a list of items at its commas, as a plain function: no program in sight. And a slice of texts. -/
namespace Go.Proofs.YtcfhenekoaegaaaGreatDoor
set_option linter.unusedVariables false
set_option linter.unusedSimpArgs false
namespace Tp
/-- the parts of a text, 'cur' its first part so far -/
def parts : List UInt8 → List UInt8 → List (List UInt8)
  | cur, [] => [cur]
  | cur, c :: l => if c = 44 then cur :: parts [] l else parts (cur ++ [c]) l
def some? (l : List UInt8) : Bool := !l.isEmpty
def itm (cur rest : List UInt8) : List (List UInt8) := ((parts cur rest).map trim).filter some?
def items (l : List UInt8) : List (List UInt8) := itm [] l
theorem parts_cur : ∀ (l a b : List UInt8), parts (a ++ b) l = (match parts b l with | h :: t => (a ++ h) :: t | [] => [])
  | [], a, b => rfl
  | c :: l, a, b => by
    unfold parts
    by_cases h : c = 44
    · rw [if_pos h, if_pos h]
    · rw [if_neg h, if_neg h, List.append_assoc, parts_cur l a (b ++ [c])]
theorem parts_ne : ∀ (l a : List UInt8), parts a l ≠ []
  | [], a => by unfold parts; simp
  | c :: l, a => by
    unfold parts
    by_cases h : c = 44
    · rw [if_pos h]; simp
    · rw [if_neg h]; exact parts_ne l _
theorem split_is : ∀ l : List UInt8, Lib.splitK [44] 0 (Lib.count l [44]) l = parts [] l
  | [] => by rw [Lib.count_miss (by simp [Lib.index])]; rfl
  | c :: l => by
    have ih := split_is l
    unfold parts
    by_cases h : c = 44
    · subst h
      have hix : Lib.index (44 :: l) [44] = 0 := by rw [Lib.index]; simp [List.isPrefixOf]
      rw [if_pos rfl, Lib.count_cons_eq, Nat.add_comm, Lib.splitK, hix, ← ih]
      rfl
    · rw [if_neg h, Lib.count_cons_ne c 44 l h, List.nil_append, show [c] = [c] ++ [] from rfl, parts_cur, ← ih]
      cases hn : Lib.count l [44] with
      | zero => rfl
      | succ n =>
        obtain ⟨j, hj⟩ := Lib.index_of_count (s := l) (old := [44]) (by omega)
        have hp : ([44] : List UInt8).isPrefixOf (c :: l) = false := by simp [List.isPrefixOf, Ne.symm h]
        have hix : Lib.index (c :: l) [44] = ((j + 1 : Nat) : Int) := by
          rw [Lib.index, hp]
          simp [hj]
        rw [Lib.splitK, Lib.splitK, hix, hj]
        have h1 : ¬ ((((j + 1 : Nat) : Int)) == -1) = true := by intro e; have := beq_iff_eq.1 e; omega
        have h2 : ¬ (((j : Nat) : Int) == -1) = true := by intro e; have := beq_iff_eq.1 e; omega
        rw [if_neg h1, if_neg h2]
        simp only [Int.toNat_natCast, Nat.add_zero, List.take_succ_cons, List.singleton_append, List.length_singleton, List.drop_succ_cons]
theorem parts_len : ∀ (l a : List UInt8), ∀ p ∈ parts a l, p.length ≤ a.length + l.length
  | [], a, p, hp => by
    have : p = a := by simpa [parts] using hp
    subst this
    omega
  | c :: l, a, p, hp => by
    unfold parts at hp
    by_cases h : c = 44
    · rw [if_pos h] at hp
      rcases List.mem_cons.1 hp with rfl | hp
      · omega
      · have := parts_len l [] p hp; simp only [List.length_nil, List.length_cons] at *; omega
    · rw [if_neg h] at hp
      have := parts_len l _ p hp
      simp only [List.length_append, List.length_cons, List.length_nil] at *
      omega
theorem parts_at (l : List UInt8) (j : Nat) : ((parts [] l).getD j []).length ≤ l.length := by
  by_cases h : j < (parts [] l).length
  · have := parts_len l [] _ (List.getElem_mem h)
    simpa [List.getD_eq_getElem?_getD, List.getElem?_eq_getElem h] using this
  · simp [List.getD_eq_getElem?_getD, List.getElem?_eq_none (Nat.le_of_not_lt h)]
theorem parts_count (s : ByteArray) : (Lib.splitB ⟨#[44]⟩ 0 (Lib.countB s ⟨#[44]⟩) s).map (·.data.toList) = parts [] s.data.toList := by
  rw [Lib.splitB_data]
  exact split_is _
end Tp
open Go.RowKit
def tx (l : List UInt8) : Value := .string ⟨l.toArray⟩
/-- a slice of texts -/
def StrRow (w : World) (v : Value) (L : List (List UInt8)) : Prop :=
  ∃ p cap, v = .slice p L.length cap ∧ (L.length = 0 ∨ ∃ g, p = some ⟨g, 0, none⟩ ∧ ∀ j, j < L.length → w.cell? ⟨g, j, none⟩ = some (tx (L.getD j [])))
theorem strRow_own {w : World} {base : Nat} {e : TypeId} {v : Value} {n : Nat} {L : List (List UInt8)} (h : w.ownsRow base e 1 v n (L.map tx)) : StrRow w v L := by
  obtain ⟨hl, h⟩ := h
  have hn : n = L.length := by simpa using hl.symm
  subst hn
  rcases h with ⟨rfl, h0⟩ | ⟨g, cap, cur, rfl, _, hg, hc, _, hs, ht⟩
  · refine ⟨none, 0, by rw [h0], .inl h0⟩
  · refine ⟨some ⟨g, 0, none⟩, cap, rfl, .inr ⟨g, rfl, fun j hj => ?_⟩⟩
    unfold World.cell?
    rw [show (⟨g, j, none⟩ : Addr).block = g from rfl, hg]
    show (if (none : Option _).isSome then none else cur[j]?) = _
    have h1 : (cur.toList.take (L.length * 1))[j]? = (L.map tx)[j]? := by rw [ht]
    rw [List.getElem?_take_of_lt (by omega)] at h1
    rw [if_neg (by simp), ← Array.getElem?_toList, h1, List.getElem?_map, List.getElem?_eq_getElem hj]
    simp [List.getD_eq_getElem?_getD, List.getElem?_eq_getElem hj]
theorem StrRow.below {w w' : World} {v : Value} {L : List (List UInt8)} (h : StrRow w v L) (hb : Below w.heap.size w w') : StrRow w' v L := by
  obtain ⟨p, cap, rfl, h⟩ := h
  refine ⟨p, cap, rfl, ?_⟩
  rcases h with h | ⟨g, rfl, h⟩
  · exact .inl h
  · exact .inr ⟨g, rfl, fun j hj => cell_below hb (h j hj)⟩
end Go.Proofs.YtcfhenekoaegaaaGreatDoor

/- Two slices of texts compared; the texts that are not empty, gathered. -/
namespace Go.Proofs.YtcfhenekoaegaaaGreatDoor
set_option linter.unusedVariables false
set_option linter.unusedSimpArgs false
open Go.RowKit Go.Shelf
set_option maxHeartbeats 1000000
theorem below_drawn (B : Nat) (w : World) (n : Nat) : Below B w (w.drewN n) := ⟨rfl, rfl, rfl, Nat.le_refl _, fun _ _ => rfl⟩
theorem own_ge {w : World} {B : Nat} {e : TypeId} {v : Value} {n : Nat} {xs : List Value} (h : w.ownsRow B e 1 v n xs) : ∀ k, v.ownBlock = some k → B ≤ k := by
  intro k hk
  rcases h.2 with ⟨rfl, _⟩ | ⟨g, cap, cur, rfl, hg, _⟩
  · simp [Value.ownBlock] at hk
  · have : g = k := by simpa [Value.ownBlock] using hk
    omega
theorem filter_le (L : List (List UInt8)) (k : Nat) : ((L.take k).filter Tp.some?).length ≤ L.length :=
  Nat.le_trans (List.length_filter_le _ _) (by rw [List.length_take]; omega)
end Go.Proofs.YtcfhenekoaegaaaGreatDoor

/- A list's items, the program's: those of the text Ti. -/
namespace Go.Proofs.YtcfhenekoaegaaaGreatDoor
set_option linter.unusedVariables false
set_option linter.unusedSimpArgs false
open Go.RowKit Go.Shelf
set_option maxHeartbeats 1000000
/-- internal/bytealg.MaxLen holds some integer -/
def ML (w : World) : Prop := ∃ m, w.cell? ⟨0, 0, none⟩ = some (.int .i64 m)
theorem ML.below {w w' : World} (h : ML w) (hb : Below w.heap.size w w') : ML w' := let ⟨m, hm⟩ := h; ⟨m, cell_below hb hm⟩
/-- the row of the parts, of which the first k are trimmed -/
def trF (P : List (List UInt8)) (k j : Nat) : List UInt8 := if j < k then Tp.trim (P.getD j []) else P.getD j []
def TrRow (w : World) (B : Nat) (P : List (List UInt8)) (k : Nat) : Prop := ∀ j, j < P.length → w.cell? ⟨B, j, none⟩ = some (tx (trF P k j)) ∧ w.frozen? ⟨B, j, none⟩ = false
theorem trRow_below {w w' : World} {B : Nat} {P : List (List UInt8)} {k : Nat} (h : TrRow w B P k) (hb : Below w.heap.size w w') (hB : B < w.heap.size) : TrRow w' B P k :=
  fun j hj => ⟨cell_below hb (h j hj).1, (hb.frozen (p := ⟨B, j, none⟩) hB).trans (h j hj).2⟩
theorem trRow_set {w : World} {B : Nat} {P : List (List UInt8)} {k : Nat} (h : TrRow w B P k) (hk : k < P.length) : TrRow (w.setCell ⟨B, k, none⟩ (tx (Tp.trim (P.getD k [])))) B P (k + 1) := by
  intro j hj
  refine ⟨?_, by rw [World.frozen?_setCell]; exact (h j hj).2⟩
  by_cases hjk : j = k
  · subst hjk
    rw [World.cell?_setCell_same _ _ _ (h j hj).1]
    unfold trF
    rw [if_pos (by omega)]
  · rw [World.cell?_setCell_other _ _ _ _ (by intro e; cases e; exact hjk rfl), (h j hj).1]
    unfold trF
    by_cases h2 : j < k
    · rw [if_pos h2, if_pos (by omega)]
    · rw [if_neg h2, if_neg (by omega)]
theorem trRow_start (w : World) (s : ByteArray) (B : Nat) (hB : w.heap.size = B) : TrRow (w.alloc (.cells ((Lib.splitB ⟨#[44]⟩ 0 (Lib.countB s ⟨#[44]⟩) s).map Value.string).toArray 9)) B (Tp.parts [] s.data.toList) 0 := by
  subst hB
  intro j hj
  have hp := Tp.parts_count s
  refine ⟨?_, ?_⟩
  · rw [World.cell?_alloc_new]
    rw [← hp] at hj ⊢
    unfold trF
    rw [if_neg (by omega)]
    have hj' : j < (Lib.splitB ⟨#[44]⟩ 0 (Lib.countB s ⟨#[44]⟩) s).length := by simpa using hj
    rw [List.getElem?_toArray, List.getElem?_map, List.getElem?_eq_getElem hj', List.getD_eq_getElem?_getD, List.getElem?_map, List.getElem?_eq_getElem hj']
    rfl
  · simp [World.frozen?, World.alloc, -World.alloc_eq]
theorem trRow_done {w : World} {B cap : Nat} {P : List (List UInt8)} (h : TrRow w B P P.length) : StrRow w (.slice (some ⟨B, 0, none⟩) P.length cap) (P.map Tp.trim) := by
  refine ⟨some ⟨B, 0, none⟩, cap, by rw [List.length_map], .inr ⟨B, rfl, fun j hj => ?_⟩⟩
  rw [List.length_map] at hj
  rw [(h j hj).1]
  unfold trF
  rw [if_pos hj]
  congr 2
  simp [List.getD_eq_getElem?_getD, List.getElem?_eq_getElem hj]
end Go.Proofs.YtcfhenekoaegaaaGreatDoor

/- The reader of quoted texts: one byte taken. -/
namespace Go.Proofs.YtcfhenekoaegaaaGreatDoor
set_option linter.unusedVariables false
set_option linter.unusedSimpArgs false
open Go.RowKit Go.Shelf
set_option maxHeartbeats 1000000
namespace Tp
/-- the state behind a byte: within quotes, behind a backslash -/
def stQ (q b : Bool) (c : Int) : Bool := if b then q else if q && c == 92 then q else if c == 34 then !q else q
def stB (q b : Bool) (c : Int) : Bool := if b then false else q && c == 92
/-- whether the byte is outside -/
def stR (q b : Bool) (c : Int) : Bool := if b then false else if q && c == 92 then false else if c == 34 then q else !q
end Tp
/-- a write into the block B, or none -/
def Touch (B : Nat) (w w' : World) : Prop := w' = w ∨ ∃ i v, w' = w.setCell ⟨B, i, none⟩ v
theorem Touch.below {B N : Nat} {w w' : World} (h : Touch B w w') (hN : N ≤ B) : Below N w w' := by
  rcases h with rfl | ⟨i, v, rfl⟩
  · exact Below.refl _ _
  · exact (Below.refl _ _).setCell hN _
theorem Touch.size {B : Nat} {w w' : World} (h : Touch B w w') : w'.heap.size = w.heap.size := by
  rcases h with rfl | ⟨i, v, rfl⟩
  · rfl
  · simp
theorem Touch.heap {B : Nat} {w w' : World} (h : Touch B w w') (k : Nat) (hk : k ≠ B) : w'.heap[k]? = w.heap[k]? := by
  rcases h with rfl | ⟨i, v, rfl⟩
  · rfl
  · exact heap_setCell_other _ _ _ _ hk
end Go.Proofs.YtcfhenekoaegaaaGreatDoor

/- strings.Builder's copyCheck and WriteByte, walked at this program (the shelf's own laws of them cannot be laid here). The builder's row lies at 'base' or above, so that all below but the builder stands. -/
namespace Go.Proofs.YtcfhenekoaegaaaGreatDoor
set_option linter.unusedVariables false
set_option linter.unusedSimpArgs false
open Go.RowKit Go.Shelf
set_option maxHeartbeats 2000000
set_option maxRecDepth 100000
/-- below 'base' all but block b stands -/
structure Fr (b base : Nat) (w w' : World) : Prop where
  os : w'.os = w.os
  tape : w'.tape = w.tape
  output : w'.output = w.output
  size : w.heap.size ≤ w'.heap.size
  block : ∀ k, k < base → k ≠ b → w'.heap[k]? = w.heap[k]?
theorem Fr.trans {b base : Nat} {w1 w2 w3 : World} (h : Fr b base w1 w2) (k : Fr b base w2 w3) : Fr b base w1 w3 :=
  ⟨k.os.trans h.os, k.tape.trans h.tape, k.output.trans h.output, Nat.le_trans h.size k.size, fun i hi hb => (k.block i hi hb).trans (h.block i hi hb)⟩
theorem Fr.of {b base : Nat} {w w' : World} (h : Below base w w') : Fr b base w w' := ⟨h.os, h.tape, h.output, h.size, fun k hk _ => h.block k hk⟩
theorem Fr.set (b base i : Nat) (w : World) (v : Value) : Fr b base w (w.setCell ⟨b, i, none⟩ v) := ⟨rfl, rfl, rfl, by simp, fun k _ hk => heap_setCell_other _ _ _ _ hk⟩
theorem Fr.below {b base B : Nat} {w w' : World} (h : Fr b base w w') (hB : B ≤ b) (hb : B ≤ base) : Below B w w' := ⟨h.os, h.tape, h.output, h.size, fun k hk => h.block k (by omega) (by omega)⟩
def BD (w : World) (b base : Nat) (p : Value) (bs : List Value) : Prop :=
  ∃ v, w.heap[b]? = some (.cells #[p, v] 79 (0, 0)) ∧ w.ownsRow base 5 1 v bs.length bs
theorem builder_used (b : Nat) (w : World) (h0 : w.cell? ⟨b, 0, none⟩ = some (.pointer (some ⟨b, 0, none⟩))) :
    Calls Tryz.prog 69 #[.pointer (some ⟨b, 0, none⟩)] w fun e w' => e = .returned (.tuple #[]) ∧ w' = w := by
  obtain ⟨j, hj, _⟩ := Option.map_eq_some_iff.1 (show (Tryz.prog.info? 79).map (·.size) = some 2 by kernel_rfl)
  go_enter Tryz.func69, Tryz.ntmps69
  go_wp2
  rw [Lib.run_neq_ptr_same w _ Tryz.underlying77 hj]
  go_wp2
  go_end0
  exact ⟨rfl, rfl⟩
theorem builder_fresh (b : Nat) (w : World) (h0 : w.cell? ⟨b, 0, none⟩ = some (.pointer none)) (hsh : w.shape? b = some (79, 2)) (hfz : w.frozen? ⟨b, 0, none⟩ = false) :
    Calls Tryz.prog 69 #[.pointer (some ⟨b, 0, none⟩)] w fun e w' => e = .returned (.tuple #[]) ∧ w' = w.setCell ⟨b, 0, none⟩ (.pointer (some ⟨b, 0, none⟩)) := by
  obtain ⟨j, hj, hjs⟩ := Option.map_eq_some_iff.1 (show (Tryz.prog.info? 79).map (·.size) = some 2 by kernel_rfl)
  have hl : liesAt Tryz.prog Tryz.prog.depth 79 (2 / Tryz.prog.cellsOf 79) 0 79 1 = true := by kernel_rfl
  go_enter Tryz.func69, Tryz.ntmps69
  go_wp2
  rw [Lib.run_to_unsafe w ⟨b, 0, none⟩ Tryz.underlying77 Tryz.underlying117 hj (by rw [hjs]; decide) hsh (Nat.zero_lt_succ 1)]
  simp only [Result.andThen]
  rw [Oper.upon_value]
  go_wp2
  rw [run_callFunc_extern Tryz.func84 (by kernel_rfl) (by kernel_rfl) (by kernel_rfl) (e := Extern.AbiNoEscape.same) (by kernel_rfl)]
  rw [Lib.run_noEscape]
  simp only [Result.andThen]
  rw [Oper.upon_value]
  go_wp2
  rw [Lib.run_from_unsafe w ⟨b, 0, none⟩ Tryz.underlying117 Tryz.underlying77 hj hsh hl]
  simp only [Result.andThen]
  rw [Oper.upon_value]
  go_wp2
  go_end0
  exact ⟨rfl, rfl⟩
theorem bd_used {w : World} {b base : Nat} {p q : Value} {bs : List Value} (h : BD w b base p bs) (hb : b < base) : BD (w.setCell ⟨b, 0, none⟩ q) b base q bs := by
  obtain ⟨v, hv, hown⟩ := h
  exact ⟨v, heap_setCell_same _ _ _ _ _ _ hv, ownsRow_setCell_below hown hb _⟩
theorem builder_check (b base : Nat) (p : Value) (bs : List Value) (w : World) (hp : p = .pointer none ∨ p = .pointer (some ⟨b, 0, none⟩)) (h : BD w b base p bs) (hb : b < base) :
    Calls Tryz.prog 69 #[.pointer (some ⟨b, 0, none⟩)] w fun e w' => e = .returned (.tuple #[]) ∧ BD w' b base (.pointer (some ⟨b, 0, none⟩)) bs ∧ Fr b base w w' := by
  have hh := h
  obtain ⟨v, hv, hown⟩ := hh
  have c0 : w.cell? ⟨b, 0, none⟩ = some p := by simp [World.cell?, hv]
  rcases hp with rfl | rfl
  · refine (builder_fresh b w c0 (by simp [World.shape?, hv]) (frozen_of_row _ _ _ _ _ hv)).mono ?_
    rintro e w' ⟨rfl, rfl⟩
    exact ⟨rfl, bd_used h hb, Fr.set _ _ _ _ _⟩
  · refine (builder_used b w c0).mono ?_
    rintro e w' ⟨rfl, rfl⟩
    exact ⟨rfl, h, Fr.of (Below.refl _ _)⟩
theorem builder_byte (b base : Nat) (p : Value) (bs : List Value) (c : Int) (w : World) (hp : p = .pointer none ∨ p = .pointer (some ⟨b, 0, none⟩)) (h : BD w b base p bs) (hb : b < base) (hw : base ≤ w.heap.size) (hl : bs.length ≤ 1000000) :
    Calls Tryz.prog 44 #[.pointer (some ⟨b, 0, none⟩), .int .u8 c] w fun e w' => e = .returned .nilIface ∧ BD w' b base (.pointer (some ⟨b, 0, none⟩)) (bs ++ [.int .u8 c]) ∧ Fr b base w w' := by
  obtain ⟨i0, hi, hz0, hz1, hz2⟩ := info_parts (show (Tryz.prog.info? 5).map (fun i => (i.zero, i.size, i.bytes)) = some (some (.int .u8 0), 1, 1) by kernel_rfl)
  have K := Lib.hid (builder_check b base p bs w hp h hb)
  clear h hp
  go_enter Tryz.func44, Tryz.ntmps44
  go_wp2_with fail
  refine K.out.mono ?_
  rintro e w1 ⟨rfl, ⟨v, hv, hown⟩, hfr⟩
  have HV := Lib.hid hv
  have HO := Lib.hid hown
  have HF := Lib.hid hfr
  have hw1 : base ≤ w1.heap.size := Nat.le_trans hw hfr.size
  have c1 : w1.cell? ⟨b, 1, none⟩ = some v := by simp [World.cell?, hv]
  clear K hv hown hfr hw
  go_wp2_with (at_builtin; refine wpList_append_own _ rfl _ _ 74 rfl base 5 i0 (.int .u8 0) 1 1 Tryz.underlying74 hi hz0 hz1 hz2 rfl (by decide) _ _ _ rfl (HO.out.alloc _) ⟨w1.heap.size, 0, none⟩ 1 1 [.int .u8 c] rfl rfl ?c1 ?c2 ?c3 ?c4 ?c5 ?_)
  case c1 =>
    intro j u hj
    match j, hj with
    | 0, hj => simp at hj; subst hj; simp [Addr.add]
  case c2 => intro u hu; simp at hu; subst hu; rfl
  case c3 => unfold maxLen; omega
  case c4 => omega
  case c5 => simp; omega
  intro v' w2 hown' hgrow _
  have hblt : b < w1.heap.size := Nat.lt_of_lt_of_le hb hw1
  have hne : v.ownBlock ≠ some b := fun e => by have := own_ge HO.out b e; omega
  have hb2 : w2.heap[b]? = some (.cells #[.pointer (some ⟨b, 0, none⟩), v] 79 (0, 0)) := by
    rw [hgrow.block b (by simp; omega) (fun e => hne e.symm), Lib.alloc_old w1 _ b hblt]
    exact HV.out
  have HB2 := Lib.hid hb2
  have f1 : w2.frozen? ⟨b, 1, none⟩ = false := frozen_of_row _ _ _ _ _ hb2
  have d1 : w2.cell? ⟨b, 1, none⟩ = some v := by simp [World.cell?, hb2]
  have HBL := Lib.hid (show Below base w1 w2 from Below.grown ((Below.refl _ _).alloc hw1 _) hgrow (by simp; omega) (own_ge HO.out))
  obtain ⟨g, cap, rfl⟩ : ∃ g cap, v' = .slice (some ⟨g, 0, none⟩) (bs.length + 1) cap := by
    rcases hown'.2 with ⟨_, h0⟩ | ⟨g, cap, cur, hv, _⟩
    · omega
    · exact ⟨g, cap, hv⟩
  have HO2 := Lib.hid hown'
  clear hgrow hown' hb2 hne
  go_wp2
  go_ret
  refine ⟨rfl, ⟨_, heap_setCell_same _ _ _ _ _ _ HB2.out, ?_⟩, HF.out.trans ((Fr.of HBL.out).trans (Fr.set _ _ _ _ _))⟩
  rw [List.length_append]
  exact ownsRow_setCell_below HO2.out hb _
theorem builder_string (b base : Nat) (p : Value) (l : List UInt8) (w : World) (hp : p = .pointer none ∨ p = .pointer (some ⟨b, 0, none⟩)) (h : BD w b base p (Lib.byteCells l)) (hb : b < base) (hw : base ≤ w.heap.size) :
    Calls Tryz.prog 48 #[.pointer (some ⟨b, 0, none⟩)] w fun e w' => e = .returned (.string ⟨l.toArray⟩) ∧ Below b w w' := by
  obtain ⟨v, hv, hown⟩ := h
  have hne : v.ownBlock ≠ some b := fun e => by have := own_ge hown b e; omega
  have ho : w.ownsRow b 5 1 v (Lib.byteCells l).length (Lib.byteCells l) := by
    refine ⟨hown.1, ?_⟩
    rcases hown.2 with h | ⟨g, cap, cur, h1, h2, h3⟩
    · exact .inl h
    · exact .inr ⟨g, cap, cur, h1, by omega, h3⟩
  have hB : Lib.IsBuilder 79 5 b b (Lib.byteCells l) w := by
    rcases hp with rfl | rfl
    · exact .inl ⟨Nat.le_refl _, v, hv, ho, hne⟩
    · exact .inr ⟨Nat.le_refl _, v, hv, ho, hne⟩
  exact Tryz.Builder_String_any b b l w hB (by omega)
end Go.Proofs.YtcfhenekoaegaaaGreatDoor

/- target: what a reader's rest and decoded tell. -/
namespace Go.Proofs.YtcfhenekoaegaaaGreatDoor
set_option linter.unusedVariables false
set_option linter.unusedSimpArgs false
open Go.RowKit
set_option maxHeartbeats 1000000
/-- a reader's row -/
def RD (w : World) (b : Nat) (s : ByteArray) (p : Bool) : Prop := w.heap[b]? = some (.cells #[.string s, .bool p] 72 (0, 0))
theorem RD.c0 {w : World} {b : Nat} {s : ByteArray} {p : Bool} (h : RD w b s p) : w.cell? ⟨b, 0, none⟩ = some (.string s) := by simp [World.cell?, show w.heap[b]? = _ from h]
theorem RD.c1 {w : World} {b : Nat} {s : ByteArray} {p : Bool} (h : RD w b s p) : w.cell? ⟨b, 1, none⟩ = some (.bool p) := by simp [World.cell?, show w.heap[b]? = _ from h]
theorem RD.below {w w' : World} {B b : Nat} {s : ByteArray} {p : Bool} (h : RD w b s p) (k : Below B w w') (hb : b < B) : RD w' b s p := (k.block b hb).trans h
theorem tg_rest (b : Nat) (s : ByteArray) (p : Bool) (k : Nat) (w : World) (h : RD w b s p) (hk : k ≤ s.size) (hs : s.size ≤ 1000000) :
    Calls Tryz.prog 66 #[.pointer (some ⟨b, 0, none⟩), .int .i64 k] w fun e w' => e = .returned (.string (s.extract k s.size)) ∧ Below w.heap.size w w' := by
  have h0 := h.c0
  have hk1 : (k : Int) ≤ (s.size : Int) := by omega
  have hm : min (k : Int) (s.size : Int) = (k : Int) := by omega
  go_enter Tryz.func66, Tryz.ntmps66
  go_wp2_with fail
  go_quiet (fail)
  go_wp2
  go_ret
  exact ⟨rfl, below_drewN (Below.refl _ _) _⟩
theorem new_block (w : World) (o : Obj) : (w.alloc o).heap[w.heap.size]? = some o := World.alloc_heap_new w o
theorem BD.keep {w w' : World} {b base : Nat} {p : Value} {bs : List Value} (h : BD w b base p bs) (k : Below w.heap.size w w') (hb : b < w.heap.size) : BD w' b base p bs := by
  obtain ⟨v, hv, hown⟩ := h
  refine ⟨v, (k.block b hb).trans hv, hown.1, hown.2.imp id ?_⟩
  rintro ⟨g, cap, cur, h1, h2, h3, h4⟩
  refine ⟨g, cap, cur, h1, h2, (k.block g ?_).trans h3, h4⟩
  rcases Nat.lt_or_ge g w.heap.size with h' | h'
  · exact h'
  · rw [Array.getElem?_eq_none h'] at h3; simp at h3
/-- how a text's decoding ends -/
def decEnd (o : Option (List UInt8)) : Ending := match o with
  | some l => .returned (.string ⟨l.toArray⟩)
  | none => .panicked [{ v := errno 210, recovered := false }]
theorem ext_drop (s : ByteArray) (i : Nat) : (s.extract i s.size).data.toList = s.data.toList.drop i := by
  rw [ByteArray.data_extract, Array.toList_extract, List.extract_eq_take_drop]
  exact List.take_of_length_le (by simp)
theorem ext_take (s : ByteArray) (i : Nat) : (s.extract 0 i).data.toList = s.data.toList.take i := by
  rw [ByteArray.data_extract, Array.toList_extract, List.extract_eq_take_drop]; rfl
theorem bytes_put (acc : List UInt8) (c : UInt8) : Lib.byteCells (acc ++ [c]) = Lib.byteCells acc ++ [.int .u8 (c.toNat : Int)] := by unfold Lib.byteCells; rw [List.map_append]; rfl
set_option maxRecDepth 100000 in
theorem tg_decoded (b : Nat) (s : ByteArray) (pl : Bool) (w : World) (h : RD w b s pl) (hs : s.size ≤ 1000000) :
    Calls Tryz.prog 41 #[.pointer (some ⟨b, 0, none⟩)] w fun e w' => e = decEnd (Gt.dec pl s.data.toList) ∧ Below w.heap.size w w' := by
  have HR := Lib.hid h
  have hb : b < w.heap.size := by
    rcases Nat.lt_or_ge b w.heap.size with h' | h'
    · exact h'
    · rw [RD, Array.getElem?_eq_none h'] at h; simp at h
  clear h
  have HL := Lib.hid (show s.data.toList.length = s.size from rfl)
  have HRA := Lib.hid (HR.out.below ((Below.refl w.heap.size w).alloc (Nat.le_refl _) (.cells #[.pointer none, .slice none 0 0] 79)) hb)
  go_enter Tryz.func41, Tryz.ntmps41
  go_wp2_with fail
  go_loopw [4] (fun i wr => ∃ (k : Nat) (acc : List UInt8) (p : Value), k ≤ s.size ∧ i = .int .i64 k ∧ Gt.DAt pl s.data.toList acc k ∧ RD wr b s pl ∧ BD wr w.heap.size (w.heap.size + 1) p (Lib.byteCells acc) ∧ (p = .pointer none ∨ p = .pointer (some ⟨w.heap.size, 0, none⟩)) ∧ Below w.heap.size w wr ∧ w.heap.size + 1 ≤ wr.heap.size)
    (fun i _ => s.size - (intOf i).toNat)
  case atStart => exact ⟨0, [], .pointer none, Nat.zero_le _, rfl, Gt.dAt_start _ _, HRA.out, ⟨_, new_block _ _, World.ownsRow_nil _ _ _ _⟩, .inl rfl, (Below.refl _ _).alloc (Nat.le_refl _) _, by simp⟩
  case round =>
    obtain ⟨k, acc, p, hk, rfl, hd, hrd, hbd, hp, hbl, hsz⟩ := hrel
    have HD := Lib.hid hd
    have HRD := Lib.hid hrd
    have HBD := Lib.hid hbd
    have HP := Lib.hid hp
    have HBL := Lib.hid hbl
    have HSZ := Lib.hid hsz
    have c0 := hrd.c0
    have c1 := hrd.c1
    clear hd hrd hbd hp hbl hsz
    by_cases hlt : k < s.size
    · obtain ⟨c, hcc⟩ : ∃ c, s.data.toList[k]'(by simpa using hlt) = c := ⟨_, rfl⟩
      have HC := Lib.hid hcc
      obtain ⟨x, hx⟩ : ∃ x : Int, (c.toNat : Int) = x := ⟨_, rfl⟩
      have hsx : ((s[k]'hlt).toNat : Int) = x := by rw [← hx, ← hcc]; rfl
      have HX := Lib.hid hx
      have hr1 : (0 : Int) ≤ x := by omega
      have hr2 : x < 256 := by have := c.toNat_lt; omega
      clear hx hcc
      by_cases h37 : x = 37
      · have HC37 := Lib.hid (show c = 37 from UInt8.toNat_inj.1 (by have := HX.out; show c.toNat = 37; omega))
        subst h37
        have K1 := Lib.hid (show Calls Tryz.prog 66 #[.pointer (some ⟨b, 0, none⟩), .int .i64 ((k : Int) + 1)] wr fun e w' => e = .returned (.string (s.extract (k + 1) s.size)) ∧ Below wr.heap.size wr w' from tg_rest b s pl (k + 1) wr HRD.out (by omega) hs)
        go_wp2_with fail
        refine K1.out.mono ?_
        rintro e w2 ⟨rfl, hb2⟩
        have HB2 := Lib.hid hb2
        obtain ⟨r, hr⟩ : ∃ r, s.extract (k + 1) s.size = r := ⟨_, rfl⟩
        have HRZ := Lib.hid (show r.size = s.size - (k + 1) by rw [← hr]; simp)
        have HRL := Lib.hid (show r.data.toList = s.data.toList.drop (k + 1) by rw [← hr]; exact ext_drop s (k + 1))
        rw [hr]
        clear hr hb2 K1
        by_cases h2 : 2 ≤ r.size
        · have h2i : (2 : Int) ≤ (r.size : Int) := by omega
          have H3 := Lib.hid (show k + 2 < s.data.toList.length by rw [HL.out]; have := HRZ.out; omega)
          obtain ⟨a, ha⟩ : ∃ a, s.data.toList[k + 1]'(by have := H3.out; omega) = a := ⟨_, rfl⟩
          obtain ⟨d, hd⟩ : ∃ d, s.data.toList[k + 2]'H3.out = d := ⟨_, rfl⟩
          have HA := Lib.hid ha
          have HDD := Lib.hid hd
          have HT := Lib.hid (show (r.extract 0 2).data.toList = [a, d] by
            rw [ext_take, HRL.out, Gt.drop1 _ _ (by have := H3.out; omega), Gt.drop1 _ _ (by have := H3.out; omega)]
            simp [ha, hd])
          clear ha hd
          obtain ⟨r2, hr2'⟩ : ∃ r2, r.extract 0 2 = r2 := ⟨_, rfl⟩
          rw [hr2'] at HT
          have K3 := Lib.hid (dec_hexDigits r2 w2 (by rw [← hr2']; simp; omega))
          rw [HT.out] at K3
          obtain ⟨N, hN⟩ : ∃ N, Dp.numN 16 [a, d] = N := ⟨_, rfl⟩
          obtain ⟨E, hE⟩ : ∃ E, Dp.numE 16 [a, d] = E := ⟨_, rfl⟩
          rw [hN, hE] at K3
          have HN := Lib.hid hN
          have HE := Lib.hid hE
          clear hN hE
          go_wp2_with fail
          refine (tg_must 210 w2).mono ?_
          rintro e w3 ⟨rfl, hw3⟩
          subst w3
          go_wp2_with fail
          refine K3.out.mono ?_
          rintro e w4 ⟨rfl, hb4⟩
          have HB4 := Lib.hid (HB2.out.trans (hb4.mono HB2.out.size))
          have HSZ4 := Lib.hid (show w.heap.size + 1 ≤ w4.heap.size from Nat.le_trans HSZ.out HB4.out.size)
          clear hb4 K3
          by_cases hv : Gt.hx a < 16 ∧ Gt.hx d < 16
          · obtain ⟨hE0, hNN⟩ := Gt.num_two hv
            have hEE : E = 0 := by rw [← HE.out]; exact hE0
            have hNT : N = ((Gt.two a d).toNat : Int) := by rw [← HN.out, hNN]; exact (Gt.two_val a d hv).symm
            have hN1 : (0 : Int) ≤ N := by omega
            have hN2 : N < 256 := by have := (Gt.two a d).toNat_lt; omega
            have HNT := Lib.hid hNT
            have HNEXT := Lib.hid (Gt.dAt_pct HD.out H3.out (HC.out.trans HC37.out) (by rw [HA.out, HDD.out]; exact hv))
            have HBD4 := Lib.hid (show BD w4 w.heap.size (w.heap.size + 1) p (Lib.byteCells acc) from HBD.out.keep HB4.out (by have := HSZ.out; omega))
            have K5 := Lib.hid (builder_byte w.heap.size (w.heap.size + 1) p (Lib.byteCells acc) N w4 HP.out HBD4.out (by omega) HSZ4.out (by rw [Lib.byteCells_length]; have := HD.out.2.1; omega))
            subst hEE
            clear hE0 hNN hNT hv
            go_wp2_with fail
            refine (tg_must 210 w4).mono ?_
            rintro e w5 ⟨rfl, hw5⟩
            subst w5
            go_wp2_with fail
            refine K5.out.mono ?_
            rintro e w6 ⟨rfl, hbd6, hfr⟩
            have HBD6 := Lib.hid (show BD w6 w.heap.size (w.heap.size + 1) (.pointer (some ⟨w.heap.size, 0, none⟩)) (Lib.byteCells (acc ++ [Gt.two a d])) by rw [bytes_put, ← HNT.out]; exact hbd6)
            have HBL6 := Lib.hid ((HBL.out.trans (HB4.out.mono HBL.out.size)).trans (hfr.below (Nat.le_refl _) (by omega)))
            have HRD6 := Lib.hid (show RD w6 b s pl from HR.out.below HBL6.out hb)
            have HSZ6 := Lib.hid (Nat.le_trans HSZ4.out hfr.size)
            clear hbd6 hfr K5
            go_wp2
            go_roundw
            case rel => exact ⟨k + 3, acc ++ [Gt.two a d], _, by have := H3.out; rw [HL.out] at this; omega, by go_num, by have := HNEXT.out; simp only [HA.out, HDD.out] at this; exact this, HRD6.out, HBD6.out, .inr rfl, HBL6.out, HSZ6.out⟩
            case measure => simp [intOf]; omega
          · have hEE : E = 110 := by rw [← HE.out]; exact Gt.num_two_no hv
            have HNO := Lib.hid (Gt.dAt_bad HD.out H3.out (HC.out.trans HC37.out) (by rw [HA.out, HDD.out]; exact hv))
            subst hEE
            clear hv
            go_wp2_with fail
            refine (tg_must_no 210 w4).mono ?_
            rintro e w5 ⟨rfl, hw5⟩
            subst w5
            exact ⟨rfl, by rw [HNO.out]; rfl, HBL.out.trans (HB4.out.mono HBL.out.size)⟩
        · have h2i : ¬ (2 : Int) ≤ (r.size : Int) := by omega
          have hdf : decide ((2 : Int) ≤ (r.size : Int)) = false := decide_eq_false h2i
          have HNO := Lib.hid (Gt.dAt_short HD.out (by rw [HL.out]; exact hlt) (HC.out.trans HC37.out) (by rw [HL.out]; have := HRZ.out; omega))
          go_wp2_with fail
          refine (tg_must_no 210 w2).mono ?_
          rintro e w3 ⟨rfl, hw3⟩
          subst w3
          exact ⟨rfl, by rw [HNO.out]; rfl, HBL.out.trans (HB2.out.mono HBL.out.size)⟩
      · have e37 : (x == 37) = false := beq_eq_false_iff_ne.2 h37
        have HC37 := Lib.hid (show c ≠ 37 from fun e => h37 (by rw [← HX.out, e]; rfl))
        have HNEXT0 := Lib.hid (Gt.dAt_one HD.out (by rw [HL.out]; exact hlt) (by rw [HC.out]; exact HC37.out))
        rw [HC.out] at HNEXT0
        clear h37
        have HK := Lib.hid (fun (y : Int) => builder_byte w.heap.size (w.heap.size + 1) p (Lib.byteCells acc) y wr HP.out HBD.out (by omega) HSZ.out (by rw [Lib.byteCells_length]; have := HD.out.2.1; omega))
        by_cases h43 : x = 43
        · have HC43 := Lib.hid (show c = 43 from UInt8.toNat_inj.1 (by have := HX.out; show c.toNat = 43; omega))
          subst h43
          cases pl
          · rw [HC43.out, show Gt.bl false 43 = 43 from rfl] at HNEXT0
            go_wp2_with fail
            refine (HK.out 43).mono ?_
            rintro e w6 ⟨rfl, hbd6, hfr⟩
            have HBD6 := Lib.hid (show BD w6 w.heap.size (w.heap.size + 1) (.pointer (some ⟨w.heap.size, 0, none⟩)) (Lib.byteCells (acc ++ [43])) by rw [bytes_put]; exact hbd6)
            have HBL6 := Lib.hid (HBL.out.trans (hfr.below (Nat.le_refl _) (by omega)))
            have HRD6 := Lib.hid (show RD w6 b s _ from HR.out.below HBL6.out hb)
            have HSZ6 := Lib.hid (Nat.le_trans HSZ.out hfr.size)
            clear hbd6 hfr HK
            go_wp2
            go_roundw
            case rel => exact ⟨k + 1, acc ++ [43], _, hlt, by go_num, HNEXT0.out, HRD6.out, HBD6.out, .inr rfl, HBL6.out, HSZ6.out⟩
            case measure => simp [intOf]; omega
          · rw [HC43.out, show Gt.bl true 43 = 32 from rfl] at HNEXT0
            go_wp2_with fail
            refine (HK.out 32).mono ?_
            rintro e w6 ⟨rfl, hbd6, hfr⟩
            have HBD6 := Lib.hid (show BD w6 w.heap.size (w.heap.size + 1) (.pointer (some ⟨w.heap.size, 0, none⟩)) (Lib.byteCells (acc ++ [32])) by rw [bytes_put]; exact hbd6)
            have HBL6 := Lib.hid (HBL.out.trans (hfr.below (Nat.le_refl _) (by omega)))
            have HRD6 := Lib.hid (show RD w6 b s _ from HR.out.below HBL6.out hb)
            have HSZ6 := Lib.hid (Nat.le_trans HSZ.out hfr.size)
            clear hbd6 hfr HK
            go_wp2
            go_roundw
            case rel => exact ⟨k + 1, acc ++ [32], _, hlt, by go_num, HNEXT0.out, HRD6.out, HBD6.out, .inr rfl, HBL6.out, HSZ6.out⟩
            case measure => simp [intOf]; omega
        · have e43 : (x == 43) = false := beq_eq_false_iff_ne.2 h43
          have HBLC := Lib.hid (show Gt.bl pl c = c from Gt.bl_plain (fun e => h43 (by rw [← HX.out, e]; rfl)))
          clear h43
          go_wp2_with fail
          refine (HK.out x).mono ?_
          rintro e w6 ⟨rfl, hbd6, hfr⟩
          have HBD6 := Lib.hid (show BD w6 w.heap.size (w.heap.size + 1) (.pointer (some ⟨w.heap.size, 0, none⟩)) (Lib.byteCells (acc ++ [Gt.bl pl c])) by rw [bytes_put, HBLC.out, HX.out]; exact hbd6)
          have HBL6 := Lib.hid (HBL.out.trans (hfr.below (Nat.le_refl _) (by omega)))
          have HRD6 := Lib.hid (show RD w6 b s pl from HR.out.below HBL6.out hb)
          have HSZ6 := Lib.hid (Nat.le_trans HSZ.out hfr.size)
          clear hbd6 hfr HK
          go_wp2
          go_roundw
          case rel => exact ⟨k + 1, acc ++ [Gt.bl pl c], _, hlt, by go_num, HNEXT0.out, HRD6.out, HBD6.out, .inr rfl, HBL6.out, HSZ6.out⟩
          case measure => simp [intOf]; omega
    · have HN := Lib.hid (Gt.dAt_end HD.out (by rw [HL.out]; omega))
      have K := Lib.hid (builder_string w.heap.size (w.heap.size + 1) p acc wr HP.out HBD.out (by omega) HSZ.out)
      go_wp2_with fail
      refine K.out.mono ?_
      rintro e w2 ⟨rfl, hb2⟩
      go_wp2
      go_ret
      exact ⟨by rw [HN.out]; rfl, HBL.out.trans hb2⟩
end Go.Proofs.YtcfhenekoaegaaaGreatDoor

/- target: Decode. -/
namespace Go.Proofs.YtcfhenekoaegaaaGreatDoor
set_option linter.unusedVariables false
set_option linter.unusedSimpArgs false
open Go.RowKit
set_option maxHeartbeats 1000000
set_option maxRecDepth 100000
/-- what Decode tells -/
def decOut (o : Option (List UInt8)) : Value := match o with
  | some l => .tuple #[.string ⟨l.toArray⟩, .int .i64 0]
  | none => .tuple #[.string ⟨#[]⟩, .int .i64 210]
theorem tg_clear (a : Addr) (w : World) (old : Value) (hc : w.cell? a = some old) (hz : w.frozen? a = false) :
    Calls Tryz.prog 40 #[.pointer (some a)] w fun e w' => e = .returned (.tuple #[]) ∧ w' = w.setCell a (.string ⟨#[]⟩) := by
  go_enter Tryz.func40, Tryz.ntmps40
  go_wp2
  simp [bodyPost, results, Tryz.results40, go_sem]
theorem clear_enter (cap : Array Value) (W : World) : (callFunc 40 cap).run Tryz.prog W = .ok (.enter 40 cap) W := by
  simp [callFunc, go_sem, Tryz.func40]
  rw [if_neg (by decide), if_neg (by decide)]
theorem tg_Decode (s : ByteArray) (pl : Bool) (w : World) (hs : s.size ≤ 1000000) :
    Calls Tryz.prog 11 #[.string s, .bool pl] w fun e w' => e = .returned (decOut (Gt.dec pl s.data.toList)) ∧ Below w.heap.size w w' := by
  have hmf : ∀ (fn : Fn) (first cap : Array Value) (w : World), (Instr.makeFunc fn first cap).run Tryz.prog w = .ok (.func fn first cap) w := fun _ _ _ _ => rfl
  obtain ⟨W3, hW3⟩ : ∃ W, ((w.alloc (.cells #[.string ⟨#[]⟩] 9)).alloc (.cells #[.int .i64 0] 27)).alloc (.cells #[.string s, .bool pl] 72) = W := ⟨_, rfl⟩
  have HSZ := Lib.hid (show W3.heap.size = w.heap.size + 3 by rw [← hW3]; simp)
  have HRD := Lib.hid (show RD W3 (w.heap.size + 1 + 1) s pl by
    rw [← hW3]
    have := World.alloc_heap_new ((w.alloc (.cells #[.string ⟨#[]⟩] 9)).alloc (.cells #[.int .i64 0] 27)) (.cells #[.string s, .bool pl] 72)
    unfold RD
    simpa using this)
  have HB := Lib.hid (show Below w.heap.size w W3 by
    rw [← hW3]
    exact (((Below.refl _ _).alloc (Nat.le_refl _) _).alloc (by simp) _).alloc (by simp; omega) _)
  have HC0 := Lib.hid (show W3.heap[w.heap.size]? = some (.cells #[.string ⟨#[]⟩] 9 (0, 0)) by
    rw [← hW3, Below.heap_alloc _ _ _ (by simp; omega), Below.heap_alloc _ _ _ (by simp)]
    exact World.alloc_heap_new _ _)
  have HC1 := Lib.hid (show W3.heap[w.heap.size + 1]? = some (.cells #[.int .i64 0] 27 (0, 0)) by
    rw [← hW3, Below.heap_alloc _ _ _ (by simp)]
    have := World.alloc_heap_new (w.alloc (.cells #[.string ⟨#[]⟩] 9)) (.cells #[.int .i64 0] 27)
    simpa using this)
  have HW3 := Lib.hid hW3
  clear hW3
  have K := Lib.hid (tg_decoded (w.heap.size + 1 + 1) s pl W3 HRD.out hs)
  obtain ⟨o, ho⟩ : ∃ o, Gt.dec pl s.data.toList = o := ⟨_, rfl⟩
  rw [ho] at K ⊢
  clear ho
  go_enter_defers Tryz.func11, Tryz.ntmps11
  go_wp2_with fail
  rw [HW3.out]
  refine K.out.mono ?_
  rintro e w4 ⟨rfl, hb⟩
  have hd0 : w4.heap[w.heap.size]? = some (.cells #[.string ⟨#[]⟩] 9 (0, 0)) := (hb.block _ (by rw [HSZ.out]; omega)).trans HC0.out
  have hd1 : w4.heap[w.heap.size + 1]? = some (.cells #[.int .i64 0] 27 (0, 0)) := (hb.block _ (by rw [HSZ.out]; omega)).trans HC1.out
  have HB4 := Lib.hid (HB.out.trans (hb.mono HB.out.size))
  have c0 : w4.cell? ⟨w.heap.size, 0, none⟩ = some (.string ⟨#[]⟩) := by simp [World.cell?, hd0]
  have c1 : w4.cell? ⟨w.heap.size + 1, 0, none⟩ = some (.int .i64 0) := by simp [World.cell?, hd1]
  have z0 : w4.frozen? ⟨w.heap.size, 0, none⟩ = false := frozen_of_row _ _ _ _ _ hd0
  have z1 : w4.frozen? ⟨w.heap.size + 1, 0, none⟩ = false := frozen_of_row _ _ _ _ _ hd1
  clear hb hd0 hd1 K
  cases o with
  | some l =>
    simp only [decEnd, decOut]
    go_wp2
    refine leaves_cons (f := 24) (args := #[.pointer (some ⟨w.heap.size + 1, 0, none⟩), .func (.func 40) #[] #[.pointer (some ⟨w.heap.size, 0, none⟩)]]) (by simp) (by simp [go_sem]) ?_
    refine (tg_caught_idle _ _ _).mono ?_
    rintro e u' w'' ⟨rfl, rfl, rfl⟩
    simp [Leaves, settle, results, Tryz.results11, go_sem, c0, c1]
    exact ⟨rfl, (HB4.out.setCell (Nat.le_refl _) _).setCell (Nat.le_succ _) _⟩
  | none =>
    simp only [decEnd, decOut]
    refine leaves_cons (f := 24) (args := #[.pointer (some ⟨w.heap.size + 1, 0, none⟩), .func (.func 40) #[] #[.pointer (some ⟨w.heap.size, 0, none⟩)]]) (by simp) (by simp [go_sem]) ?_
    have c2 : (w4.setCell ⟨w.heap.size, 0, none⟩ (.string ⟨#[]⟩)).cell? ⟨w.heap.size + 1, 0, none⟩ = some (.int .i64 0) := by rw [World.cell?_setCell_other]; exact c1; simp
    have z2 : (w4.setCell ⟨w.heap.size, 0, none⟩ (.string ⟨#[]⟩)).frozen? ⟨w.heap.size + 1, 0, none⟩ = false := by simpa using z1
    refine (tg_caught ⟨w.heap.size + 1, 0, none⟩ 40 #[.pointer (some ⟨w.heap.size, 0, none⟩)] 210 [] w4 (w4.setCell ⟨w.heap.size, 0, none⟩ (.string ⟨#[]⟩)) (clear_enter _) (tg_clear _ _ _ c0 z0) (.int .i64 0) c2 z2).mono ?_
    rintro e u' w'' ⟨rfl, rfl, rfl⟩
    simp [Leaves, settle, results, Tryz.results11, go_sem, c0, c1]
    exact ⟨rfl, (HB4.out.setCell (Nat.le_refl _) _).setCell (Nat.le_succ _) _⟩
end Go.Proofs.YtcfhenekoaegaaaGreatDoor

/- A number's digits, read back, are that number: with noughts ahead, or in capitals, too. No program in sight. -/
namespace Go.Proofs.YtcfhenekoaegaaaGreatDoor
set_option linter.unusedVariables false
set_option linter.unusedSimpArgs false
namespace Dp
theorem rd_append (b : Int) : ∀ (l r : List UInt8) (n : Int), (rd b l n).2 = 0 → rd b (l ++ r) n = rd b r (rd b l n).1
  | [], r, n, _ => rfl
  | c :: l, r, n, h => by
    simp only [rd, List.cons_append] at h ⊢
    by_cases h1 : mulE n b ≠ 0
    · rw [if_pos h1] at h; simp at h
    · rw [if_neg h1] at h ⊢
      by_cases h2 : addE (mulN n b) (digV c.toNat) ≠ 0
      · rw [if_pos h2] at h; simp at h
      · rw [if_neg h2] at h ⊢
        rw [rd_append b l r _ h, if_neg h1, if_neg h2]
theorem rd_one {b n : Int} {c : UInt8} (h0 : 0 ≤ n * b) (h : n * b + digV c.toNat < 18446744073709551616) : rd b [c] n = (n * b + digV c.toNat, 0) := by
  have hd := digV_lo (c.toNat : Int)
  have e1 : mulE n b = 0 := by unfold mulE; rw [if_pos (by omega)]
  have e2 : mulN n b = n * b := by unfold mulN; rw [if_pos (by omega)]
  have e3 : addE (n * b) (digV c.toNat) = 0 := by unfold addE; rw [if_pos h]
  have e4 : addN (n * b) (digV c.toNat) = n * b + digV c.toNat := by unfold addN; rw [if_pos h]
  simp only [rd]
  rw [if_neg (by rw [e1]; decide), e2, if_neg (by rw [e3]; decide), e4]
theorem dg_val : ∀ i : Fin 16, digV ((dg i.val).toNat : Int) = i.val := by decide +kernel
/-- digits that f turns into digits of the same value -/
theorem rd_digs {b : Nat} (hb : 2 ≤ b) (hb' : b ≤ 16) (f : UInt8 → UInt8) (hf : ∀ i : Fin 16, digV ((f (dg i.val)).toNat : Int) = i.val) :
    ∀ n : Nat, n < 18446744073709551616 → rd b ((digs b n).map f) 0 = ((n : Int), 0) := by
  intro n
  induction n using Nat.strongRecOn with
  | _ n ih =>
    intro hn
    by_cases h : n < b
    · rw [digs_lt h]
      have h1 := hf ⟨n, by omega⟩
      have h2 := rd_one (b := b) (n := 0) (c := f (dg n)) (by simp) (by rw [h1]; simp; omega)
      rw [h1] at h2
      simpa using h2
    · rw [digs_ge hb h, List.map_append]
      have hlt : n / b < n := Nat.div_lt_self (by omega) (by omega)
      have h3 := ih (n / b) hlt (by omega)
      have hm : n % b < b := Nat.mod_lt _ (by omega)
      have h1 := hf ⟨n % b, by omega⟩
      have hq : ((n / b : Nat) : Int) * (b : Int) + ((n % b : Nat) : Int) = (n : Int) := by
        have := Nat.div_add_mod n b
        rw [Nat.mul_comm] at this
        exact_mod_cast this
      have h2 := rd_one (b := b) (n := ((n / b : Nat) : Int)) (c := f (dg (n % b))) (Int.mul_nonneg (Int.natCast_nonneg _) (Int.natCast_nonneg _)) (by rw [h1]; simp only; rw [hq]; omega)
      rw [h1] at h2
      simp only at h2
      rw [hq] at h2
      rw [rd_append _ _ _ _ (by rw [h3]), h3]
      exact h2
theorem all_digs {b : Nat} (hb : 2 ≤ b) (hb' : b ≤ 16) (f : UInt8 → UInt8) (hf : ∀ i : Fin 16, digV ((f (dg i.val)).toNat : Int) = i.val) :
    ∀ n : Nat, allD b ((digs b n).map f) = true := by
  intro n
  induction n using Nat.strongRecOn with
  | _ n ih =>
    by_cases h : n < b
    · rw [digs_lt h]
      have h1 := hf ⟨n, by omega⟩
      simp only at h1
      simp [allD, h1]; omega
    · rw [digs_ge hb h, List.map_append]
      have hlt : n / b < n := Nat.div_lt_self (by omega) (by omega)
      have h3 := ih (n / b) hlt
      have hm : n % b < b := Nat.mod_lt _ (by omega)
      have h1 := hf ⟨n % b, by omega⟩
      simp only at h1
      unfold allD at h3 ⊢
      rw [List.all_append, h3]
      simp [h1]; omega
theorem num_map {b : Nat} (hb : 2 ≤ b) (hb' : b ≤ 16) (f : UInt8 → UInt8) (hf : ∀ i : Fin 16, digV ((f (dg i.val)).toNat : Int) = i.val) (n : Nat) (hn : n < 18446744073709551616) :
    numN b ((digs b n).map f) = n ∧ numE b ((digs b n).map f) = 0 := by
  have h1 := all_digs hb hb' f hf n
  have h2 := rd_digs hb hb' f hf n hn
  have h3 : ¬ ((digs b n).map f = [] ∨ allD b ((digs b n).map f) = false) := by
    rw [h1]
    have := digs_ne b n
    simpa using this
  unfold numN numE
  rw [if_neg h3, if_neg h3, h2]
  exact ⟨rfl, rfl⟩
theorem num_digs {b : Nat} (hb : 2 ≤ b) (hb' : b ≤ 16) (n : Nat) (hn : n < 18446744073709551616) : numN b (digs b n) = n ∧ numE b (digs b n) = 0 := by
  have := num_map hb hb' id (fun i => dg_val i) n hn
  rwa [List.map_id] at this
theorem digs_head {b : Nat} (hb : 2 ≤ b) (hb' : b ≤ 16) : ∀ n : Nat, 1 ≤ n → (digs b n).head? ≠ some 48 := by
  intro n
  induction n using Nat.strongRecOn with
  | _ n ih =>
    intro h1
    by_cases h : n < b
    · rw [digs_lt h]
      have : ∀ i : Fin 16, 1 ≤ i.val → dg i.val ≠ 48 := by decide +kernel
      intro e
      exact this ⟨n, by omega⟩ h1 (by simpa using e)
    · rw [digs_ge hb h]
      have hlt : n / b < n := Nat.div_lt_self (by omega) (by omega)
      have hp : 1 ≤ n / b := (Nat.le_div_iff_mul_le (by omega)).2 (by omega)
      have h3 := ih (n / b) hlt hp
      have h4 := digs_ne b (n / b)
      cases hd : digs b (n / b) with
      | nil => exact absurd hd h4
      | cons c l => rw [hd] at h3; exact h3
theorem par_digs (n : Nat) (hn : n < 18446744073709551616) : parN (digs 10 n) = n ∧ parE (digs 10 n) = 0 := by
  have h := num_digs (b := 10) (by omega) (by omega) n hn
  have h2 : ¬ (1 < (digs 10 n).length ∧ (digs 10 n).head? = some 48) := by
    rintro ⟨h1, h2⟩
    by_cases h0 : 1 ≤ n
    · exact digs_head (b := 10) (by omega) (by omega) n h0 h2
    · rw [digs_lt (by omega)] at h1
      simp at h1
  unfold parN parE
  rw [if_neg h2, if_neg h2]
  exact h
theorem rd_noughts (b : Int) (l : List UInt8) : ∀ k, rd b (List.replicate k 48 ++ l) 0 = rd b l 0
  | 0 => rfl
  | k + 1 => by
    have e1 : mulE 0 b = 0 := by unfold mulE; rw [if_pos (by omega)]
    have e2 : mulN 0 b = 0 := by unfold mulN; rw [if_pos (by omega)]; omega
    have e5 : digV (((48 : UInt8).toNat : Nat) : Int) = 0 := by decide
    have e3 : addE 0 0 = 0 := by decide
    have e4 : addN 0 0 = 0 := by decide
    rw [List.replicate_succ, List.cons_append]
    show (if mulE 0 b ≠ 0 then _ else _) = _
    rw [if_neg (by rw [e1]; decide), e2, e5, if_neg (by rw [e3]; decide), e4]
    exact rd_noughts b l k
theorem num_noughts (l : List UInt8) (k : Nat) (h0 : l ≠ []) (ha : allD 10 l = true) : numN 10 (List.replicate k 48 ++ l) = numN 10 l ∧ numE 10 (List.replicate k 48 ++ l) = numE 10 l := by
  have h1 : allD 10 (List.replicate k 48 ++ l) = true := by
    unfold allD at ha ⊢
    rw [List.all_append, ha, Bool.and_true, List.all_eq_true]
    intro c hc
    have := List.eq_of_mem_replicate hc
    subst this
    decide
  have h2 : ¬ (List.replicate k 48 ++ l = [] ∨ allD 10 (List.replicate k 48 ++ l) = false) := by
    rw [h1]; simp [h0]
  have h3 : ¬ (l = [] ∨ allD 10 l = false) := by rw [ha]; simp [h0]
  unfold numN numE
  rw [if_neg h2, if_neg h2, if_neg h3, if_neg h3, rd_noughts]
  exact ⟨rfl, rfl⟩
theorem digs_noughts (n k : Nat) (hn : n < 18446744073709551616) : numN 10 (List.replicate k 48 ++ digs 10 n) = n ∧ numE 10 (List.replicate k 48 ++ digs 10 n) = 0 := by
  have h := num_noughts (digs 10 n) k (digs_ne 10 n) (by have := all_digs (b := 10) (by omega) (by omega) id (fun i => dg_val i) n; rwa [List.map_id] at this)
  have h2 := num_digs (b := 10) (by omega) (by omega) n hn
  rw [h.1, h.2]
  exact h2
theorem digs_length_le {b : Nat} (hb : 2 ≤ b) : ∀ (k n : Nat), n < b ^ k → 1 ≤ k → (digs b n).length ≤ k
  | 0, n, _, h => absurd h (by omega)
  | k + 1, n, h, _ => by
    by_cases hl : n < b
    · rw [digs_lt hl]; simp
    · rw [digs_ge hb hl, List.length_append]
      have h1 : n / b < b ^ k := by rw [Nat.div_lt_iff_lt_mul (by omega)]; rwa [← Nat.pow_succ]
      have hk : 1 ≤ k := by
        cases k with
        | zero => exact absurd h (by simpa using hl)
        | succ k => omega
      have := digs_length_le hb k (n / b) h1 hk
      simp; omega
end Dp
end Go.Proofs.YtcfhenekoaegaaaGreatDoor

/- The reference's texts of a number are its digits. -/
namespace Go.Proofs.YtcfhenekoaegaaaGreatDoor
set_option linter.unusedVariables false
set_option linter.unusedSimpArgs false
open Go.RowKit
set_option maxHeartbeats 1000000
theorem hex_slice (r : Nat) (h : r < 16) (w : World) : (Instr.slice 9 (.string ⟨#[48, 49, 50, 51, 52, 53, 54, 55, 56, 57, 97, 98, 99, 100, 101, 102]⟩) (some (.int .u64 (r : Int))) (some (.int .u64 ((r : Int) + 1))) none).run Tryz.prog w = .ok (.string ⟨#[Dp.dg r]⟩) w :=
  match r, h with
  | 0, _ => by kernel_rfl
  | 1, _ => by kernel_rfl
  | 2, _ => by kernel_rfl
  | 3, _ => by kernel_rfl
  | 4, _ => by kernel_rfl
  | 5, _ => by kernel_rfl
  | 6, _ => by kernel_rfl
  | 7, _ => by kernel_rfl
  | 8, _ => by kernel_rfl
  | 9, _ => by kernel_rfl
  | 10, _ => by kernel_rfl
  | 11, _ => by kernel_rfl
  | 12, _ => by kernel_rfl
  | 13, _ => by kernel_rfl
  | 14, _ => by kernel_rfl
  | 15, _ => by kernel_rfl
  | n + 16, h => absurd h (by omega)
theorem cons_bytes (c : UInt8) (l : List UInt8) : ((⟨#[c]⟩ : ByteArray) ++ ⟨l.toArray⟩) = ⟨(c :: l).toArray⟩ := by
  apply ByteArray.ext
  rw [ByteArray.data_append]
  simp
end Go.Proofs.YtcfhenekoaegaaaGreatDoor

/- target: strings.Builder's WriteString; which bytes stand for themselves; Encode. -/
namespace Go.Proofs.YtcfhenekoaegaaaGreatDoor
set_option linter.unusedVariables false
set_option linter.unusedSimpArgs false
open Go.RowKit Go.Shelf
set_option maxHeartbeats 2000000
set_option maxRecDepth 100000
theorem builder_text (b base : Nat) (p : Value) (bs : List Value) (s : ByteArray) (w : World) (hp : p = .pointer none ∨ p = .pointer (some ⟨b, 0, none⟩)) (h : BD w b base p bs) (hb : b < base) (hw : base ≤ w.heap.size) (hl : bs.length ≤ 1000000) (hs : s.size ≤ 1000000) :
    Calls Tryz.prog 47 #[.pointer (some ⟨b, 0, none⟩), .string s] w fun e w' => e = .returned (.tuple #[.int .i64 s.size, .nilIface]) ∧ BD w' b base (.pointer (some ⟨b, 0, none⟩)) (bs ++ Lib.strCells s) ∧ Fr b base w w' := by
  obtain ⟨i0, hi, hz0, hz1, hz2⟩ := info_parts (show (Tryz.prog.info? 5).map (fun i => (i.zero, i.size, i.bytes)) = some (some (.int .u8 0), 1, 1) by kernel_rfl)
  have K := Lib.hid (builder_check b base p bs w hp h hb)
  clear h hp
  go_enter Tryz.func47, Tryz.ntmps47
  go_wp2_with fail
  refine K.out.mono ?_
  rintro e w1 ⟨rfl, ⟨v, hv, hown⟩, hfr⟩
  have HV := Lib.hid hv
  have HO := Lib.hid hown
  have HF := Lib.hid hfr
  have hw1 : base ≤ w1.heap.size := Nat.le_trans hw hfr.size
  have c1 : w1.cell? ⟨b, 1, none⟩ = some v := by simp [World.cell?, hv]
  clear K hv hown hfr hw
  go_wp2_with (at_builtin; refine Lib.wpList_append_own_string _ rfl _ _ 74 9 rfl base 5 i0 Tryz.underlying74 Tryz.underlying9 hi hz0 hz1 hz2 _ _ _ rfl HO.out s rfl ?c3 ?c4 ?c5 ?_)
  case c3 => unfold maxLen; omega
  case c4 => omega
  case c5 => omega
  intro v' w2 hown' hgrow _
  have hblt : b < w1.heap.size := Nat.lt_of_lt_of_le hb hw1
  have hne : v.ownBlock ≠ some b := fun e => by have := own_ge HO.out b e; omega
  have hb2 : w2.heap[b]? = some (.cells #[.pointer (some ⟨b, 0, none⟩), v] 79 (0, 0)) := by
    rw [hgrow.block b hblt (fun e => hne e.symm)]
    exact HV.out
  have HB2 := Lib.hid hb2
  have f1 : w2.frozen? ⟨b, 1, none⟩ = false := frozen_of_row _ _ _ _ _ hb2
  have d1 : w2.cell? ⟨b, 1, none⟩ = some v := by simp [World.cell?, hb2]
  have HBL := Lib.hid (show Below base w1 w2 from Below.grown (Below.refl _ _) hgrow hw1 (own_ge HO.out))
  obtain ⟨ao, n', cap, rfl⟩ : ∃ ao n' cap, v' = .slice ao n' cap := by
    rcases hown'.2 with ⟨h0, _⟩ | ⟨g, cap, cur, hv, _⟩
    · exact ⟨_, _, _, h0⟩
    · exact ⟨_, _, _, hv⟩
  have HO2 := Lib.hid hown'
  clear hgrow hown' hb2 hne
  go_wp2
  go_ret2
  refine ⟨rfl, ⟨_, heap_setCell_same _ _ _ _ _ _ HB2.out, ?_⟩, HF.out.trans ((Fr.of HBL.out).trans (Fr.set _ _ _ _ _))⟩
  rw [List.length_append, Lib.strCells_length]
  exact ownsRow_setCell_below HO2.out hb _
theorem enc_bits (c : UInt8) : (Gt.plainB (c.toNat : Int) = true ↔ (0 ≤ Lib.indexByte [45, 46, 95, 126] c ∨ (97 ≤ bits BinOp.or IntKind.u8 (c.toNat : Int) 32 ∧ bits BinOp.or IntKind.u8 (c.toNat : Int) 32 ≤ 122) ∨ (48 ≤ (c.toNat : Int) ∧ (c.toNat : Int) ≤ 57))) ∧ bits BinOp.or IntKind.u64 (c.toNat : Int) 256 = (c.toNat : Int) + 256 := by
  have h : ∀ c : Fin 256, (Gt.plainB (c.val : Int) = true ↔ (0 ≤ Lib.indexByte [45, 46, 95, 126] (UInt8.ofNat c.val) ∨ (97 ≤ bits BinOp.or IntKind.u8 (c.val : Int) 32 ∧ bits BinOp.or IntKind.u8 (c.val : Int) 32 ≤ 122) ∨ (48 ≤ (c.val : Int) ∧ (c.val : Int) ≤ 57))) ∧ bits BinOp.or IntKind.u64 (c.val : Int) 256 = (c.val : Int) + 256 := by decide +kernel
  have := h ⟨c.toNat, c.toNat_lt⟩
  simpa using this
theorem bytes_app (a b : List UInt8) : Lib.byteCells (a ++ b) = Lib.byteCells a ++ Lib.byteCells b := by unfold Lib.byteCells; rw [List.map_append]
theorem hex_up (c : UInt8) : Lib.toUpperA (Dp.digs 16 (c.toNat + 256)) = [49, Gt.up (c.toNat / 16), Gt.up (c.toNat % 16)] := by
  have hc := c.toNat_lt
  rw [Dp.digs_ge (by omega) (by omega), Dp.digs_ge (by omega) (by omega), Dp.digs_lt (by omega)]
  have h : ∀ i : Fin 16, Lib.toUpperA [Dp.dg i.val] = [Gt.up i.val] := by decide +kernel
  have h1 := h ⟨c.toNat / 16, by omega⟩
  have h2 := h ⟨c.toNat % 16, by omega⟩
  simp only at h1 h2
  unfold Lib.toUpperA at *
  rw [List.map_append, List.map_append, show (c.toNat + 256) / 16 / 16 = 1 by omega, show (c.toNat + 256) / 16 % 16 = c.toNat / 16 by omega, show (c.toNat + 256) % 16 = c.toNat % 16 by omega, h1, h2]
  rfl
theorem pct_cells (a b : UInt8) : Lib.strCells ((⟨#[37]⟩ : ByteArray) ++ (⟨[49, a, b].toArray⟩ : ByteArray).extract 1 3) = Lib.byteCells [37, a, b] := by
  have h : ((⟨#[37]⟩ : ByteArray) ++ (⟨[49, a, b].toArray⟩ : ByteArray).extract 1 3) = ⟨[37, a, b].toArray⟩ := by
    apply ByteArray.ext
    simp [ByteArray.data_extract, ByteArray.data_append]
  rw [h]; rfl
theorem digs_ascii (b : Nat) (hb : 2 ≤ b) (hb' : b ≤ 16) (u : Nat) : ∀ x ∈ Dp.digs b u, x.toNat < 128 := by
  have hd : ∀ i : Fin 16, (Dp.dg i.val).toNat < 128 := by decide +kernel
  induction u using Nat.strongRecOn with
  | _ u ih =>
    intro x hx
    by_cases h : u < b
    · rw [Dp.digs_lt h, List.mem_singleton] at hx
      rw [hx]; exact hd ⟨u, by omega⟩
    · rw [Dp.digs_ge hb h, List.mem_append, List.mem_singleton] at hx
      rcases hx with hx | hx
      · exact ih _ (Nat.div_lt_self (by omega) (by omega)) x hx
      · rw [hx]; exact hd ⟨u % b, by have := Nat.mod_lt u (show 0 < b by omega); omega⟩
theorem hex_ascii (u : Nat) (j : Nat) (b : UInt8) (hj : (Dp.digs 16 u)[j]? = some b) : b.toNat < 128 :=
  digs_ascii 16 (by omega) (by omega) u b (List.mem_of_getElem? hj)
theorem hex_size (c : UInt8) : (Dp.digs 16 (c.toNat + 256)).length = 3 := by
  have h := congrArg List.length (hex_up c)
  simpa [Lib.toUpperA] using h
theorem tg_Encode (s : ByteArray) (w : World) (hs : s.size ≤ 100000) (ht : Tabs w) :
    Calls Tryz.prog 13 #[.string s] w fun e w' => e = .returned (.string ⟨(Gt.enc s.data.toList).toArray⟩) ∧ Below w.heap.size w w' := by
  have HT := Lib.hid ht
  have HL := Lib.hid (show s.data.toList.length = s.size from rfl)
  clear ht
  have hcv := fun (W : World) (s : ByteArray) => Lib.run_convert_string_bytes (P := Tryz.prog) W 9 74 5 s Tryz.underlying9 Tryz.underlying74 Tryz.underlying5
  obtain ⟨W3, hW3⟩ : ∃ W, w.alloc (.cells #[.pointer none, .slice none 0 0] 79) = W := ⟨_, rfl⟩
  have HS3 := Lib.hid (show W3.heap.size = w.heap.size + 1 by rw [← hW3]; simp)
  have HB3 := Lib.hid (show Below w.heap.size w W3 by rw [← hW3]; exact (Below.refl _ _).alloc (Nat.le_refl _) _)
  have HD3 := Lib.hid (show W3.heap[w.heap.size]? = some (.cells #[.pointer none, .slice none 0 0] 79 (0, 0)) by rw [← hW3]; exact World.alloc_heap_new _ _)
  have HW3 := Lib.hid hW3
  clear hW3
  go_enter Tryz.func13, Tryz.ntmps13
  go_wp2_with fail
  rw [HW3.out]
  clear hcv
  have HB4 := Lib.hid (HB3.out.trans (below_bytesWorld w.heap.size W3 5 s (by have := HS3.out; omega)))
  have HY4 := Lib.hid (fun (k : Nat) (h : k < s.size) => Lib.bytesWorld_cell W3 5 s k h)
  have HS4 := Lib.hid (Lib.bytesWorld_size W3 5 s)
  have HD4 := Lib.hid (show (Lib.bytesWorld W3 5 s).heap[w.heap.size]? = _ from (Lib.bytesWorld_at_old W3 5 s w.heap.size (by have := HS3.out; omega)).trans HD3.out)
  obtain ⟨W4, hW4⟩ : ∃ W, Lib.bytesWorld W3 5 s = W := ⟨_, rfl⟩
  obtain ⟨cap, hcap⟩ : ∃ c, grownCap W3 s.size 0 5 = c := ⟨_, rfl⟩
  rw [HS3.out] at HY4 HS4
  rw [hW4] at HB4 HY4 HS4 HD4
  simp only [hW4, hcap]
  clear hcap hW4 HB3 HD3
  go_loopw [10] (fun i wr => ∃ (k : Nat) (p : Value), k ≤ s.size ∧ i = .int .i64 k ∧ BD wr w.heap.size (w.heap.size + 1 + 1) p (Lib.byteCells (Gt.enc (s.data.toList.take k))) ∧ (p = .pointer none ∨ p = .pointer (some ⟨w.heap.size, 0, none⟩)) ∧ wr.heap[(w.heap.size + 1)]? = W4.heap[(w.heap.size + 1)]? ∧ Below w.heap.size w wr ∧ w.heap.size + 1 + 1 ≤ wr.heap.size)
    (fun i _ => s.size - (intOf i).toNat)
  case atStart => exact ⟨0, .pointer none, Nat.zero_le _, rfl, ⟨_, HD4.out, World.ownsRow_nil _ _ _ _⟩, .inl rfl, rfl, HB4.out, by rw [HS4.out]; exact Nat.le_refl _⟩
  case round =>
    obtain ⟨k, p, hk, rfl, hbd, hpp, hgb, hbl, hsz⟩ := hrel
    have HBD := Lib.hid hbd
    have HPP := Lib.hid hpp
    have HGB := Lib.hid hgb
    have HBL := Lib.hid hbl
    have HSZ := Lib.hid hsz
    clear hbd hpp hgb hbl hsz HB4 HD4 HS4
    by_cases hlt : k < s.size
    · have HKL := Lib.hid (show k < s.data.toList.length from hlt)
      have hcG : wr.cell? ⟨(w.heap.size + 1), k, none⟩ = some (.int .u8 ((s.data.toList.getD k 0).toNat : Int)) := (World.cell?_of_block (w := W4) HGB.out).trans (HY4.out k hlt)
      rw [show s.data.toList.getD k 0 = s.data.toList[k]'HKL.out by simp [List.getD_eq_getElem?_getD, List.getElem?_eq_getElem HKL.out]] at hcG
      obtain ⟨c, hcc⟩ : ∃ c, s.data.toList[k]'HKL.out = c := ⟨_, rfl⟩
      rw [hcc] at hcG
      have HC := Lib.hid hcc
      clear hcc
      obtain ⟨x, hx⟩ : ∃ x : Int, (c.toNat : Int) = x := ⟨_, rfl⟩
      rw [hx] at hcG
      have HX := Lib.hid hx
      have hr1 : (0 : Int) ≤ x := by omega
      have hr2 : x < 256 := by have := c.toNat_lt; omega
      clear hx
      obtain ⟨HPB, HO8⟩ := enc_bits c
      rw [HX.out] at HPB HO8
      have HCX := Lib.hid (show UInt8.ofNat x.toNat = c by rw [← HX.out]; simp)
      obtain ⟨o, ho⟩ : ∃ o, bits BinOp.or IntKind.u8 x 32 = o := ⟨_, rfl⟩
      obtain ⟨ix, hix⟩ : ∃ i, Lib.indexByte [45, 46, 95, 126] c = i := ⟨_, rfl⟩
      rw [ho, hix] at HPB
      have HP := Lib.hid HPB
      have K0 := Lib.hid (show Calls Tryz.prog 43 #[.string ⟨#[45, 46, 95, 126]⟩, .int .u8 x] wr fun e w' => e = .returned (.int .i64 ix) ∧ w' = wr by
        refine (Tryz.strings_IndexByte _ _ _).mono ?_
        rintro e w' ⟨rfl, rfl⟩
        refine ⟨?_, rfl⟩
        rw [show x.toNat.toUInt8 = c from HCX.out]
        rw [show (⟨#[45, 46, 95, 126]⟩ : ByteArray).data.toList = [45, 46, 95, 126] from rfl, hix])
      clear HPB hix
      have HK := Lib.hid (fun (y : Int) => builder_byte w.heap.size (w.heap.size + 1 + 1) p (Lib.byteCells (Gt.enc (s.data.toList.take k))) y wr HPP.out HBD.out (by omega) HSZ.out (by rw [Lib.byteCells_length]; have := (Gt.enc_length (s.data.toList.take k)).2; rw [List.length_take] at this; omega))
      have HTK := Lib.hid (show s.data.toList.take (k + 1) = s.data.toList.take k ++ [c] by rw [List.take_succ_eq_append_getElem HKL.out, HC.out])
      by_cases hp : Gt.plainB x = true
      · have HE1 := Lib.hid (show Gt.enc1 c = [c] by unfold Gt.enc1; rw [HX.out, if_pos hp])
        have HPI := Lib.hid (HP.out.1 hp)
        clear hp
        go_wp2_with fail
        refine K0.out.mono ?_
        rintro e w2 ⟨rfl, hw2⟩
        subst w2
        go_wp2_with fail
        all_goals first
          | (exfalso; have := HPI.out; omega)
          | skip
        all_goals
          refine (HK.out x).mono ?_
          rintro e w6 ⟨rfl, hbd6, hfr⟩
          have HBD6 := Lib.hid (show BD w6 w.heap.size (w.heap.size + 1 + 1) (.pointer (some ⟨w.heap.size, 0, none⟩)) (Lib.byteCells (Gt.enc (s.data.toList.take (k + 1)))) by rw [HTK.out, Gt.enc_snoc, HE1.out, bytes_put, HX.out]; exact hbd6)
          have HBL6 := Lib.hid (HBL.out.trans (hfr.below (Nat.le_refl _) (by omega)))
          have HGB6 := Lib.hid ((hfr.block (w.heap.size + 1) (by omega) (by omega)).trans HGB.out)
          have HSZ6 := Lib.hid (Nat.le_trans HSZ.out hfr.size)
          clear hbd6 hfr HK
          go_wp2
          go_roundw
          case rel => exact ⟨k + 1, _, hlt, by go_num, HBD6.out, .inr rfl, HGB6.out, HBL6.out, HSZ6.out⟩
          case measure => simp [intOf]; omega
      · have HE1 := Lib.hid (show Gt.enc1 c = [37, Gt.up (c.toNat / 16), Gt.up (c.toNat % 16)] by unfold Gt.enc1; rw [HX.out, if_neg hp])
        have HPI := Lib.hid (show ¬ (0 ≤ ix ∨ ((97 : Int) ≤ o ∧ o ≤ 122) ∨ ((48 : Int) ≤ x ∧ x ≤ 57)) from fun h => hp (HP.out.2 h))
        have hI : decide (0 ≤ ix) = false := decide_eq_false (fun h => HPI.out (.inl h))
        have HO := Lib.hid (show (¬ (97 : Int) ≤ o) ∨ ((97 : Int) ≤ o ∧ ¬ o ≤ 122) by have := HPI.out; omega)
        have HXX := Lib.hid (show (¬ (48 : Int) ≤ x) ∨ ((48 : Int) ≤ x ∧ ¬ x ≤ 57) by have := HPI.out; omega)
        clear hp
        have KH := Lib.hid (show Calls Tryz.prog 46 #[.int .u64 (x + 256)] wr fun e w' => e = .returned (.string ⟨(Dp.digs 16 (c.toNat + 256)).toArray⟩) ∧ Below wr.heap.size wr w' by
          have := dec_hex (c.toNat + 256) wr (by have := c.toNat_lt; omega) (HT.out.below HBL.out)
          rwa [show ((c.toNat + 256 : Nat) : Int) = x + 256 by have := HX.out; omega] at this)
        have KU := Lib.hid (fun W => Tryz.strings_ToUpper_ascii ⟨(Dp.digs 16 (c.toNat + 256)).toArray⟩ W (by show (Dp.digs 16 (c.toNat + 256)).toArray.size ≤ _; rw [List.size_toArray, hex_size]; decide) (fun j b h => hex_ascii (c.toNat + 256) j b (by simpa using h)))
        obtain ⟨U, hU⟩ : ∃ U : ByteArray, ⟨(Dp.digs 16 (c.toNat + 256)).toArray⟩ = U := ⟨_, rfl⟩
        obtain ⟨a, ha⟩ : ∃ a, Gt.up (c.toNat / 16) = a := ⟨_, rfl⟩
        obtain ⟨d, hd⟩ : ∃ d, Gt.up (c.toNat % 16) = d := ⟨_, rfl⟩
        have hUL : U.data.toList = Dp.digs 16 (c.toNat + 256) := by rw [← hU]
        rw [hU, hUL, hex_up, ha, hd] at KU
        rw [hU] at KH
        rw [ha, hd] at HE1
        clear hU ha hd hUL
        obtain ⟨S, hS⟩ : ∃ S : ByteArray, ⟨[49, a, d].toArray⟩ = S := ⟨_, rfl⟩
        have hSz : S.size = 3 := by rw [← hS]; rfl
        have HPC := Lib.hid (pct_cells a d)
        rw [hS] at KU HPC
        clear hS
        go_wp2_with fail
        refine K0.out.mono ?_
        rintro e w2 ⟨rfl, hw2⟩
        subst w2
        rcases HO.out with ho1 | ⟨ho1, ho2⟩ <;> rcases HXX.out with hx1 | ⟨hx1, hx2⟩
        case' inl.inl => have ho3 : decide ((97 : Int) ≤ o) = false := decide_eq_false (by omega)
        case' inl.inl => have hx3 : decide ((48 : Int) ≤ x) = false := decide_eq_false (by omega)
        case' inl.inr => have ho3 : decide ((97 : Int) ≤ o) = false := decide_eq_false (by omega)
        case' inl.inr => have hx3 : decide (x ≤ (57 : Int)) = false := decide_eq_false (by omega)
        case' inr.inl => have ho3 : decide (o ≤ (122 : Int)) = false := decide_eq_false (by omega)
        case' inr.inl => have hx3 : decide ((48 : Int) ≤ x) = false := decide_eq_false (by omega)
        case' inr.inr => have ho3 : decide (o ≤ (122 : Int)) = false := decide_eq_false (by omega)
        case' inr.inr => have hx3 : decide (x ≤ (57 : Int)) = false := decide_eq_false (by omega)
        all_goals
          go_wp2_with fail
          refine KH.out.mono ?_
          rintro e w3 ⟨rfl, hb3⟩
          have HB3 := Lib.hid hb3
          clear hb3
          go_wp2_with fail
          refine (KU.out _).mono ?_
          rintro e w4 ⟨rfl, hb4⟩
          have HB4 := Lib.hid (HB3.out.trans (hb4.mono HB3.out.size))
          clear hb4
          have HBD4 := Lib.hid (HBD.out.keep HB4.out (by have := HSZ.out; omega))
          have HSZ4 := Lib.hid (Nat.le_trans HSZ.out HB4.out.size)
          have HKS := Lib.hid (fun (t : ByteArray) (h : t.size ≤ 1000000) => builder_text w.heap.size (w.heap.size + 1 + 1) p (Lib.byteCells (Gt.enc (s.data.toList.take k))) t w4 HPP.out HBD4.out (by omega) HSZ4.out (by rw [Lib.byteCells_length]; have := (Gt.enc_length (s.data.toList.take k)).2; rw [List.length_take] at this; omega) h)
          go_wp2_with fail
          refine (HKS.out _ (by rw [← Lib.strCells_length, HPC.out]; simp [Lib.byteCells])).mono ?_
          rintro e w6 ⟨rfl, hbd6, hfr⟩
          have HBD6 := Lib.hid (show BD w6 w.heap.size (w.heap.size + 1 + 1) (.pointer (some ⟨w.heap.size, 0, none⟩)) (Lib.byteCells (Gt.enc (s.data.toList.take (k + 1)))) by rw [HTK.out, Gt.enc_snoc, HE1.out, bytes_app, ← HPC.out]; exact hbd6)
          have HBL6 := Lib.hid ((HBL.out.trans (HB4.out.mono HBL.out.size)).trans (hfr.below (Nat.le_refl _) (by omega)))
          have HGB6 := Lib.hid (((hfr.block (w.heap.size + 1) (by omega) (by omega)).trans (HB4.out.block _ (by have := HSZ.out; omega))).trans HGB.out)
          have HSZ6 := Lib.hid (Nat.le_trans HSZ4.out hfr.size)
          clear hbd6 hfr HKS HK
          go_wp2
          go_roundw
          case rel => exact ⟨k + 1, _, hlt, by go_num, HBD6.out, .inr rfl, HGB6.out, HBL6.out, HSZ6.out⟩
          case measure => simp [intOf]; omega
    · have HTK := Lib.hid (show s.data.toList.take k = s.data.toList from List.take_of_length_le (by rw [HL.out]; omega))
      have K := Lib.hid (builder_string w.heap.size (w.heap.size + 1 + 1) p (Gt.enc (s.data.toList.take k)) wr HPP.out HBD.out (by omega) HSZ.out)
      rw [HTK.out] at K
      go_wp2_with fail
      refine K.out.mono ?_
      rintro e w2 ⟨rfl, hb2⟩
      go_wp2
      go_ret
      exact ⟨rfl, HBL.out.trans hb2⟩
end Go.Proofs.YtcfhenekoaegaaaGreatDoor

/- Runes: what a byte above 127 decodes to, iterators over strings, strings.IndexRune of "/\x00". -/
namespace Go.Proofs.YtcfhenekoaegaaaGreatDoor
set_option linter.unusedVariables false
set_option linter.unusedSimpArgs false
open Go.RowKit Go.Shelf
set_option maxHeartbeats 2000000
set_option maxRecDepth 100000
theorem get_at (s : ByteArray) (i : Nat) (h : i < s.size) : s.get! i = s[i]'h := by
  simp [ByteArray.get!, getElem!_pos, h]
  rfl
theorem decodeN_hi (n b0 b1 b2 b3 : Nat) (hn : 1 ≤ n) (h0 : 128 ≤ b0) (h0' : b0 < 256) (h1 : b1 < 256) (h2 : b2 < 256) (h3 : b3 < 256) :
    128 ≤ (Lib.decodeN n b0 b1 b2 b3).1 ∧ (Lib.decodeN n b0 b1 b2 b3).1 ≤ 1114111 ∧ 1 ≤ (Lib.decodeN n b0 b1 b2 b3).2 ∧ (Lib.decodeN n b0 b1 b2 b3).2 ≤ n ∧ (Lib.decodeN n b0 b1 b2 b3).2 ≤ 4 ∧
      (2 ≤ (Lib.decodeN n b0 b1 b2 b3).2 → 128 ≤ b1) ∧ (3 ≤ (Lib.decodeN n b0 b1 b2 b3).2 → 128 ≤ b2) ∧ (4 ≤ (Lib.decodeN n b0 b1 b2 b3).2 → 128 ≤ b3) := by
  unfold Lib.decodeN
  repeat' split
  all_goals (simp only; refine ⟨?_, ?_, ?_, ?_, ?_, ?_, ?_, ?_⟩ <;> first | omega | (intro; omega))
theorem decode_hi (s : ByteArray) (i : Nat) (h : i < s.size) (hb : 128 ≤ (s[i]'h).toNat) :
    ∃ r k : Nat, Utf8.decode s i = (r, k) ∧ 128 ≤ r ∧ r ≤ 1114111 ∧ 1 ≤ k ∧ i + k ≤ s.size ∧ ∀ j, i ≤ j → j < i + k → ∀ hj : j < s.size, 128 ≤ (s[j]'hj).toNat := by
  have g0 := get_at s i h
  have hd := decodeN_hi (s.size - i) (s.get! i).toNat (s.get! (i + 1)).toNat (s.get! (i + 2)).toNat (s.get! (i + 3)).toNat (by omega) (by rw [g0]; exact hb) (UInt8.toNat_lt _) (UInt8.toNat_lt _) (UInt8.toNat_lt _) (UInt8.toNat_lt _)
  rw [← Lib.decode_at] at hd
  refine ⟨(Utf8.decode s i).1, (Utf8.decode s i).2, rfl, hd.1, hd.2.1, hd.2.2.1, by omega, ?_⟩
  intro j hj hk hs
  obtain ⟨_, _, _, h4, h5, hb1, hb2, hb3⟩ := hd
  rcases (show j = i ∨ j = i + 1 ∨ j = i + 2 ∨ j = i + 3 by omega) with e | e | e | e <;> subst e
  · exact hb
  · have := hb1 (by omega); rwa [get_at _ _ hs] at this
  · have := hb2 (by omega); rwa [get_at _ _ hs] at this
  · have := hb3 (by omega); rwa [get_at _ _ hs] at this
theorem encode_hi (r : Int) (h : 128 ≤ r) : 2 ≤ (Utf8.encode r).size ∧ (Utf8.encode r).size ≤ 4 ∧ 128 ≤ ((Utf8.encode r).get! 1).toNat := by
  unfold Utf8.encode
  have hc : 128 ≤ (if Utf8.valid r then r.toNat else Utf8.runeError) := by
    split
    · omega
    · decide
  generalize (if Utf8.valid r then r.toNat else Utf8.runeError) = c at hc
  simp only
  repeat' split
  all_goals first
    | (exfalso; omega)
    | (refine ⟨by simp [ByteArray.size], by simp [ByteArray.size], ?_⟩; simp only [ByteArray.get!]; simp; omega)
/-- an iterator over a string, set -/
def setIter (w : World) (b : Nat) (s : ByteArray) (p : Nat) : World := { w with heap := w.heap.setIfInBounds b (.stringIter s p) }
theorem setIter_at {w : World} {b : Nat} {s t : ByteArray} {p q : Nat} (h : w.heap[b]? = some (.stringIter t q)) : (setIter w b s p).heap[b]? = some (.stringIter s p) := by
  have hb : b < w.heap.size := by
    rcases Nat.lt_or_ge b w.heap.size with h' | h'
    · exact h'
    · rw [Array.getElem?_eq_none h'] at h; simp at h
  simp [setIter, hb]
theorem setIter_below (w : World) (b B : Nat) (s : ByteArray) (p : Nat) (hB : B ≤ b) : Below B w (setIter w b s p) :=
  ⟨rfl, rfl, rfl, by simp [setIter], fun k hk => by simp only [setIter]; rw [Array.getElem?_setIfInBounds_ne]; omega⟩
theorem next_at (w : World) (b : Nat) (s : ByteArray) (pos : Nat) (ty : TypeId) (hb : w.heap[b]? = some (.stringIter s pos)) (h : pos < s.size) :
    (Instr.next (.pointer (some ⟨b, 0, none⟩)) true ty).run Tryz.prog w = .ok (.tuple #[.bool true, .int .i64 pos, .int .i32 (Utf8.decode s pos).1]) (setIter w b s (pos + (Utf8.decode s pos).2)) := by
  simp only [Instr.next, getObj, setObj, Sem.run_bind, Sem.run, hb, Result.andThen, h, if_true]
  simp [goInt, Sem.run, hb, setIter]
theorem next_over (w : World) (b : Nat) (s : ByteArray) (pos : Nat) (ty : TypeId) (hb : w.heap[b]? = some (.stringIter s pos)) (h : ¬ pos < s.size) :
    (Instr.next (.pointer (some ⟨b, 0, none⟩)) true ty).run Tryz.prog w = .ok (.tuple #[.bool false]) w := by
  simp [Instr.next, getObj, Sem.run, hb, h]
def iterPos (w : World) (b : Nat) : Nat := match w.heap[b]? with
  | some (.stringIter _ p) => p
  | _ => 0
theorem iterPos_is {w : World} {b : Nat} {s : ByteArray} {p : Nat} (h : w.heap[b]? = some (.stringIter s p)) : iterPos w b = p := by unfold iterPos; rw [h]
theorem ok_decode (s : ByteArray) (k : Nat) (h : k < s.size) : ∃ r n : Nat, Utf8.decode s k = (r, n) ∧ ((Gt.okB (s.data.toList[k]'h) = true ∧ n = 1 ∧ 33 ≤ r ∧ r ≤ 126 ∧ r ≠ 35) ∨ (Gt.okB (s.data.toList[k]'h) = false ∧ ((r < 33 ∨ 126 < r) ∨ r = 35))) := by
  have hc : s.data.toList[k]'h = s[k]'h := rfl
  rw [hc]
  by_cases ha : (s[k]'h).toNat < 128
  · refine ⟨_, _, decode_ascii s k h ha, ?_⟩
    cases hok : Gt.okB (s[k]'h) with
    | true =>
      left
      unfold Gt.okB at hok
      simp at hok
      refine ⟨rfl, rfl, hok.1.1, hok.1.2, fun e => hok.2 (UInt8.toNat_inj.1 e)⟩
    | false =>
      right
      refine ⟨rfl, ?_⟩
      unfold Gt.okB at hok
      simp at hok
      by_cases h1 : 33 ≤ (s[k]'h).toNat
      · by_cases h2 : (s[k]'h).toNat ≤ 126
        · right; rw [hok h1 h2]; rfl
        · left; right; omega
      · left; left; omega
  · obtain ⟨r, n, hd, h1, _⟩ := decode_hi s k h (by omega)
    refine ⟨r, n, hd, .inr ⟨?_, .inl (.inr (by omega))⟩⟩
    unfold Gt.okB
    rw [show decide ((s[k]'h).toNat ≤ 126) = false from decide_eq_false (by omega)]
    simp
theorem tg_ask1 (s : ByteArray) (w : World) :
    Calls Tryz.prog 59 #[.string s] w fun e w' => e = .returned (.bool (s.data.toList.head? == some 47)) ∧ w' = w := by
  go_enter Tryz.func59, Tryz.ntmps59
  go_wp2_with fail
  refine (Tryz.strings_HasPrefix _ _ _).mono ?_
  rintro e w' ⟨rfl, rfl⟩
  go_wp2
  go_ret
  refine ⟨?_, rfl⟩
  show Ending.returned (Value.bool (Lib.hasPrefix s.data.toList [47])) = _
  congr 2
  cases s.data.toList with
  | nil => rfl
  | cons c l =>
    show ((47 == c) && List.isPrefixOf [] l) = (some c == some 47)
    by_cases h : c = 47
    · subst h; simp
    · rw [beq_eq_false_iff_ne.2 (Ne.symm h)]; simp [h]
theorem tg_ask2 (s : ByteArray) (w : World) :
    Calls Tryz.prog 61 #[.string s] w fun e w' => e = .returned (.bool (s.data.toList.all Gt.okB)) ∧ Below w.heap.size w w' := by
  have HI := Lib.hid (fun W => (World.iter_heap W s 0))
  obtain ⟨A, hA⟩ : ∃ A, s.data.toList.all Gt.okB = A := ⟨_, rfl⟩
  rw [hA]
  have HA := Lib.hid hA
  clear hA
  go_enter Tryz.func61, Tryz.ntmps61
  go_wp2_with fail
  go_loopw [7] (fun _ wr => ∃ k : Nat, k ≤ s.size ∧ wr.heap[w.heap.size]? = some (.stringIter s k) ∧ Below w.heap.size w wr ∧ (s.data.toList.take k).all Gt.okB = true)
    (fun _ wr => s.size - iterPos wr w.heap.size)
  case atStart => exact ⟨0, Nat.zero_le _, HI.out w, (Below.refl _ _).alloc (Nat.le_refl _) _, rfl⟩
  case round =>
    obtain ⟨k, hk, hit, hbl, hal⟩ := hrel
    have HIT := Lib.hid hit
    have HBL := Lib.hid hbl
    have HAL := Lib.hid hal
    by_cases hlt : k < s.size
    · have hn := fun ty => next_at wr w.heap.size s k ty hit hlt
      obtain ⟨r, n, hdec, hor⟩ := ok_decode s k hlt
      rw [hdec] at hn
      have HS2 := Lib.hid (setIter_at (s := s) (p := k + n) hit)
      have HB2 := Lib.hid (hbl.trans (setIter_below wr w.heap.size w.heap.size s (k + n) (Nat.le_refl _)))
      have HTK := Lib.hid (show s.data.toList.take (k + 1) = s.data.toList.take k ++ [s.data.toList[k]'hlt] from List.take_succ_eq_append_getElem hlt)
      have HIK := Lib.hid (iterPos_is hit)
      clear hit hbl hal hdec
      rcases hor with ⟨hok, h1, h2, h3, h4⟩ | ⟨hok, hbad⟩
      · subst h1
        have e1 : decide ((r : Int) < 33) = false := decide_eq_false (by omega)
        have e2 : decide (126 < (r : Int)) = false := decide_eq_false (by omega)
        have e3 : ((r : Int) == 35) = false := beq_eq_false_iff_ne.2 (by omega)
        have HOK := Lib.hid hok
        clear h2 h3 h4 hok
        go_wp2_with fail
        go_roundw
        case rel => exact ⟨k + 1, hlt, HS2.out, HB2.out, by rw [HTK.out, List.all_append, HAL.out, List.all_cons, HOK.out]; rfl⟩
        case measure => rw [iterPos_is HS2.out, HIK.out]; omega
      · have HNO := Lib.hid (show A = false by
          rw [← HA.out, List.all_eq_false]
          exact ⟨_, List.getElem_mem hlt, by rw [hok]; simp⟩)
        have HBD := Lib.hid hbad
        clear hok hbad
        go_wp2_with fail
        all_goals first
          | (exfalso; have := HBD.out; simp only [beq_iff_eq, beq_eq_false_iff_ne, ne_eq, not_or, Bool.not_eq_true] at *; omega)
          | (go_ret; exact ⟨by rw [HNO.out]; rfl, HB2.out⟩)
    · have hn := fun ty => next_over wr w.heap.size s k ty hit hlt
      have HALL := Lib.hid (show A = true by rw [← HA.out]; rw [List.take_of_length_le (by show s.size ≤ k; omega)] at hal; exact hal)
      clear hit hbl hal
      go_wp2
      go_ret
      exact ⟨by rw [HALL.out]; rfl, HBL.out⟩
end Go.Proofs.YtcfhenekoaegaaaGreatDoor

/- strings.IndexRune of "/\x00" at a rune above 127: none; strings.IndexAny, ContainsAny of any text; which parts may be. -/
namespace Go.Proofs.YtcfhenekoaegaaaGreatDoor
set_option linter.unusedVariables false
set_option linter.unusedSimpArgs false
open Go.RowKit Go.Shelf
set_option maxHeartbeats 2000000
set_option maxRecDepth 100000
theorem rune_no (S : ByteArray) (hS : S.size = 2) (hS0 : ∀ k (h : k < S.size), (S[k]'h).toNat < 128) (hS1 : (S[1]'(by omega)).toNat = 0) (r : Int) (w : World) (h : 128 ≤ r) (h' : r ≤ 1114111) :
    Calls Tryz.prog 113 #[.string S, .int .i32 r] w fun e w' => e = .returned (.int .i64 (-1)) ∧ Below w.heap.size w w' := by
  have HS0 := Lib.hid hS0
  have HS1 := Lib.hid hS1
  clear hS0 hS1
  have hr1 : decide (r < 128) = false := decide_eq_false (by omega)
  have hr0 : (0 : Int) ≤ r := by omega
  have HI := Lib.hid (fun W (s : ByteArray) => (World.iter_heap W s 0))
  by_cases he : r = 65533
  · subst he
    clear hr1 hr0 h h'
    go_enter Tryz.func113, Tryz.ntmps113
    go_wp2_with fail
    go_loopw [176] (fun _ wr => ∃ k : Nat, k ≤ 2 ∧ wr.heap[w.heap.size]? = some (.stringIter S k) ∧ Below w.heap.size w wr)
      (fun _ wr => 2 - iterPos wr w.heap.size)
    case atStart => exact ⟨0, Nat.zero_le _, HI.out w _, (Below.refl _ _).alloc (Nat.le_refl _) _⟩
    case round =>
      obtain ⟨k, hk, hit, hbl⟩ := hrel
      have HBL := Lib.hid hbl
      have HIK := Lib.hid (iterPos_is hit)
      by_cases hlt : k < 2
      · have hn := fun ty => next_at wr w.heap.size S k ty hit (by omega)
        have hd : ∃ x : Nat, Utf8.decode S k = (x, 1) ∧ x < 128 := by
          have hlt' : k < S.size := by omega
          exact ⟨_, decode_ascii S k hlt' (HS0.out k hlt'), HS0.out k hlt'⟩
        obtain ⟨x, hdec, hx⟩ := hd
        rw [hdec] at hn
        have hxe : ((x : Int) == 65533) = false := beq_eq_false_iff_ne.2 (by omega)
        have HS2 := Lib.hid (setIter_at (s := S) (p := k + 1) hit)
        have HB2 := Lib.hid (hbl.trans (setIter_below wr w.heap.size w.heap.size S (k + 1) (Nat.le_refl _)))
        clear hit hbl hdec
        go_wp2_with fail
        go_roundw
        case rel => exact ⟨k + 1, hlt, HS2.out, HB2.out⟩
        case measure => rw [iterPos_is HS2.out, HIK.out]; omega
      · have hn := fun ty => next_over wr w.heap.size S k ty hit (by omega)
        clear hit hbl
        go_wp2
        first | go_ret | (rw [onGoto_ret]; go_ret)
        exact ⟨rfl, HBL.out⟩
  · have he1 : (r == 65533) = false := beq_eq_false_iff_ne.2 he
    cases hv : Lib.validRune r with
    | false =>
      have K := Lib.hid (Tryz.utf8_ValidRune r w)
      rw [hv] at K
      clear hv he
      go_enter Tryz.func113, Tryz.ntmps113
      go_wp2_with fail
      refine K.out.mono ?_
      rintro e w2 ⟨rfl, hw2⟩
      subst w2
      go_wp2
      go_ret
      exact ⟨rfl, Below.refl _ _⟩
    | true =>
      have K := Lib.hid (Tryz.utf8_ValidRune r w)
      rw [hv] at K
      obtain ⟨h2, h4, h8⟩ := encode_hi r h
      obtain ⟨R, hR⟩ : ∃ R, Utf8.encode r = R := ⟨_, rfl⟩
      rw [hR] at h2 h4 h8
      have HR := Lib.hid hR
      have H8 := Lib.hid h8
      have hcv : ∀ W, (convert 21 9 (.int .i32 r)).run Tryz.prog W = .ok (.string R) W := fun W => by
        rw [run_convert_int_string W 21 9 .i32 r (by rw [Tryz.underlying21]; rfl) Tryz.underlying9, hR]
      clear hv he h8 hR
      go_enter Tryz.func113, Tryz.ntmps113
      go_wp2_with fail
      refine K.out.mono ?_
      rintro e w2 ⟨rfl, hw2⟩
      subst w2
      go_wp2_with fail
      obtain ⟨n, hn⟩ : ∃ n : Int, (R.size : Int) - 1 = n := ⟨_, rfl⟩
      refine wp_scope_straight ?_
      go_wp2_with fail
      go_loopw [9] (fun i wr => i = .int .i64 n ∧ wr = w)
        (fun _ _ => 0)
      case atStart => exact ⟨rfl, rfl⟩
      case round =>
        obtain ⟨rfl, rfl⟩ := hrel
        by_cases h3 : R.size = 2
        · have hlt : 1 < R.size := by omega
          obtain ⟨y, hy⟩ : ∃ y : Int, ((R[1]'hlt).toNat : Int) = y := ⟨_, rfl⟩
          have hy1 : 128 ≤ y := by have := H8.out; rw [get_at _ _ hlt] at this; omega
          have hy2 : ((0 : Int) == y) = false := beq_eq_false_iff_ne.2 (by omega)
          have hy3 : ((0 : Int) != y) = true := by unfold bne; rw [hy2]; rfl
          have K7 := Lib.hid (fun (W : World) => show Calls Tryz.prog 43 #[.string ByteArray.empty, .int .u8 y] W fun e w' => e = .returned (.int .i64 (-1)) ∧ w' = W by
            refine (Tryz.strings_IndexByte _ _ _).mono ?_
            rintro e w' ⟨rfl, rfl⟩
            exact ⟨rfl, rfl⟩)
          have hn1 : n = 1 := by omega
          subst hn1
          have hz : (((S[1]'(by omega)).toNat : Nat) : Int) = 0 := by rw [HS1.out]; rfl
          have hls : (2 : Int) ≤ (S.size : Int) := by omega
          clear h2 h4 HR
          go_wp2_with fail
          refine wp_scope_straight ?_
          go_wp2_with fail
          go_quiet (fail)
          go_wp2_with fail
          have hwr : IntKind.i64.wrap 2 = 2 := by decide
          have HBW := Lib.hid (show Below wr.heap.size wr (wr.drewN nq) from below_drewN (Below.refl _ _) _)
          obtain ⟨w2, hw2⟩ : ∃ W, wr.drewN nq = W := ⟨_, rfl⟩
          rw [hw2] at HBW ⊢
          clear hw2
          go_quiet ((go_at_call 43; exact Calls.quiet_of_same (K7.out _)))
          go_wp2
          rw [Exit.noGoto_ret]
          have HF := Lib.hid (HBW.out.trans ((below_drewN (Below.refl w2.heap.size w2) nq).mono HBW.out.size))
          change bodyPost Tryz.prog Tryz.f113 (fun e w' => e = Ending.returned (Value.int IntKind.i64 (-1)) ∧ Below wr.heap.size wr w') Exit.ret _ _
          go_ret
          exact ⟨rfl, HF.out⟩
        · have h3i : ¬ ((R.size : Int) - 1 < 2) := by omega
          go_wp2_with fail
          go_ret
          exact ⟨rfl, Below.refl _ _⟩
namespace Gt
/-- a byte that no part may have -/
def badB (c : UInt8) : Bool := c == 47 || c == 0
theorem ix_bad : ∀ c : Fin 256, decide (0 ≤ Lib.indexByte [47, 0] (UInt8.ofNat c.val)) = badB (UInt8.ofNat c.val) := by decide +kernel
theorem ix_bad' (c : UInt8) : decide (0 ≤ Lib.indexByte [47, 0] c) = badB c := by
  have := ix_bad ⟨c.toNat, c.toNat_lt⟩
  simpa using this
theorem any_take (l : List UInt8) (k n : Nat) (hk : (l.take k).any badB = false) (hn : k + n ≤ l.length) (h : ∀ j, k ≤ j → j < k + n → ∀ hj : j < l.length, 128 ≤ (l[j]'hj).toNat) : (l.take (k + n)).any badB = false := by
  rw [List.any_eq_false] at hk ⊢
  intro x hx
  rw [List.mem_take_iff_getElem] at hx
  obtain ⟨j, hj, rfl⟩ := hx
  by_cases hjk : j < k
  · exact hk _ (List.mem_take_iff_getElem.2 ⟨j, by omega, rfl⟩)
  · have := h j (by omega) (by omega) (by omega)
    unfold badB
    simp only [Bool.or_eq_true, beq_iff_eq, not_or]
    constructor <;> (intro e; rw [e] at this; exact absurd this (by decide))
end Gt
theorem rune_none (r : Int) (w : World) (h : 128 ≤ r) (h' : r ≤ 1114111) :
    Calls Tryz.prog 113 #[.string ⟨#[47, 0]⟩, .int .i32 r] w fun e w' => e = .returned (.int .i64 (-1)) ∧ Below w.heap.size w w' :=
  rune_no ⟨#[47, 0]⟩ rfl (fun k hk => by
    rcases (show k = 0 ∨ k = 1 by have : k < 2 := hk; omega) with e | e <;> subst e
    · show (47 : UInt8).toNat < 128; decide
    · show (0 : UInt8).toNat < 128; decide) rfl r w h h'
end Go.Proofs.YtcfhenekoaegaaaGreatDoor

/- strings.IndexAny and ContainsAny of any text at "/\x00"; which parts may be. -/
namespace Go.Proofs.YtcfhenekoaegaaaGreatDoor
set_option linter.unusedVariables false
set_option linter.unusedSimpArgs false
open Go.RowKit Go.Shelf
set_option maxHeartbeats 2000000
set_option maxRecDepth 100000
theorem any_short (s : ByteArray) (w : World) (h8 : s.size ≤ 8) :
    Calls Tryz.prog 92 #[.string s, .string ⟨#[47, 0]⟩] w fun e w' => (∃ v : Int, e = .returned (.int .i64 v) ∧ decide (0 ≤ v) = s.data.toList.any Gt.badB) ∧ Below w.heap.size w w' := by
  have HI := Lib.hid (fun W => (World.iter_heap W s 0))
  have h8z : decide ((8 : Int) < (s.size : Int)) = false := decide_eq_false (by omega)
  obtain ⟨A, hA⟩ : ∃ A, s.data.toList.any Gt.badB = A := ⟨_, rfl⟩
  rw [hA]
  have HA := Lib.hid hA
  clear hA h8
  go_enter Tryz.func92, Tryz.ntmps92
  go_wp2_with fail
  refine (Tryz.strings_shouldUseASCIISet _ _).mono ?_
  rintro e w1 ⟨rfl, hw1⟩
  subst w1
  rw [h8z]
  go_wp2_with fail
  go_loopw [46] (fun _ wr => ∃ k : Nat, k ≤ s.size ∧ wr.heap[w.heap.size]? = some (.stringIter s k) ∧ Below w.heap.size w wr ∧ (s.data.toList.take k).any Gt.badB = false)
    (fun _ wr => s.size - iterPos wr w.heap.size)
  case atStart => exact ⟨0, Nat.zero_le _, HI.out w, (Below.refl _ _).alloc (Nat.le_refl _) _, rfl⟩
  case round =>
    obtain ⟨k, hk, hit, hbl, hal⟩ := hrel
    have HBL := Lib.hid hbl
    have HAL := Lib.hid hal
    have HIK := Lib.hid (iterPos_is hit)
    by_cases hlt : k < s.size
    · have hn := fun ty => next_at wr w.heap.size s k ty hit hlt
      have HCC := Lib.hid (show s.data.toList[k]'hlt = s[k]'hlt from rfl)
      obtain ⟨c, hc⟩ : ∃ c, s[k]'hlt = c := ⟨_, rfl⟩
      by_cases ha : c.toNat < 128
      · rw [decode_ascii s k hlt (by rw [hc]; exact ha), hc] at hn
        have HS2 := Lib.hid (setIter_at (s := s) (p := k + 1) hit)
        have HB2 := Lib.hid (hbl.trans (setIter_below wr w.heap.size w.heap.size s (k + 1) (Nat.le_refl _)))
        obtain ⟨w2, hw2⟩ : ∃ W, setIter wr w.heap.size s (k + 1) = W := ⟨_, rfl⟩
        rw [hw2] at HS2 HB2
        simp only [hw2] at hn
        obtain ⟨x, hx⟩ : ∃ x : Int, (c.toNat : Int) = x := ⟨_, rfl⟩
        have hx1 : (0 : Int) ≤ x := by omega
        have hx2 : x < 128 := by omega
        have HXC := Lib.hid (show x.toNat.toUInt8 = c by rw [← hx]; simp)
        simp only [hx] at hn
        have HC := Lib.hid (HCC.out.trans hc)
        clear hit hbl hal hc hw2 hx ha
        obtain ⟨v, hv⟩ : ∃ v, Lib.indexByte [47, 0] c = v := ⟨_, rfl⟩
        have K := Lib.hid (show Calls Tryz.prog 113 #[.string ⟨#[47, 0]⟩, .int .i32 x] w2 fun e w' => e = .returned (.int .i64 v) ∧ w' = w2 by
          refine (Tryz.strings_IndexRune_ascii _ _ _ hx1 hx2).mono ?_
          rintro e w' ⟨rfl, rfl⟩
          refine ⟨?_, rfl⟩
          rw [HXC.out]
          rw [show (⟨#[47, 0]⟩ : ByteArray).data.toList = [47, 0] from rfl, hv])
        have HV := Lib.hid (show decide (0 ≤ v) = Gt.badB c by rw [← hv]; exact Gt.ix_bad' c)
        clear hv hx1 hx2
        by_cases hv0 : 0 ≤ v
        · have HT := Lib.hid (show A = true by
            rw [← HA.out, List.any_eq_true]
            refine ⟨_, List.getElem_mem hlt, ?_⟩
            rw [HC.out, ← HV.out]
            exact decide_eq_true hv0)
          go_wp2_with fail
          refine K.out.mono ?_
          rintro e w3 ⟨rfl, hw3⟩
          subst w3
          go_wp2
          go_ret
          exact ⟨⟨(k : Int), rfl, by rw [HT.out]; exact decide_eq_true (by omega)⟩, HB2.out⟩
        · have hvf : decide (0 ≤ v) = false := decide_eq_false hv0
          have HNX := Lib.hid (show (s.data.toList.take (k + 1)).any Gt.badB = false by
            rw [List.take_succ_eq_append_getElem hlt, List.any_append, HAL.out, List.any_cons, HC.out, ← HV.out, hvf]; rfl)
          go_wp2_with fail
          refine K.out.mono ?_
          rintro e w3 ⟨rfl, hw3⟩
          subst w3
          go_wp2
          go_roundw
          case rel => exact ⟨k + 1, hlt, HS2.out, HB2.out, HNX.out⟩
          case measure => rw [iterPos_is HS2.out, HIK.out]; omega
      · obtain ⟨r, n, hd, hr1, hr2, hn1, hn2, hall⟩ := decode_hi s k hlt (by rw [hc]; omega)
        rw [hd] at hn
        have HS2 := Lib.hid (setIter_at (s := s) (p := k + n) hit)
        have HB2 := Lib.hid (hbl.trans (setIter_below wr w.heap.size w.heap.size s (k + n) (Nat.le_refl _)))
        have HSZ := Lib.hid (show w.heap.size < (setIter wr w.heap.size s (k + n)).heap.size by
          rcases Nat.lt_or_ge w.heap.size (setIter wr w.heap.size s (k + n)).heap.size with h' | h'
          · exact h'
          · have := HS2.out; rw [Array.getElem?_eq_none h'] at this; simp at this)
        obtain ⟨w2, hw2⟩ : ∃ W, setIter wr w.heap.size s (k + n) = W := ⟨_, rfl⟩
        rw [hw2] at HS2 HB2 HSZ
        simp only [hw2] at hn
        have HNX := Lib.hid (Gt.any_take s.data.toList k n HAL.out hn2 hall)
        obtain ⟨x, hx⟩ : ∃ x : Int, (r : Int) = x := ⟨_, rfl⟩
        have K := Lib.hid (rune_none x w2 (by omega) (by omega))
        simp only [hx] at hn
        have HN := Lib.hid (show 1 ≤ n ∧ k + n ≤ s.size from ⟨hn1, hn2⟩)
        clear hit hbl hal hc hw2 hx ha hr1 hr2 hn1 hn2 hall hd
        go_wp2_with fail
        refine K.out.mono ?_
        rintro e w3 ⟨rfl, hb3⟩
        have HS3 := Lib.hid ((hb3.block w.heap.size HSZ.out).trans HS2.out)
        have HB3 := Lib.hid (HB2.out.trans (hb3.mono HB2.out.size))
        clear hb3
        go_wp2
        go_roundw
        case rel => exact ⟨k + n, HN.out.2, HS3.out, HB3.out, HNX.out⟩
        case measure => rw [iterPos_is HS3.out, HIK.out]; have := HN.out; omega
    · have hn := fun ty => next_over wr w.heap.size s k ty hit hlt
      have HF := Lib.hid (show A = false by rw [← HA.out]; rw [List.take_of_length_le (by show s.size ≤ k; omega)] at hal; exact hal)
      clear hit hbl hal
      go_wp2
      go_ret
      exact ⟨⟨-1, rfl, by rw [HF.out]; rfl⟩, HBL.out⟩
theorem index_bad : ∀ l : List UInt8, decide (0 ≤ Lib.indexAny l [47, 0]) = l.any Gt.badB
  | [] => rfl
  | b :: l => by
    have ih := index_bad l
    have hg := Lib.indexAny_ge [47, 0] l
    have hb : ([47, 0] : List UInt8).contains b = Gt.badB b := by
      unfold Gt.badB
      show List.elem b [47, 0] = _
      unfold List.elem
      cases h1 : b == 47
      · unfold List.elem
        cases h2 : b == 0 <;> rfl
      · rfl
    rw [List.any_cons, ← ih, ← hb]
    have hu : Lib.indexAny (b :: l) [47, 0] = if ([47, 0] : List UInt8).contains b = true then 0 else if (Lib.indexAny l [47, 0] == -1) = true then -1 else Lib.indexAny l [47, 0] + 1 := by simp only [Lib.indexAny]
    rw [hu]
    by_cases h : ([47, 0] : List UInt8).contains b = true
    · rw [if_pos h, h]; rfl
    · rw [if_neg h, Bool.eq_false_iff.2 h, Bool.false_or]
      split
      · rename_i he
        rw [beq_iff_eq.1 he]
      · rename_i he
        have : Lib.indexAny l [47, 0] ≠ -1 := fun e => he (beq_iff_eq.2 e)
        exact decide_eq_decide.2 ⟨fun _ => by omega, fun _ => by omega⟩
theorem tg_contains (s : ByteArray) (w : World) (hs : s.size ≤ 1000000) :
    Calls Tryz.prog 75 #[.string s, .string ⟨#[47, 0]⟩] w fun e w' => e = .returned (.bool (s.data.toList.any Gt.badB)) ∧ Below w.heap.size w w' := by
  have K : Hid (Calls Tryz.prog 92 #[.string s, .string ⟨#[47, 0]⟩] w fun e w' => (∃ v : Int, e = .returned (.int .i64 v) ∧ decide (0 ≤ v) = s.data.toList.any Gt.badB) ∧ Below w.heap.size w w') := by
    refine Lib.hid ?_
    by_cases h8 : s.size ≤ 8
    · exact any_short s w h8
    · have hv : ∀ w, (zeroValue 145).run Tryz.prog w = .ok (.agg (Array.replicate 256 (.bool false))) w := (zero_of_info (show (Tryz.prog.info? 145).map (fun i => (i.zero, i.size)) = some (some (.agg (Array.replicate 256 (.bool false))), 256) by kernel_rfl)).1
      refine (Tryz.strings_IndexAny_long hv s ⟨#[47, 0]⟩ w (by decide) (by omega) (by omega) (by decide) ?_).mono ?_
      · intro j b hj
        have hb : b ∈ ([47, 0] : List UInt8) := List.mem_of_getElem? hj
        simp at hb
        rcases hb with rfl | rfl <;> decide
      · rintro e w' ⟨rfl, rfl⟩
        refine ⟨⟨_, rfl, index_bad s.data.toList⟩, ?_⟩
        exact ((Below.refl _ _).alloc (Nat.le_refl _) _).alloc (by simp) _
  obtain ⟨A, hA⟩ : ∃ A, s.data.toList.any Gt.badB = A := ⟨_, rfl⟩
  rw [hA] at K ⊢
  clear hA
  go_enter Tryz.func75, Tryz.ntmps75
  go_wp2_with fail
  refine K.out.mono ?_
  rintro e w' ⟨⟨v, rfl, hv⟩, hb⟩
  have HV := Lib.hid hv
  clear hv
  go_wp2
  go_ret
  exact ⟨by rw [← HV.out]; rfl, hb⟩
end Go.Proofs.YtcfhenekoaegaaaGreatDoor

/- How a text is cut at a byte, once or wherever it stands, as plain functions: no program in sight. No conditions but those that each law states. -/
namespace Go.Proofs.YtcfhenekoaegaaaGreatDoor
set_option linter.unusedVariables false
set_option linter.unusedSimpArgs false
namespace Gs
/-- where a byte stands first; the length: nowhere -/
def pos (b : UInt8) : List UInt8 → Nat
  | [] => 0
  | c :: l => if c = b then 0 else pos b l + 1
theorem pos_le (b : UInt8) : ∀ l : List UInt8, pos b l ≤ l.length
  | [] => Nat.le_refl _
  | c :: l => by
    have := pos_le b l
    unfold pos
    split <;> simp <;> omega
theorem pos_here (b : UInt8) (l : List UInt8) : pos b (b :: l) = 0 := by unfold pos; rw [if_pos rfl]
theorem pos_next (b c : UInt8) (l : List UInt8) (h : c ≠ b) : pos b (c :: l) = pos b l + 1 := by conv => lhs; unfold pos; rw [if_neg h]
theorem pos_none {b : UInt8} : ∀ {l : List UInt8}, (∀ c ∈ l, c ≠ b) → pos b l = l.length
  | [], _ => rfl
  | c :: l, h => by rw [pos_next _ _ _ (h c List.mem_cons_self), pos_none fun d hd => h d (List.mem_cons_of_mem _ hd)]; rfl
theorem pos_mid {b : UInt8} : ∀ {l r : List UInt8}, (∀ c ∈ l, c ≠ b) → pos b (l ++ b :: r) = l.length
  | [], r, _ => pos_here b r
  | c :: l, r, h => by rw [List.cons_append, pos_next _ _ _ (h c List.mem_cons_self), pos_mid fun d hd => h d (List.mem_cons_of_mem _ hd)]; rfl
/-- a scan has come to i -/
def PAt (b : UInt8) (l : List UInt8) (i : Nat) : Prop := i ≤ l.length ∧ pos b l = i + pos b (l.drop i)
theorem pAt_start (b : UInt8) (l : List UInt8) : PAt b l 0 := ⟨Nat.zero_le _, by simp⟩
theorem pAt_next {b : UInt8} {l : List UInt8} {i : Nat} (h : PAt b l i) (hi : i < l.length) (hc : l[i] ≠ b) : PAt b l (i + 1) := by
  refine ⟨hi, ?_⟩
  rw [h.2, List.drop_eq_getElem_cons hi, pos_next _ _ _ hc]; omega
theorem pAt_hit {b : UInt8} {l : List UInt8} {i : Nat} (h : PAt b l i) (hi : i < l.length) (hc : l[i] = b) : pos b l = i := by
  rw [h.2, List.drop_eq_getElem_cons hi, hc, pos_here]; omega
theorem pAt_end {b : UInt8} {l : List UInt8} {i : Nat} (h : PAt b l i) (hi : l.length ≤ i) : pos b l = i := by
  rw [h.2, List.drop_eq_nil_of_le hi]; rfl
theorem prefix_one (b c : UInt8) (l : List UInt8) : ([b] : List UInt8).isPrefixOf (c :: l) = (b == c) := by simp [List.isPrefixOf]
theorem index_is (b : UInt8) : ∀ l : List UInt8, Lib.index l [b] = if pos b l < l.length then ((pos b l : Nat) : Int) else -1
  | [] => rfl
  | c :: l => by
    have ih := index_is b l
    rw [Lib.index, prefix_one]
    by_cases h : c = b
    · subst h
      rw [pos_here, beq_self_eq_true, if_pos rfl, if_pos (by simp)]; rfl
    · rw [beq_eq_false_iff_ne.2 (Ne.symm h), if_neg (by decide), ih, pos_next _ _ _ h]
      by_cases hp : pos b l < l.length
      · have h1 : (if pos b l < l.length then ((pos b l : Nat) : Int) else -1) = ((pos b l : Nat) : Int) := if_pos hp
        have h2 : (((pos b l : Nat) : Int) == -1) = false := beq_eq_false_iff_ne.2 (by omega)
        have h3 : pos b l + 1 < (c :: l).length := by rw [List.length_cons]; omega
        rw [h1, h2, if_neg (by decide), if_pos h3]; rfl
      · have h1 : (if pos b l < l.length then ((pos b l : Nat) : Int) else -1) = -1 := if_neg hp
        have h3 : ¬ pos b l + 1 < (c :: l).length := by rw [List.length_cons]; omega
        rw [h1, if_pos (by rfl), if_neg h3]
/-- a text cut at the first such byte -/
theorem cut_is (b : UInt8) (l : List UInt8) : Lib.cut l [b] = (l.take (pos b l), l.drop (pos b l + 1), decide (pos b l < l.length)) := by
  unfold Lib.cut
  rw [index_is]
  have := pos_le b l
  by_cases hp : pos b l < l.length
  · rw [if_pos hp, if_pos (by omega), decide_eq_true hp]; simp
  · rw [if_neg hp, if_neg (by decide), decide_eq_false hp, List.take_of_length_le (by omega), List.drop_eq_nil_of_le (by omega)]
/-- the parts of a text between bytes b, 'cur' its first part so far -/
def parts (b : UInt8) : List UInt8 → List UInt8 → List (List UInt8)
  | cur, [] => [cur]
  | cur, c :: l => if c = b then cur :: parts b [] l else parts b (cur ++ [c]) l
theorem parts_nil (b : UInt8) (cur : List UInt8) : parts b cur [] = [cur] := rfl
theorem parts_here (b : UInt8) (cur l : List UInt8) : parts b cur (b :: l) = cur :: parts b [] l := by conv => lhs; unfold parts; rw [if_pos rfl]
theorem parts_next (b c : UInt8) (cur l : List UInt8) (h : c ≠ b) : parts b cur (c :: l) = parts b (cur ++ [c]) l := by conv => lhs; unfold parts; rw [if_neg h]
theorem parts_cur (z : UInt8) : ∀ (l a b : List UInt8), parts z (a ++ b) l = (match parts z b l with | h :: t => (a ++ h) :: t | [] => [])
  | [], a, b => rfl
  | c :: l, a, b => by
    unfold parts
    by_cases h : c = z
    · rw [if_pos h, if_pos h]
    · rw [if_neg h, if_neg h, List.append_assoc, parts_cur z l a (b ++ [c])]
theorem parts_ne (z : UInt8) : ∀ (l a : List UInt8), parts z a l ≠ []
  | [], a => by unfold parts; simp
  | c :: l, a => by
    unfold parts
    by_cases h : c = z
    · rw [if_pos h]; simp
    · rw [if_neg h]; exact parts_ne z l _
theorem split_is (z : UInt8) : ∀ l : List UInt8, Lib.splitK [z] 0 (Lib.count l [z]) l = parts z [] l
  | [] => by rw [Lib.count_miss (by simp [Lib.index])]; rfl
  | c :: l => by
    have ih := split_is z l
    unfold parts
    by_cases h : c = z
    · subst h
      have hix : Lib.index (c :: l) [c] = 0 := by rw [Lib.index]; simp [List.isPrefixOf]
      rw [if_pos rfl, Lib.count_cons_eq, Nat.add_comm, Lib.splitK, hix, ← ih]
      rfl
    · rw [if_neg h, Lib.count_cons_ne c z l h, List.nil_append, show [c] = [c] ++ [] from rfl, parts_cur, ← ih]
      cases hn : Lib.count l [z] with
      | zero => rfl
      | succ n =>
        obtain ⟨j, hj⟩ := Lib.index_of_count (s := l) (old := [z]) (by omega)
        have hp : ([z] : List UInt8).isPrefixOf (c :: l) = false := by simp [List.isPrefixOf, Ne.symm h]
        have hix : Lib.index (c :: l) [z] = ((j + 1 : Nat) : Int) := by
          rw [Lib.index, hp]
          simp [hj]
        rw [Lib.splitK, Lib.splitK, hix, hj]
        have h1 : ¬ ((((j + 1 : Nat) : Int)) == -1) = true := by intro e; have := beq_iff_eq.1 e; omega
        have h2 : ¬ (((j : Nat) : Int) == -1) = true := by intro e; have := beq_iff_eq.1 e; omega
        rw [if_neg h1, if_neg h2]
        simp only [Int.toNat_natCast, Nat.add_zero, List.take_succ_cons, List.singleton_append, List.length_singleton, List.drop_succ_cons]
theorem splitB_is (z : UInt8) (s : ByteArray) : (Lib.splitB ⟨#[z]⟩ 0 (Lib.countB s ⟨#[z]⟩) s).map (·.data.toList) = parts z [] s.data.toList := by
  rw [Lib.splitB_data]
  exact split_is z _
theorem parts_len (z : UInt8) : ∀ (l a : List UInt8), ∀ p ∈ parts z a l, p.length ≤ a.length + l.length
  | [], a, p, hp => by
    have : p = a := by simpa [parts] using hp
    subst this
    omega
  | c :: l, a, p, hp => by
    unfold parts at hp
    by_cases h : c = z
    · rw [if_pos h] at hp
      rcases List.mem_cons.1 hp with rfl | hp
      · omega
      · have := parts_len z l [] p hp; simp only [List.length_nil, List.length_cons] at *; omega
    · rw [if_neg h] at hp
      have := parts_len z l _ p hp
      simp only [List.length_append, List.length_cons, List.length_nil] at *
      omega
theorem parts_many (z : UInt8) : ∀ (l a : List UInt8), (parts z a l).length ≤ l.length + 1
  | [], a => by simp [parts]
  | c :: l, a => by
    unfold parts
    by_cases h : c = z
    · rw [if_pos h]; have := parts_many z l []; simp; omega
    · rw [if_neg h]; have := parts_many z l (a ++ [c]); simp; omega
theorem parts_one {z : UInt8} : ∀ {l : List UInt8} (a : List UInt8), (∀ c ∈ l, c ≠ z) → parts z a l = [a ++ l]
  | [], a, _ => by simp [parts]
  | c :: l, a, h => by
    rw [parts_next _ _ _ _ (h c List.mem_cons_self), parts_one (a ++ [c]) fun d hd => h d (List.mem_cons_of_mem _ hd), List.append_assoc]; rfl
theorem parts_mid {z : UInt8} : ∀ {l : List UInt8} (a r : List UInt8), (∀ c ∈ l, c ≠ z) → parts z a (l ++ z :: r) = (a ++ l) :: parts z [] r
  | [], a, r, _ => by rw [List.nil_append, parts_here, List.append_nil]
  | c :: l, a, r, h => by
    rw [List.cons_append, parts_next _ _ _ _ (h c List.mem_cons_self), parts_mid (a ++ [c]) r fun d hd => h d (List.mem_cons_of_mem _ hd), List.append_assoc]; rfl
/-- the parts as a scan finds them: those so far, where the part under way began, and where the scan is -/
def SAt (z : UInt8) (l : List UInt8) (L : List (List UInt8)) (a k : Nat) : Prop :=
  L.length ≤ k ∧ ((k ≤ l.length ∧ a ≤ k ∧ L ++ parts z ((l.drop a).take (k - a)) (l.drop k) = parts z [] l) ∨ (k = l.length + 1 ∧ L = parts z [] l))
theorem sAt_start (z : UInt8) (l : List UInt8) : SAt z l [] 0 0 := ⟨Nat.le_refl _, .inl ⟨Nat.zero_le _, Nat.le_refl _, rfl⟩⟩
theorem take_more (l : List UInt8) (a k : Nat) (h : a ≤ k) (hk : k < l.length) : (l.drop a).take (k - a) ++ [l[k]] = (l.drop a).take (k + 1 - a) := by
  rw [show k + 1 - a = (k - a) + 1 by omega, List.take_succ_eq_append_getElem (by rw [List.length_drop]; omega), List.getElem_drop]
  congr 3
  omega
theorem sAt_more {z : UInt8} {l : List UInt8} {L : List (List UInt8)} {a k : Nat} (h : SAt z l L a k) (hk : k < l.length) (hc : l[k] ≠ z) : SAt z l L a (k + 1) := by
  obtain ⟨h1, h2⟩ := h
  rcases h2 with ⟨_, ha, h2⟩ | ⟨h2, _⟩
  · refine ⟨by omega, .inl ⟨by omega, by omega, ?_⟩⟩
    rw [List.drop_eq_getElem_cons hk, parts_next _ _ _ _ hc, take_more l a k ha hk] at h2
    exact h2
  · omega
theorem sAt_cut {z : UInt8} {l : List UInt8} {L : List (List UInt8)} {a k : Nat} (h : SAt z l L a k) (hk : k ≤ l.length) (hc : ∀ h : k < l.length, l[k] = z) : SAt z l (L ++ [(l.drop a).take (k - a)]) (k + 1) (k + 1) := by
  obtain ⟨h1, h2⟩ := h
  rcases h2 with ⟨_, ha, h2⟩ | ⟨h2, _⟩
  · refine ⟨by rw [List.length_append, List.length_singleton]; omega, ?_⟩
    by_cases hlt : k < l.length
    · refine .inl ⟨hlt, Nat.le_refl _, ?_⟩
      rw [List.drop_eq_getElem_cons hlt, hc hlt, parts_here] at h2
      rw [Nat.sub_self, List.take_zero, List.append_assoc]
      exact h2
    · refine .inr ⟨by omega, ?_⟩
      have : k = l.length := by omega
      rw [this, List.drop_length, parts_nil] at h2
      rw [this]
      exact h2
  · omega
theorem sAt_ha {z : UInt8} {l : List UInt8} {L : List (List UInt8)} {a k : Nat} (h : SAt z l L a k) (hk : k ≤ l.length) : a ≤ k := by
  rcases h.2 with ⟨_, h, _⟩ | ⟨h, _⟩
  · exact h
  · omega
theorem sAt_end {z : UInt8} {l : List UInt8} {L : List (List UInt8)} {a k : Nat} (h : SAt z l L a k) (hk : l.length < k) : L = parts z [] l := by
  rcases h.2 with ⟨h, _⟩ | ⟨_, h⟩
  · omega
  · exact h
end Gs
end Go.Proofs.YtcfhenekoaegaaaGreatDoor

/- Targets read and written, as plain functions: no program in sight. No conditions but those that each law states. -/
namespace Go.Proofs.YtcfhenekoaegaaaGreatDoor
set_option linter.unusedVariables false
set_option linter.unusedSimpArgs false
namespace Gt
/-- things made of others, as far as none is refused -/
def all? {α β : Type} (f : α → Option β) : List α → Option (List β)
  | [] => some []
  | x :: l => match f x with
    | none => none
    | some y => (all? f l).map (y :: ·)
theorem all_nil {α β : Type} (f : α → Option β) : all? f [] = some [] := rfl
theorem all_none {α β : Type} {f : α → Option β} {x : α} {l : List α} (h : f x = none) : all? f (x :: l) = none := by unfold all?; rw [h]
theorem all_some {α β : Type} {f : α → Option β} {x : α} {l : List α} {y : β} (h : f x = some y) : all? f (x :: l) = (all? f l).map (y :: ·) := by conv => lhs; unfold all?; rw [h]
/-- k of them are made -/
def AAt {α β : Type} (f : α → Option β) (L : List α) (acc : List β) (k : Nat) : Prop := k ≤ L.length ∧ acc.length = k ∧ all? f L = (all? f (L.drop k)).map (acc ++ ·)
theorem aAt_start {α β : Type} (f : α → Option β) (L : List α) : AAt f L [] 0 := ⟨Nat.zero_le _, rfl, by cases h : all? f L <;> simp [h]⟩
theorem aAt_next {α β : Type} {f : α → Option β} {L : List α} {acc : List β} {k : Nat} {y : β} (h : AAt f L acc k) (hk : k < L.length) (hy : f L[k] = some y) : AAt f L (acc ++ [y]) (k + 1) := by
  refine ⟨hk, by simp [h.2.1], ?_⟩
  rw [h.2.2, List.drop_eq_getElem_cons hk, all_some hy]
  cases all? f (L.drop (k + 1)) <;> simp
theorem aAt_bad {α β : Type} {f : α → Option β} {L : List α} {acc : List β} {k : Nat} (h : AAt f L acc k) (hk : k < L.length) (hy : f L[k] = none) : all? f L = none := by
  rw [h.2.2, List.drop_eq_getElem_cons hk, all_none hy]; rfl
theorem aAt_end {α β : Type} {f : α → Option β} {L : List α} {acc : List β} {k : Nat} (h : AAt f L acc k) (hk : L.length ≤ k) : all? f L = some acc := by
  rw [h.2.2, List.drop_eq_nil_of_le hk, all_nil]; simp
theorem all_map {α β γ : Type} {f : α → Option β} {g : γ → α} {h : γ → β} (hg : ∀ x, f (g x) = some (h x)) : ∀ l : List γ, all? f (l.map g) = some (l.map h)
  | [] => rfl
  | x :: l => by rw [List.map_cons, all_some (hg x), all_map hg l]; rfl
theorem all_length {α β : Type} {f : α → Option β} : ∀ {l : List α} {r : List β}, all? f l = some r → r.length = l.length
  | [], r, h => by cases h; rfl
  | x :: l, r, h => by
    cases hx : f x with
    | none => rw [all_none hx] at h; cases h
    | some y =>
      rw [all_some hx] at h
      cases hl : all? f l with
      | none => rw [hl] at h; cases h
      | some t => rw [hl] at h; cases h; simp [all_length hl]
theorem all_each {α β : Type} {f : α → Option β} : ∀ {l : List α} {r : List β}, all? f l = some r → ∀ y ∈ r, ∃ x ∈ l, f x = some y
  | [], r, h, y, hy => by cases h; cases hy
  | x :: l, r, h, y, hy => by
    cases hx : f x with
    | none => rw [all_none hx] at h; cases h
    | some z =>
      rw [all_some hx] at h
      cases hl : all? f l with
      | none => rw [hl] at h; cases h
      | some t =>
        rw [hl] at h; cases h
        rcases List.mem_cons.1 hy with rfl | hy
        · exact ⟨x, List.mem_cons_self, hx⟩
        · obtain ⟨x', h1, h2⟩ := all_each hl y hy
          exact ⟨x', List.mem_cons_of_mem _ h1, h2⟩
def segs (s : List UInt8) : List (List UInt8) := Gs.parts 47 [] ((s.take (Gs.pos 63 s)).drop 1)
def qrys (s : List UInt8) : List (List UInt8) := (Gs.parts 38 [] (s.drop (Gs.pos 63 s + 1))).filter fun l => !l.isEmpty
def seg (l : List UInt8) : Option (List UInt8) := match dec false l with
  | none => none
  | some p => if fine p then some p else none
theorem seg_some {l p : List UInt8} (h : dec false l = some p) : seg l = if fine p then some p else none := by unfold seg; rw [h]
theorem seg_none {l : List UInt8} (h : dec false l = none) : seg l = none := by unfold seg; rw [h]
def pairOf (l : List UInt8) : Option (List UInt8 × List UInt8) := match dec true (l.take (Gs.pos 61 l)) with
  | none => none
  | some k => (dec true (l.drop (Gs.pos 61 l + 1))).map fun v => (k, v)
theorem pairOf_none {l : List UInt8} (h : dec true (l.take (Gs.pos 61 l)) = none) : pairOf l = none := by unfold pairOf; rw [h]
theorem pairOf_some {l k : List UInt8} (h : dec true (l.take (Gs.pos 61 l)) = some k) : pairOf l = (dec true (l.drop (Gs.pos 61 l + 1))).map fun v => (k, v) := by unfold pairOf; rw [h]
def ok (s : List UInt8) : Bool := s.head? == some 47 && s.all okB
def parse (s : List UInt8) : Option (List (List UInt8) × List (List UInt8 × List UInt8)) :=
  if ok s then (match all? seg (segs s) with
    | none => none
    | some P => (all? pairOf (qrys s)).map fun Q => (P, Q)) else none
theorem parse_bad {s : List UInt8} (h : ok s = false) : parse s = none := by unfold parse; rw [h]; rfl
theorem parse_segs {s : List UInt8} (h : ok s = true) (h1 : all? seg (segs s) = none) : parse s = none := by unfold parse; rw [if_pos h, h1]
theorem parse_is {s : List UInt8} {P : List (List UInt8)} (h : ok s = true) (h1 : all? seg (segs s) = some P) : parse s = (all? pairOf (qrys s)).map fun Q => (P, Q) := by unfold parse; rw [if_pos h, h1]
def right (P : List (List UInt8)) : Bool := !P.isEmpty && P.all fine
def ptext (P : List (List UInt8)) : List UInt8 := P.flatMap fun p => 47 :: enc p
def pr (q : List UInt8 × List UInt8) : List UInt8 := enc q.1 ++ 61 :: enc q.2
def qtext : List (List UInt8 × List UInt8) → List UInt8
  | [] => []
  | q :: Q => 63 :: (pr q ++ Q.flatMap fun q => 38 :: pr q)
def text (P : List (List UInt8)) (Q : List (List UInt8 × List UInt8)) : List UInt8 := ptext P ++ qtext Q
theorem plain_ok : ∀ c : Fin 256, plainB c.val = true → okB (UInt8.ofNat c.val) = true ∧ c.val ≠ 47 ∧ c.val ≠ 63 ∧ c.val ≠ 38 ∧ c.val ≠ 61 := by decide +kernel
theorem up_ok : ∀ i : Fin 16, okB (up i.val) = true ∧ up i.val ≠ 47 ∧ up i.val ≠ 63 ∧ up i.val ≠ 38 ∧ up i.val ≠ 61 := by decide +kernel
def goodB (c : UInt8) : Prop := okB c = true ∧ c ≠ 47 ∧ c ≠ 63 ∧ c ≠ 38 ∧ c ≠ 61
theorem enc1_good (c : UInt8) : ∀ d ∈ enc1 c, goodB d := by
  intro d hd
  unfold enc1 at hd
  by_cases h : plainB (c.toNat : Int) = true
  · rw [if_pos h] at hd
    obtain rfl := List.mem_singleton.1 hd
    have h1 := plain_ok ⟨d.toNat, d.toNat_lt⟩ h
    simp only [UInt8.ofNat_toNat] at h1
    exact ⟨h1.1, fun e => h1.2.1 (by rw [e]; rfl), fun e => h1.2.2.1 (by rw [e]; rfl), fun e => h1.2.2.2.1 (by rw [e]; rfl), fun e => h1.2.2.2.2 (by rw [e]; rfl)⟩
  · rw [if_neg h] at hd
    have h2 := c.toNat_lt
    rcases List.mem_cons.1 hd with rfl | hd
    · exact ⟨by decide, by decide, by decide, by decide, by decide⟩
    rcases List.mem_cons.1 hd with rfl | hd
    · exact up_ok ⟨c.toNat / 16, by omega⟩
    · obtain rfl := List.mem_singleton.1 hd
      exact up_ok ⟨c.toNat % 16, by omega⟩
theorem enc_good (l : List UInt8) : ∀ d ∈ enc l, goodB d := by
  intro d hd
  obtain ⟨c, _, h⟩ := List.mem_flatMap.1 hd
  exact enc1_good c d h
theorem pr_mem (q : List UInt8 × List UInt8) : ∀ c ∈ pr q, okB c = true ∧ c ≠ 38 := by
  intro c hc
  rcases List.mem_append.1 hc with h | h
  · have := enc_good _ c h; exact ⟨this.1, this.2.2.2.1⟩
  · rcases List.mem_cons.1 h with rfl | h
    · exact ⟨by decide, by decide⟩
    · have := enc_good _ c h; exact ⟨this.1, this.2.2.2.1⟩
theorem ptext_mem (P : List (List UInt8)) : ∀ c ∈ ptext P, okB c = true ∧ c ≠ 63 := by
  intro c hc
  obtain ⟨p, _, h⟩ := List.mem_flatMap.1 hc
  rcases List.mem_cons.1 h with rfl | h
  · exact ⟨by decide, by decide⟩
  · have := enc_good _ c h; exact ⟨this.1, this.2.2.1⟩
theorem qtext_mem : ∀ (Q : List (List UInt8 × List UInt8)), ∀ c ∈ qtext Q, okB c = true
  | [], c, h => by cases h
  | q :: Q, c, h => by
    rcases List.mem_cons.1 h with rfl | h
    · decide
    rcases List.mem_append.1 h with h | h
    · exact (pr_mem q c h).1
    · obtain ⟨r, _, h⟩ := List.mem_flatMap.1 h
      rcases List.mem_cons.1 h with rfl | h
      · decide
      · exact (pr_mem r c h).1
theorem parts_ptext : ∀ (p : List UInt8) (P : List (List UInt8)), Gs.parts 47 [] (enc p ++ ptext P) = (p :: P).map enc
  | p, [] => by
    show Gs.parts 47 [] (enc p ++ []) = _
    rw [List.append_nil, Gs.parts_one [] fun c hc => (enc_good p c hc).2.1]; rfl
  | p, q :: P => by
    show Gs.parts 47 [] (enc p ++ (47 :: enc q ++ ptext P)) = _
    rw [List.cons_append, Gs.parts_mid [] _ fun c hc => (enc_good p c hc).2.1, parts_ptext q P]; rfl
theorem parts_qtext : ∀ (q : List UInt8 × List UInt8) (Q : List (List UInt8 × List UInt8)), Gs.parts 38 [] (pr q ++ Q.flatMap fun q => 38 :: pr q) = (q :: Q).map pr
  | q, [] => by
    show Gs.parts 38 [] (pr q ++ []) = _
    rw [List.append_nil, Gs.parts_one [] fun c hc => (pr_mem q c hc).2]; rfl
  | q, r :: Q => by
    show Gs.parts 38 [] (pr q ++ (38 :: pr r ++ Q.flatMap fun q => 38 :: pr q)) = _
    rw [List.cons_append, Gs.parts_mid [] _ fun c hc => (pr_mem q c hc).2, parts_qtext r Q]; rfl
theorem pairOf_pr (q : List UInt8 × List UInt8) : pairOf (pr q) = some q := by
  have hp : Gs.pos 61 (pr q) = (enc q.1).length := Gs.pos_mid fun c hc => (enc_good _ c hc).2.2.2.2
  have h1 : (pr q).take (Gs.pos 61 (pr q)) = enc q.1 := by rw [hp]; unfold pr; simp
  have h2 : (pr q).drop (Gs.pos 61 (pr q) + 1) = enc q.2 := by rw [hp]; unfold pr; rw [← List.drop_drop]; simp
  rw [pairOf_some (by rw [h1]; exact dec_enc true _), h2, dec_enc]
  rfl
theorem pos_text {P : List (List UInt8)} {Q : List (List UInt8 × List UInt8)} : Gs.pos 63 (text P Q) = (ptext P).length := by
  unfold text
  cases Q with
  | nil =>
    show Gs.pos 63 (ptext P ++ []) = _
    rw [List.append_nil]
    exact Gs.pos_none fun c hc => (ptext_mem P c hc).2
  | cons q Q => exact Gs.pos_mid fun c hc => (ptext_mem P c hc).2
theorem all_fine : ∀ {P : List (List UInt8)}, P.all fine = true → all? seg (P.map enc) = some P
  | [], _ => rfl
  | p :: P, h => by
    rw [List.all_cons, Bool.and_eq_true] at h
    rw [List.map_cons, all_some (by rw [seg_some (dec_enc false p), if_pos h.1]), all_fine h.2]; rfl
/-- a target's text is that target's -/
theorem parse_text {P : List (List UInt8)} {Q : List (List UInt8 × List UInt8)} (h : right P = true) : parse (text P Q) = some (P, Q) := by
  unfold right at h
  rw [Bool.and_eq_true] at h
  obtain ⟨p, P, rfl⟩ : ∃ p P', P = p :: P' := by
    cases P with
    | nil => simp at h
    | cons p P => exact ⟨p, P, rfl⟩
  have hok : ok (text (p :: P) Q) = true := by
    unfold ok
    rw [Bool.and_eq_true]
    refine ⟨rfl, List.all_eq_true.2 fun c hc => ?_⟩
    rcases List.mem_append.1 hc with h | h
    · exact (ptext_mem _ c h).1
    · exact qtext_mem Q c h
  have hs : segs (text (p :: P) Q) = (p :: P).map enc := by
    unfold segs
    rw [pos_text]
    unfold text
    rw [List.take_left']
    · exact parts_ptext p P
    · rfl
  have hq : qrys (text (p :: P) Q) = Q.map pr := by
    unfold qrys
    rw [pos_text]
    unfold text
    rw [← List.drop_drop, List.drop_left']
    · cases Q with
      | nil => rfl
      | cons q Q =>
        show (Gs.parts 38 [] (pr q ++ Q.flatMap fun q => 38 :: pr q)).filter _ = _
        rw [parts_qtext]
        refine List.filter_eq_self.2 fun l hl => ?_
        obtain ⟨r, _, rfl⟩ := List.mem_map.1 hl
        unfold pr
        simp
    · rfl
  rw [parse_is hok (by rw [hs]; exact all_fine h.2), hq, all_map (h := id) pairOf_pr, List.map_id]
  rfl
/-- of a text that is taken no part is dots, or has a stroke -/
theorem parse_right {s : List UInt8} {P : List (List UInt8)} {Q : List (List UInt8 × List UInt8)} (h : parse s = some (P, Q)) : right P = true := by
  cases hok : ok s with
  | false => rw [parse_bad hok] at h; cases h
  | true =>
    cases hs : all? seg (segs s) with
    | none => rw [parse_segs hok hs] at h; cases h
    | some R =>
      rw [parse_is hok hs] at h
      cases hq : all? pairOf (qrys s) with
      | none => rw [hq] at h; cases h
      | some T =>
        rw [hq] at h
        cases h
        unfold right
        rw [Bool.and_eq_true]
        refine ⟨?_, List.all_eq_true.2 fun p hp => ?_⟩
        · have h1 := all_length hs
          have h2 := Gs.parts_ne 47 ((s.take (Gs.pos 63 s)).drop 1) []
          cases P with
          | nil => exact absurd (List.length_eq_zero_iff.1 (show (segs s).length = 0 by rw [← h1]; rfl)) h2
          | cons _ _ => rfl
        · obtain ⟨x, _, hx⟩ := all_each hs p hp
          unfold seg at hx
          cases hd : dec false x with
          | none => rw [hd] at hx; cases hx
          | some y =>
            rw [hd] at hx
            simp only at hx
            split at hx
            · cases hx; assumption
            · cases hx
end Gt
end Go.Proofs.YtcfhenekoaegaaaGreatDoor

/- target: which parts may be (fine), part. -/
namespace Go.Proofs.YtcfhenekoaegaaaGreatDoor
set_option linter.unusedVariables false
set_option linter.unusedSimpArgs false
open Go.RowKit Go.Shelf
set_option maxHeartbeats 2000000
set_option maxRecDepth 100000
theorem all_bad (l : List UInt8) : (l.all fun c => c != 47 && c != 0) = !l.any Gt.badB := by
  induction l with
  | nil => rfl
  | cons c l ih =>
    rw [List.all_cons, List.any_cons, ih]
    unfold Gt.badB
    cases h1 : c == 47 <;> cases h2 : c == 0 <;> simp [bne, h1, h2]
theorem tg_fine (s : ByteArray) (w : World) (hs : s.size ≤ 1000000) :
    Calls Tryz.prog 51 #[.string s] w fun e w' => e = .returned (.bool (Gt.fine s.data.toList)) ∧ Below w.heap.size w w' := by
  have K := Lib.hid (tg_contains s w hs)
  obtain ⟨A, hA⟩ : ∃ A, s.data.toList.any Gt.badB = A := ⟨_, rfl⟩
  rw [hA] at K
  have HF := Lib.hid (show Gt.fine s.data.toList = (!(s.data.toList == [46]) && !(s.data.toList == [46, 46]) && !A) by unfold Gt.fine; rw [all_bad, hA])
  clear hA
  go_enter Tryz.func51, Tryz.ntmps51
  go_wp2_with fail
  · rename_i h1
    rw [Lib.toList_data] at h1
    go_ret
    refine ⟨?_, Below.refl _ _⟩
    rw [HF.out, h1]; rfl
  · rename_i h1 h2
    rw [Lib.toList_data] at h1 h2
    go_ret
    refine ⟨?_, Below.refl _ _⟩
    rw [HF.out, h2]; rfl
  · have h1 : ¬ s.toList = [46] := by assumption
    have h2 : ¬ s.toList = [46, 46] := by assumption
    rw [Lib.toList_data] at h1 h2
    have HF2 := Lib.hid (show Gt.fine s.data.toList = !A by
      rw [HF.out, beq_eq_false_iff_ne.2 h1, beq_eq_false_iff_ne.2 h2]; rfl)
    have e1 : (s.toList == [46]) = false := by rw [Lib.toList_data]; exact beq_eq_false_iff_ne.2 h1
    have e2 : (s.toList == [46, 46]) = false := by rw [Lib.toList_data]; exact beq_eq_false_iff_ne.2 h2
    refine K.out.mono ?_
    rintro e w' ⟨rfl, hb⟩
    have HB := Lib.hid hb
    clear hb h1 h2
    go_wp2
    go_ret
    refine ⟨?_, HB.out⟩
    rw [HF2.out]
    simp [e1, e2]
theorem tg_part (s : ByteArray) (w : World) (hs : s.size ≤ 1000000) :
    Calls Tryz.prog 30 #[.string s] w fun e w' => e = decEnd (Gt.seg s.data.toList) ∧ Below w.heap.size w w' := by
  obtain ⟨W1, hW⟩ : ∃ W, w.alloc (.cells #[.string s, .bool false] 72) = W := ⟨_, rfl⟩
  have HRD := Lib.hid (show RD W1 w.heap.size s false by rw [← hW]; exact World.alloc_heap_new _ _)
  have HB := Lib.hid (show Below w.heap.size w W1 by rw [← hW]; exact (Below.refl _ _).alloc (Nat.le_refl _) _)
  have HW := Lib.hid hW
  clear hW
  have K := Lib.hid (tg_decoded w.heap.size s false W1 HRD.out hs)
  have HDL := Lib.hid (fun r (h : Gt.dec false s.data.toList = some r) => Gt.dec_length false _ s.data.toList r (Nat.le_refl _) h)
  cases hd : Gt.dec false s.data.toList with
  | none =>
    rw [hd] at K
    have HS := Lib.hid (Gt.seg_none hd)
    clear hd
    go_enter Tryz.func30, Tryz.ntmps30
    go_wp2_with fail
    rw [HW.out]
    refine K.out.mono ?_
    rintro e w2 ⟨rfl, hb⟩
    exact ⟨rfl, by rw [HS.out]; rfl, HB.out.trans (hb.mono HB.out.size)⟩
  | some p =>
    rw [hd] at K
    have HS := Lib.hid (Gt.seg_some hd)
    have HP := Lib.hid (HDL.out p hd)
    clear hd HDL
    obtain ⟨P, hP⟩ : ∃ P : ByteArray, ⟨p.toArray⟩ = P := ⟨_, rfl⟩
    have HPL := Lib.hid (show P.data.toList = p by rw [← hP])
    have K' := Lib.hid (show Calls Tryz.prog 41 #[.pointer (some ⟨w.heap.size, 0, none⟩)] W1 fun e w' => e = .returned (.string P) ∧ Below W1.heap.size W1 w' by
      rw [← hP]; exact K.out)
    have HPE := Lib.hid hP
    have hps : P.size ≤ 1000000 := by
      have h1 := HP.out
      have h2 : P.data.toList.length = P.size := rfl
      have h3 : s.data.toList.length = s.size := rfl
      rw [HPL.out] at h2
      omega
    have HPS := Lib.hid hps
    clear hP K hps
    go_enter Tryz.func30, Tryz.ntmps30
    go_wp2_with fail
    rw [HW.out]
    refine K'.out.mono ?_
    rintro e w2 ⟨rfl, hb⟩
    have HB2 := Lib.hid (HB.out.trans (hb.mono HB.out.size))
    clear hb
    go_wp2_with fail
    refine (tg_fine P w2 HPS.out).mono ?_
    rintro e w3 ⟨rfl, hb3⟩
    have HB3 := Lib.hid (HB2.out.trans (hb3.mono HB2.out.size))
    clear hb3
    obtain ⟨b, hb⟩ : ∃ b, Gt.fine P.data.toList = b := ⟨_, rfl⟩
    rw [hb]
    have HBF := Lib.hid (show Gt.fine p = b by rw [← HPL.out]; exact hb)
    clear hb
    cases b
    · go_wp2_with fail
      refine (tg_must_no 210 w3).mono ?_
      rintro e w4 ⟨rfl, hw4⟩
      subst w4
      exact ⟨rfl, by rw [HS.out, HBF.out]; rfl, HB3.out⟩
    · go_wp2_with fail
      refine (tg_must 210 w3).mono ?_
      rintro e w4 ⟨rfl, hw4⟩
      subst w4
      go_wp2
      go_ret
      exact ⟨by rw [HS.out, HBF.out]; show Ending.returned (Value.string P) = _; rw [← HPE.out]; rfl, HB3.out⟩
end Go.Proofs.YtcfhenekoaegaaaGreatDoor

/- The reference's at, part. -/
namespace Go.Proofs.YtcfhenekoaegaaaGreatDoor
set_option linter.unusedVariables false
set_option linter.unusedSimpArgs false
open Go.RowKit Go.Shelf
set_option maxHeartbeats 2000000
set_option maxRecDepth 100000
theorem ref_at (s : ByteArray) (z : UInt8) (w : World) (hs : s.size ≤ 1000000) :
    Calls Tryz.prog 36 #[.string s, .int .u8 (z.toNat : Int)] w fun e w' => e = .returned (.int .i64 (Gs.pos z s.data.toList)) ∧ Below w.heap.size w w' := by
  have HL := Lib.hid (show s.data.toList.length = s.size from rfl)
  obtain ⟨y, hy⟩ : ∃ y : Int, (z.toNat : Int) = y := ⟨_, rfl⟩
  have HY := Lib.hid hy
  rw [hy]
  clear hy
  go_enter Tryz.func36, Tryz.ntmps36
  go_wp2_with fail
  go_loop [5] (fun i => ∃ k : Nat, k ≤ s.size ∧ i = .int .i64 k ∧ Gs.PAt z s.data.toList k)
    (fun i => s.size - (intOf i).toNat)
  case atStart => exact ⟨0, Nat.zero_le _, rfl, Gs.pAt_start _ _⟩
  case round =>
    obtain ⟨k, hk, rfl, hp⟩ := hrel
    have HP := Lib.hid hp
    clear hp
    by_cases hlt : k < s.size
    · have HKL := Lib.hid (show k < s.data.toList.length from hlt)
      obtain ⟨c, hcc⟩ : ∃ c, s.data.toList[k]'HKL.out = c := ⟨_, rfl⟩
      have HC := Lib.hid hcc
      obtain ⟨x, hx⟩ : ∃ x : Int, (c.toNat : Int) = x := ⟨_, rfl⟩
      have hsx : ((s[k]'hlt).toNat : Int) = x := by rw [← hx, ← hcc]; rfl
      have HX := Lib.hid hx
      clear hx hcc
      by_cases he : x = y
      · have HH := Lib.hid (Gs.pAt_hit HP.out HKL.out (HC.out.trans (UInt8.toNat_inj.1 (by have := HX.out; have := HY.out; omega))))
        have he1 : (x == y) = true := beq_iff_eq.2 he
        have he2 : (x != y) = false := by unfold bne; rw [he1]; rfl
        clear he
        go_wp2_with fail
        go_ret
        exact ⟨by rw [HH.out]; rfl, Below.refl _ _⟩
      · have HN := Lib.hid (Gs.pAt_next HP.out HKL.out (fun e => he (by rw [← HX.out, ← HY.out, ← HC.out, e])))
        have he1 : (x == y) = false := beq_eq_false_iff_ne.2 he
        have he2 : (x != y) = true := by unfold bne; rw [he1]; rfl
        clear he
        go_wp2_with fail
        go_round
        case rel => exact ⟨k + 1, hlt, by go_num, HN.out⟩
        case measure => simp [intOf]; omega
    · have HE := Lib.hid (Gs.pAt_end HP.out (by rw [HL.out]; omega))
      go_wp2_with fail
      go_ret
      exact ⟨by rw [HE.out]; rfl, Below.refl _ _⟩
theorem ref_part (s : ByteArray) (w : World) (hs : s.size ≤ 1000000) :
    Calls Tryz.prog 38 #[.string s] w fun e w' => e = .returned (.bool (Gt.fine s.data.toList)) ∧ Below w.heap.size w w' := by
  have HL := Lib.hid (show s.data.toList.length = s.size from rfl)
  by_cases h1 : s.toList = [46]
  · have HF := Lib.hid (show Gt.fine s.data.toList = false by rw [← Lib.toList_data, h1]; rfl)
    have e1 : (s.toList == [46]) = true := beq_iff_eq.2 h1
    clear h1
    go_enter Tryz.func38, Tryz.ntmps38
    go_wp2_with fail
    go_ret
    exact ⟨by rw [HF.out]; rfl, Below.refl _ _⟩
  · have e1 : (s.toList == [46]) = false := beq_eq_false_iff_ne.2 h1
    by_cases h2 : s.toList = [46, 46]
    · have HF := Lib.hid (show Gt.fine s.data.toList = false by rw [← Lib.toList_data, h2]; rfl)
      have e2 : (s.toList == [46, 46]) = true := beq_iff_eq.2 h2
      clear h1 h2
      go_enter Tryz.func38, Tryz.ntmps38
      go_wp2_with fail
      go_ret
      exact ⟨by rw [HF.out]; rfl, Below.refl _ _⟩
    · have e2 : (s.toList == [46, 46]) = false := beq_eq_false_iff_ne.2 h2
      obtain ⟨A, hA⟩ : ∃ A, s.data.toList.any Gt.badB = A := ⟨_, rfl⟩
      have HF := Lib.hid (show Gt.fine s.data.toList = !A by
        unfold Gt.fine
        rw [all_bad, hA, ← Lib.toList_data, e1, e2]; rfl)
      have HA := Lib.hid hA
      clear h1 h2 hA
      go_enter Tryz.func38, Tryz.ntmps38
      go_wp2_with fail
      go_loop [3] (fun i => ∃ k : Nat, k ≤ s.size ∧ i = .int .i64 k ∧ (s.data.toList.take k).any Gt.badB = false)
        (fun i => s.size - (intOf i).toNat)
      case atStart => exact ⟨0, Nat.zero_le _, rfl, rfl⟩
      case round =>
        obtain ⟨k, hk, rfl, hp⟩ := hrel
        have HP := Lib.hid hp
        by_cases hlt : k < s.size
        · have HKL := Lib.hid (show k < s.data.toList.length from hlt)
          obtain ⟨c, hcc⟩ : ∃ c, s.data.toList[k]'HKL.out = c := ⟨_, rfl⟩
          have HTK := Lib.hid (show s.data.toList.take (k + 1) = s.data.toList.take k ++ [c] by rw [List.take_succ_eq_append_getElem HKL.out, hcc])
          have HM := Lib.hid (show c ∈ s.data.toList by rw [← hcc]; exact List.getElem_mem _)
          obtain ⟨x, hx⟩ : ∃ x : Int, (c.toNat : Int) = x := ⟨_, rfl⟩
          have hsx : ((s[k]'hlt).toNat : Int) = x := by rw [← hx, ← hcc]; rfl
          have HX := Lib.hid hx
          clear hx hcc hp
          cases hb : Gt.badB c with
          | true =>
            have HT := Lib.hid (show A = true by rw [← HA.out, List.any_eq_true]; exact ⟨c, HM.out, hb⟩)
            have hor : x = 47 ∨ x = 0 := by
              unfold Gt.badB at hb
              rw [Bool.or_eq_true, beq_iff_eq, beq_iff_eq] at hb
              rcases hb with e | e <;> (have := HX.out; rw [e] at this)
              · exact .inl this.symm
              · exact .inr this.symm
            clear hb
            rcases hor with e | e <;> subst e
            all_goals
              go_wp2_with fail
              go_ret
              exact ⟨by rw [HF.out, HT.out]; rfl, Below.refl _ _⟩
          | false =>
            have HN := Lib.hid (show (s.data.toList.take (k + 1)).any Gt.badB = false by rw [HTK.out, List.any_append, HP.out, List.any_cons, hb]; rfl)
            have e3 : (x == 47) = false := beq_eq_false_iff_ne.2 (fun e => by
              have : c = 47 := UInt8.toNat_inj.1 (by have := HX.out; show c.toNat = 47; omega)
              rw [this] at hb; exact absurd hb (by decide))
            have e4 : (x == 0) = false := beq_eq_false_iff_ne.2 (fun e => by
              have : c = 0 := UInt8.toNat_inj.1 (by have := HX.out; show c.toNat = 0; omega)
              rw [this] at hb; exact absurd hb (by decide))
            clear hb
            go_wp2_with fail
            go_round
            case rel => exact ⟨k + 1, hlt, by go_num, HN.out⟩
            case measure => simp [intOf]; omega
        · have HT := Lib.hid (show A = false by rw [← HA.out]; rw [List.take_of_length_le (by rw [HL.out]; omega)] at hp; exact hp)
          clear hp
          go_wp2_with fail
          go_ret
          exact ⟨by rw [HF.out, HT.out]; rfl, Below.refl _ _⟩
end Go.Proofs.YtcfhenekoaegaaaGreatDoor

/- target: pair's closure; asks; Parse's closures. -/
namespace Go.Proofs.YtcfhenekoaegaaaGreatDoor
set_option linter.unusedVariables false
set_option linter.unusedSimpArgs false
open Go.RowKit Go.Shelf
set_option maxHeartbeats 2000000
set_option maxRecDepth 100000
theorem tg_pair1 (s : ByteArray) (w : World) (hs : s.size ≤ 1000000) :
    Calls Tryz.prog 64 #[.string s] w fun e w' => e = decEnd (Gt.dec true s.data.toList) ∧ Below w.heap.size w w' := by
  obtain ⟨W1, hW⟩ : ∃ W, w.alloc (.cells #[.string s, .bool true] 72) = W := ⟨_, rfl⟩
  have HRD := Lib.hid (show RD W1 w.heap.size s true by rw [← hW]; exact World.alloc_heap_new _ _)
  have HB := Lib.hid (show Below w.heap.size w W1 by rw [← hW]; exact (Below.refl _ _).alloc (Nat.le_refl _) _)
  have HW := Lib.hid hW
  clear hW
  have K := Lib.hid (tg_decoded w.heap.size s true W1 HRD.out hs)
  obtain ⟨o, ho⟩ : ∃ o, Gt.dec true s.data.toList = o := ⟨_, rfl⟩
  rw [ho] at K ⊢
  clear ho
  go_enter Tryz.func64, Tryz.ntmps64
  go_wp2_with fail
  rw [HW.out]
  refine K.out.mono ?_
  rintro e w2 ⟨rfl, hb⟩
  have HB2 := Lib.hid (HB.out.trans (hb.mono HB.out.size))
  clear hb
  cases o with
  | none => exact ⟨rfl, rfl, HB2.out⟩
  | some l =>
    simp only [decEnd]
    go_wp2
    go_ret
    exact ⟨rfl, HB2.out⟩
theorem tg_ask3 (s : ByteArray) (w : World) :
    Calls Tryz.prog 35 #[.string s] w fun e w' => e = .returned (.bool s.data.toList.isEmpty) ∧ w' = w := by
  have HE := Lib.hid (show s.toList.isEmpty = s.data.toList.isEmpty by rw [Lib.toList_data])
  go_enter Tryz.func35, Tryz.ntmps35
  go_wp2_with fail
  go_ret
  refine ⟨?_, rfl⟩
  rw [← HE.out]
  rfl
theorem tg_asks (w : World) :
    Calls Tryz.prog 26 #[] w fun e w' => e = .returned (.agg #[.func (.func 59) #[] #[], .func (.func 61) #[] #[]]) ∧ Below w.heap.size w w' := by
  go_enter Tryz.func26, Tryz.ntmps26
  go_wp2_with fail
  exact bodyPost_ret (by simp [results, Tryz.results26, go_sem]) rfl ⟨rfl, (Below.refl _ _).alloc (Nat.le_refl _) _⟩
end Go.Proofs.YtcfhenekoaegaaaGreatDoor

/- Slices of texts in memory; the reference's Right. -/
namespace Go.Proofs.YtcfhenekoaegaaaGreatDoor
set_option linter.unusedVariables false
set_option linter.unusedSimpArgs false
open Go.RowKit Go.Shelf
set_option maxHeartbeats 2000000
set_option maxRecDepth 100000
/-- a slice of texts -/
def SR (w : World) (v : Value) (L : List ByteArray) : Prop :=
  (∃ p c, v = .slice p 0 c ∧ L = []) ∨ ∃ b off cap, v = .slice (some ⟨b, off, none⟩) L.length cap ∧ b < w.heap.size ∧ ∀ j (h : j < L.length), w.cell? ⟨b, off + j, none⟩ = some (.string L[j])
theorem SR.below {w w' : World} {v : Value} {L : List ByteArray} (h : SR w v L) (k : Below w.heap.size w w') : SR w' v L := by
  rcases h with h | ⟨b, off, cap, h1, h2, h3⟩
  · exact .inl h
  · exact .inr ⟨b, off, cap, h1, Nat.lt_of_lt_of_le h2 k.size, fun j hj => (k.cell (p := ⟨b, off + j, none⟩) h2).trans (h3 j hj)⟩
theorem right_rec (L : List (List UInt8)) : Gt.right L = (L.all Gt.fine && decide (0 < L.length)) := by
  unfold Gt.right
  cases L with
  | nil => rfl
  | cons a l => simp [Bool.and_comm]
theorem ref_Right (v : Value) (L : List ByteArray) (w : World) (hv : SR w v L) (hL : L.length ≤ 1000000) (hs : ∀ s ∈ L, s.size ≤ 1000000) (a2 : Option Addr) (n2 c2 : Nat) :
    Calls Tryz.prog 16 #[.agg #[v, .slice a2 n2 c2]] w fun e w' => e = .returned (.bool (Gt.right (L.map (·.data.toList)))) ∧ Below w.heap.size w w' := by
  have HAL := Lib.hid (fun W (c : Array Value) => World.alloc_heap_new W (.cells c 26))
  rcases hv with ⟨p0, c0, rfl, rfl⟩ | ⟨b, off, cap, rfl, hb, hc⟩
  · go_enter Tryz.func16, Tryz.ntmps16
    go_wp2_with fail
    go_loopw [3] (fun i wr => i = .int .i64 0 ∧ wr = w.alloc (.cells #[.slice p0 0 c0, .slice a2 n2 c2] 26)) (fun _ _ => 0)
    case atStart => exact ⟨rfl, rfl⟩
    case round =>
      obtain ⟨rfl, rfl⟩ := hrel
      go_wp2_with fail
      go_ret
      exact ⟨rfl, (Below.refl _ _).alloc (Nat.le_refl _) _⟩
  · have HC := Lib.hid hc
    have HSZ := Lib.hid hs
    obtain ⟨N, hN⟩ : ∃ N, L.length = N := ⟨_, rfl⟩
    have HNL := Lib.hid hN
    rw [hN] at hL ⊢
    obtain ⟨A, hA⟩ : ∃ A, Gt.right (L.map (·.data.toList)) = A := ⟨_, rfl⟩
    rw [hA]
    have HA := Lib.hid (show A = ((L.map (·.data.toList)).all Gt.fine && decide (0 < N)) by rw [← hA, right_rec, List.length_map, hN])
    clear hc hs hA hN
    go_enter Tryz.func16, Tryz.ntmps16
    go_wp2_with fail
    go_loopw [3] (fun i wr => ∃ k : Nat, k ≤ N ∧ i = .int .i64 k ∧ wr.heap[w.heap.size]? = some (.cells #[.slice (some ⟨b, off, none⟩) N cap, .slice a2 n2 c2] 26 (0, 0)) ∧ ((L.map (·.data.toList)).take k).all Gt.fine = true ∧ Below w.heap.size w wr)
      (fun i _ => N - (intOf i).toNat)
    case atStart => exact ⟨0, Nat.zero_le _, rfl, HAL.out w _, rfl, (Below.refl _ _).alloc (Nat.le_refl _) _⟩
    case round =>
      obtain ⟨k, hk, rfl, hbx, hf, hbl⟩ := hrel
      have c0 : wr.cell? ⟨w.heap.size, 0, none⟩ = some (.slice (some ⟨b, off, none⟩) N cap) := by simp [World.cell?, hbx]
      have HBX := Lib.hid hbx
      have HF := Lib.hid hf
      have HBL := Lib.hid hbl
      clear hbx hf hbl
      by_cases hlt : k < N
      · have hkl : k < L.length := by have := HNL.out; omega
        have hck : wr.cell? ⟨b, off + k, none⟩ = some (.string L[k]) := (HBL.out.cell (p := ⟨b, off + k, none⟩) hb).trans (HC.out k hkl)
        obtain ⟨S, hS⟩ : ∃ S, L[k] = S := ⟨_, rfl⟩
        rw [hS] at hck
        have HTK := Lib.hid (show (L.map (·.data.toList)).take (k + 1) = (L.map (·.data.toList)).take k ++ [S.data.toList] by
          rw [List.take_succ_eq_append_getElem (by simpa using hkl), List.getElem_map, hS])
        have HM := Lib.hid (show S.data.toList ∈ L.map (·.data.toList) from List.mem_map.2 ⟨S, by rw [← hS]; exact List.getElem_mem _, rfl⟩)
        have K := Lib.hid (ref_part S wr (HSZ.out S (by rw [← hS]; exact List.getElem_mem _)))
        clear hS hkl
        cases hfi : Gt.fine S.data.toList with
        | true =>
          rw [hfi] at K
          have HN := Lib.hid (show ((L.map (·.data.toList)).take (k + 1)).all Gt.fine = true by rw [HTK.out, List.all_append, HF.out, List.all_cons, hfi]; rfl)
          clear hfi
          go_wp2_with fail
          refine K.out.mono ?_
          rintro e w2 ⟨rfl, hb2⟩
          have HW : Hid (w.heap.size < wr.heap.size) := Lib.hid (by
            rcases Nat.lt_or_ge w.heap.size wr.heap.size with h' | h'
            · exact h'
            · have := HBX.out; rw [Array.getElem?_eq_none h'] at this; simp at this)
          have HBX2 := Lib.hid ((hb2.block w.heap.size HW.out).trans HBX.out)
          have HBL2 := Lib.hid (HBL.out.trans (hb2.mono HBL.out.size))
          clear hb2
          go_wp2
          go_roundw
          case rel => exact ⟨k + 1, hlt, by go_num, HBX2.out, HN.out, HBL2.out⟩
          case measure => simp [intOf]; omega
        | false =>
          rw [hfi] at K
          have HN := Lib.hid (show A = false by
            rw [HA.out, show (L.map (·.data.toList)).all Gt.fine = false from List.all_eq_false.2 ⟨_, HM.out, by rw [hfi]; simp⟩]; rfl)
          clear hfi
          go_wp2_with fail
          refine K.out.mono ?_
          rintro e w2 ⟨rfl, hb2⟩
          have HBL2 := Lib.hid (HBL.out.trans (hb2.mono HBL.out.size))
          clear hb2
          go_wp2
          go_ret
          exact ⟨by rw [HN.out]; rfl, HBL2.out⟩
      · have HT := Lib.hid (show A = decide (0 < N) by
          rw [HA.out]
          have hfull := HF.out
          rw [List.take_of_length_le (by rw [List.length_map]; have := HNL.out; omega)] at hfull
          rw [hfull, Bool.true_and])
        go_wp2_with fail
        go_ret
        exact ⟨by rw [HT.out]; rfl, HBL.out⟩
end Go.Proofs.YtcfhenekoaegaaaGreatDoor

/- A list's items, the reference's: those of the text Ti. -/
namespace Go.Proofs.YtcfhenekoaegaaaGreatDoor
set_option linter.unusedVariables false
set_option linter.unusedSimpArgs false
open Go.RowKit Go.Shelf
set_option maxHeartbeats 1000000
theorem itm_nil (cur : List UInt8) : Tp.itm cur [] = [Tp.trim cur].filter Tp.some? := rfl
theorem itm_comma (cur l : List UInt8) : Tp.itm cur (44 :: l) = [Tp.trim cur].filter Tp.some? ++ Tp.itm [] l := by
  unfold Tp.itm
  rw [Tp.parts, if_pos rfl, List.map_cons, ← List.singleton_append, List.filter_append]
theorem itm_more (cur l : List UInt8) (c : UInt8) (h : c ≠ 44) : Tp.itm cur (c :: l) = Tp.itm (cur ++ [c]) l := by
  unfold Tp.itm
  rw [Tp.parts, if_neg h]
theorem cut_snoc (l : List UInt8) (a k : Nat) (h : a ≤ k) (hk : k < l.length) : (l.drop a).take (k - a) ++ [l[k]] = (l.drop a).take (k + 1 - a) := by
  rw [show k + 1 - a = (k - a) + 1 by omega, List.take_succ_eq_append_getElem (by rw [List.length_drop]; omega), List.getElem_drop]
  congr 3
  omega
theorem drop_here (l : List UInt8) (k : Nat) (hk : k < l.length) : l.drop k = l[k] :: l.drop (k + 1) := List.drop_eq_getElem_cons hk
/-- the reference's place in the text: what is gathered, and where the part began -/
def ItAt (l : List UInt8) (L : List (List UInt8)) (a k : Nat) : Prop :=
  L.length ≤ k ∧ ((k ≤ l.length ∧ a ≤ k ∧ L ++ Tp.itm ((l.drop a).take (k - a)) (l.drop k) = Tp.items l) ∨ (k = l.length + 1 ∧ L = Tp.items l))
theorem itAt_start (l : List UInt8) : ItAt l [] 0 0 := ⟨Nat.le_refl _, .inl ⟨Nat.zero_le _, Nat.le_refl _, rfl⟩⟩
theorem itAt_more {l : List UInt8} {L : List (List UInt8)} {a k : Nat} (h : ItAt l L a k) (hk : k < l.length) (hc : l[k] ≠ 44) : ItAt l L a (k + 1) := by
  obtain ⟨h1, h2⟩ := h
  rcases h2 with ⟨_, ha, h2⟩ | ⟨h2, _⟩
  · refine ⟨by omega, .inl ⟨by omega, by omega, ?_⟩⟩
    rw [drop_here l k hk, itm_more _ _ _ hc, cut_snoc l a k ha hk] at h2
    exact h2
  · omega
theorem itAt_cut {l : List UInt8} {L : List (List UInt8)} {a k : Nat} (h : ItAt l L a k) (hk : k ≤ l.length) (hc : ∀ h : k < l.length, l[k] = 44) : ItAt l (L ++ [Tp.trim ((l.drop a).take (k - a))].filter Tp.some?) (k + 1) (k + 1) := by
  obtain ⟨h1, h2⟩ := h
  rcases h2 with ⟨_, ha, h2⟩ | ⟨h2, _⟩
  · refine ⟨?_, ?_⟩
    · have := List.length_filter_le Tp.some? [Tp.trim ((l.drop a).take (k - a))]
      rw [List.length_append]
      simp only [List.length_singleton] at this
      omega
    · by_cases hlt : k < l.length
      · refine .inl ⟨hlt, Nat.le_refl _, ?_⟩
        rw [drop_here l k hlt, hc hlt, itm_comma] at h2
        rw [Nat.sub_self, List.take_zero, List.append_assoc]
        exact h2
      · refine .inr ⟨by omega, ?_⟩
        have : k = l.length := by omega
        rw [this, List.drop_length, itm_nil] at h2
        rw [this]
        exact h2
  · omega
theorem slice_mid (u : ByteArray) (w : World) (a k : Nat) (h : a ≤ k) (hk : k ≤ u.size) (hu : u.size ≤ 9223372036854775807) : (Instr.slice 9 (.string u) (some (.int .i64 (a : Int))) (some (.int .i64 (k : Int))) none).run Tryz.prog w = .ok (.string (u.extract a k)) w := by
  have h1 : (a : Int) ≤ k := by omega
  have h2 : (k : Int) ≤ u.size := by omega
  simp [go_sem, Tryz.underlying9, h1, h2]
theorem index_at (u : ByteArray) (w : World) (k : Nat) (h : k < u.size) : (Instr.index 9 (.string u) (.int .i64 (k : Int))).run Tryz.prog w = .ok (.int .u8 ((u[k]).toNat : Int)) w := by
  have hi : (0 : Int) ≤ (k : Int) ∧ (k : Int) < u.size := by omega
  rw [run_index_string w 9 u .i64 _ Tryz.underlying9, dif_pos hi]
  simp only [Int.toNat_natCast]
end Go.Proofs.YtcfhenekoaegaaaGreatDoor

/- The reference's between: what stands between bytes of a kind. -/
namespace Go.Proofs.YtcfhenekoaegaaaGreatDoor
set_option linter.unusedVariables false
set_option linter.unusedSimpArgs false
open Go.RowKit Go.Shelf
set_option maxHeartbeats 4000000
set_option maxRecDepth 100000
theorem ref_between (s : ByteArray) (z : UInt8) (w : World) (hs : s.size ≤ 100000) :
    Calls Tryz.prog 37 #[.string s, .int .u8 (z.toNat : Int)] w fun e w' => ∃ r, e = .returned r ∧ StrRow w' r (Gs.parts z [] s.data.toList) ∧ Below w.heap.size w w' := by
  obtain ⟨i0, hi, hz0, hz1, hz2⟩ := info_parts (show (Tryz.prog.info? 9).map (fun i => (i.zero, i.size, i.bytes)) = some (some (.string ByteArray.empty), 1, 16) by kernel_rfl)
  obtain ⟨B, hB⟩ : ∃ B, w.heap.size = B := ⟨_, rfl⟩
  rw [hB]
  have HL := Lib.hid (show s.data.toList.length = s.size from rfl)
  have HSL := Lib.hid (fun a k h1 h2 W => slice_mid s W a k h1 h2 (by omega))
  obtain ⟨y, hy⟩ : ∃ y : Int, (z.toNat : Int) = y := ⟨_, rfl⟩
  have HY := Lib.hid hy
  rw [hy]
  clear hy
  go_enter Tryz.func37, Tryz.ntmps37
  go_wp2_with fail
  go_loopw [5, 6, 7] (fun v f i wr => ∃ (k a : Nat) (L : List (List UInt8)), k ≤ s.size + 1 ∧ i = .int .i64 k ∧ f = .int .i64 a ∧ Gs.SAt z s.data.toList L a k ∧ wr.ownsRow B 9 1 v L.length (L.map tx) ∧ Below B w wr) (fun _ _ i _ => s.size + 1 - (intOf i).toNat)
  case atStart => exact ⟨0, 0, [], Nat.zero_le _, rfl, rfl, Gs.sAt_start _ _, World.ownsRow_nil _ _ _ _, Below.refl _ _⟩
  case round =>
    obtain ⟨k, a, L, hk, rfl, rfl, hat, hown, hb⟩ := hrel
    have HA := Lib.hid hat
    have HO := Lib.hid hown
    have HB := Lib.hid hb
    clear hat hown hb
    by_cases hle : k ≤ s.size
    · have ha : a ≤ k := Gs.sAt_ha HA.out (by rw [HL.out]; exact hle)
      have hsl := HSL.out a k ha hle
      obtain ⟨q, hq⟩ : ∃ q, s.extract a k = q := ⟨_, rfl⟩
      have hqd : (s.data.toList.drop a).take (k - a) = q.data.toList := by rw [← hq, Lib.extract_data]
      rw [hq] at hsl
      have HTQ := Lib.hid (show tx q.data.toList = .string q by unfold tx; rfl)
      have HQD := Lib.hid hqd
      clear hqd hq
      by_cases hcut : ∀ h : k < s.size, s[k]'h = z
      · have HM0 := Lib.hid (Gs.sAt_cut HA.out (by rw [HL.out]; exact hle) (fun hh => hcut hh))
        rw [HQD.out] at HM0
        by_cases hlt : k < s.size
        · have hsx : ((s[k]'hlt).toNat : Int) = y := by rw [hcut hlt]; exact HY.out
          have hkn : ((k : Int) == (s.size : Int)) = false := beq_eq_false_iff_ne.2 (by omega)
          clear hcut
          go_wp2_with (first
            | (at_builtin; refine wpList_append_own _ rfl _ _ 23 rfl B 9 i0 (.string ByteArray.empty) 1 16 Tryz.underlying23 hi hz0 hz1 hz2 rfl (by decide) _ _ _ rfl (HO.out.alloc _) ⟨wr.heap.size, 0, none⟩ 1 1 [.string q] rfl rfl ?c1 ?c2 ?c3 ?c4 ?c5 ?_)
            | simp only [hsl])
          case c1 =>
            intro j u hj
            match j, hj with
            | 0, hj => simp at hj; subst hj; simp [Addr.add]
          case c2 => intro u hu; simp at hu; subst hu; rfl
          case c3 => have := HA.out.1; unfold maxLen; omega
          case c4 => have := HA.out.1; omega
          case c5 => have := HB.out.size; simp; omega
          intro v' w1 hown' hgrow _
          have hb1 : Below B w w1 := Below.grown (HB.out.alloc (by have := HB.out.size; omega) _) hgrow (by have := HB.out.size; simp; omega) (own_ge HO.out)
          have HB1 := Lib.hid hb1
          have ho : w1.ownsRow B 9 1 v' (L ++ [q.data.toList]).length ((L ++ [q.data.toList]).map tx) := by
            rw [List.map_append, List.length_append]
            show w1.ownsRow B 9 1 v' _ (_ ++ [tx q.data.toList])
            rw [HTQ.out]
            exact hown'
          have HO1 := Lib.hid ho
          clear ho hb1 hgrow hown'
          go_wp2
          go_roundw
          case rel => exact ⟨k + 1, k + 1, L ++ [q.data.toList], by omega, by go_num, by go_num, HM0.out, HO1.out, HB1.out⟩
          case measure => simp [intOf]; omega
        · have hke : k = s.size := by omega
          have hkn : ((k : Int) == (s.size : Int)) = true := beq_iff_eq.2 (by omega)
          clear hcut hke hlt
          go_wp2_with (first
            | (at_builtin; refine wpList_append_own _ rfl _ _ 23 rfl B 9 i0 (.string ByteArray.empty) 1 16 Tryz.underlying23 hi hz0 hz1 hz2 rfl (by decide) _ _ _ rfl (HO.out.alloc _) ⟨wr.heap.size, 0, none⟩ 1 1 [.string q] rfl rfl ?c1 ?c2 ?c3 ?c4 ?c5 ?_)
            | simp only [hsl])
          case c1 =>
            intro j u hj
            match j, hj with
            | 0, hj => simp at hj; subst hj; simp [Addr.add]
          case c2 => intro u hu; simp at hu; subst hu; rfl
          case c3 => have := HA.out.1; unfold maxLen; omega
          case c4 => have := HA.out.1; omega
          case c5 => have := HB.out.size; simp; omega
          intro v' w1 hown' hgrow _
          have hb1 : Below B w w1 := Below.grown (HB.out.alloc (by have := HB.out.size; omega) _) hgrow (by have := HB.out.size; simp; omega) (own_ge HO.out)
          have HB1 := Lib.hid hb1
          have ho : w1.ownsRow B 9 1 v' (L ++ [q.data.toList]).length ((L ++ [q.data.toList]).map tx) := by
            rw [List.map_append, List.length_append]
            show w1.ownsRow B 9 1 v' _ (_ ++ [tx q.data.toList])
            rw [HTQ.out]
            exact hown'
          have HO1 := Lib.hid ho
          clear ho hb1 hgrow hown'
          go_wp2
          go_roundw
          case rel => exact ⟨k + 1, k + 1, L ++ [q.data.toList], by omega, by go_num, by go_num, HM0.out, HO1.out, HB1.out⟩
          case measure => simp [intOf]; omega
      · have hlt : k < s.size := by
          by_cases h : k < s.size
          · exact h
          · exact absurd (fun h' => absurd h' h) hcut
        have hkn : ((k : Int) == (s.size : Int)) = false := beq_eq_false_iff_ne.2 (fun e => Nat.ne_of_lt hlt (Int.ofNat.inj e))
        have hne : s[k]'hlt ≠ z := fun e => hcut (fun _ => e)
        have HM := Lib.hid (Gs.sAt_more HA.out (by rw [HL.out]; exact hlt) hne)
        obtain ⟨x, hx⟩ : ∃ x : Int, ((s[k]'hlt).toNat : Int) = x := ⟨_, rfl⟩
        have e1 : (x == y) = false := beq_eq_false_iff_ne.2 (fun e => hne (UInt8.toNat_inj.1 (Int.ofNat.inj ((hx.trans e).trans HY.out.symm))))
        clear hcut hne
        go_wp2_with fail
        go_roundw
        case rel => exact ⟨k + 1, a, L, by omega, by go_num, rfl, HM.out, HO.out, HB.out⟩
        case measure => simp [intOf]; omega
    · have hL : L = Gs.parts z [] s.data.toList := Gs.sAt_end HA.out (by rw [HL.out]; omega)
      have HL2 := Lib.hid hL
      clear hL
      go_wp2_with fail
      go_ret
      exact ⟨_, rfl, strRow_own (by rw [← HL2.out]; exact HO.out), HB.out⟩
end Go.Proofs.YtcfhenekoaegaaaGreatDoor

/- target: made of texts, by a function that may give up. -/
namespace Go.Proofs.YtcfhenekoaegaaaGreatDoor
set_option linter.unusedVariables false
set_option linter.unusedSimpArgs false
open Go.RowKit Go.Shelf
set_option maxHeartbeats 4000000
set_option maxRecDepth 100000
theorem _root_.Go.World.ownsRow.belowed {w w' : World} {base : Nat} {e : TypeId} {size : Nat} {v : Value} {n : Nat} {xs : List Value} (h : w.ownsRow base e size v n xs) (k : Below w.heap.size w w') : w'.ownsRow base e size v n xs := by
  refine ⟨h.1, h.2.imp id ?_⟩
  rintro ⟨g, cap, cur, h1, h2, h3, h4⟩
  refine ⟨g, cap, cur, h1, h2, (k.block g ?_).trans h3, h4⟩
  rcases Nat.lt_or_ge g w.heap.size with h' | h'
  · exact h'
  · rw [Array.getElem?_eq_none h'] at h3; simp at h3
theorem tg_made (f : FuncId) (g : List UInt8 → Option (List UInt8)) (v : Value) (L : List ByteArray) (w : World) (hv : SR w v L) (hL : L.length ≤ 100000)
    (hce : ∀ args W, (callFunc f args).run Tryz.prog W = .ok (.enter f args) W)
    (hf : ∀ s ∈ L, ∀ W, Calls Tryz.prog f #[.string s] W fun e w' => e = decEnd (g s.data.toList) ∧ Below W.heap.size W w') :
    Calls Tryz.prog 29 #[.func (.func f) #[] #[], v] w fun e w' =>
      ((∃ R r, Gt.all? g (L.map (·.data.toList)) = some R ∧ e = .returned r ∧ StrRow w' r R) ∨ (Gt.all? g (L.map (·.data.toList)) = none ∧ e = .panicked [{ v := errno 210, recovered := false }])) ∧ Below w.heap.size w w' := by
  obtain ⟨i0, hi, hz0, hz1, hz2⟩ := info_parts (show (Tryz.prog.info? 9).map (fun i => (i.zero, i.size, i.bytes)) = some (some (.string ByteArray.empty), 1, 16) by kernel_rfl)
  obtain ⟨B, hB⟩ : ∃ B, w.heap.size = B := ⟨_, rfl⟩
  rw [hB]
  rcases hv with ⟨p0, c0, rfl, rfl⟩ | ⟨b, off, cap, rfl, hb, hc⟩
  · go_enter Tryz.func29, Tryz.ntmps29
    go_wp2_with fail
    go_loopw [4, 9] (fun v i wr => v = .slice none 0 0 ∧ i = .int .i64 0 ∧ wr = w) (fun _ _ _ => 0)
    case atStart => exact ⟨rfl, rfl, rfl⟩
    case round =>
      obtain ⟨rfl, rfl, rfl⟩ := hrel
      go_wp2_with fail
      go_ret
      exact ⟨.inl ⟨[], _, rfl, rfl, ⟨none, 0, rfl, .inl rfl⟩⟩, Below.refl _ _⟩
  · have HC := Lib.hid hc
    have HF := Lib.hid hf
    obtain ⟨N, hN⟩ : ∃ N, L.length = N := ⟨_, rfl⟩
    have HNL := Lib.hid hN
    have HBB := Lib.hid hb
    rw [hN] at hL ⊢
    obtain ⟨M, hM⟩ : ∃ M, L.map (·.data.toList) = M := ⟨_, rfl⟩
    rw [hM]
    have HML := Lib.hid (show M.length = N by rw [← hM, List.length_map, hN])
    have HM := Lib.hid hM
    clear hc hf hM hN hb
    go_enter Tryz.func29, Tryz.ntmps29
    go_wp2_with fail
    go_loopw [4, 9] (fun v i wr => ∃ (k : Nat) (acc : List (List UInt8)), k ≤ N ∧ i = .int .i64 k ∧ Gt.AAt g M acc k ∧ wr.ownsRow B 9 1 v acc.length (acc.map tx) ∧ Below B w wr)
      (fun _ i _ => N - (intOf i).toNat)
    case atStart => exact ⟨0, [], Nat.zero_le _, rfl, Gt.aAt_start _ _, World.ownsRow_nil _ _ _ _, Below.refl _ _⟩
    case round =>
      obtain ⟨k, acc, hk, rfl, hat, hown, hbl⟩ := hrel
      have HA := Lib.hid hat
      have HO := Lib.hid hown
      have HBL := Lib.hid hbl
      clear hat hown hbl
      by_cases hlt : k < N
      · have hkl : k < L.length := by have := HNL.out; omega
        have HBW := Lib.hid (show b < B by rw [← hB]; exact HBB.out)
        have hck : wr.cell? ⟨b, off + k, none⟩ = some (.string L[k]) := (HBL.out.cell (p := ⟨b, off + k, none⟩) HBW.out).trans (HC.out k hkl)
        obtain ⟨S, hS⟩ : ∃ S, L[k] = S := ⟨_, rfl⟩
        rw [hS] at hck
        have HKM := Lib.hid (show k < M.length by rw [HML.out]; exact hlt)
        have HMK := Lib.hid (show M[k]'HKM.out = S.data.toList by
          have : M[k]? = some S.data.toList := by rw [← HM.out, List.getElem?_map, List.getElem?_eq_getElem hkl, hS]; rfl
          exact (List.getElem?_eq_some_iff.1 this).2)
        have K := Lib.hid (HF.out S (by rw [← hS]; exact List.getElem_mem _) wr)
        clear hS hkl
        cases hg : g S.data.toList with
        | none =>
          rw [hg] at K
          have HN := Lib.hid (Gt.aAt_bad HA.out HKM.out (by rw [HMK.out]; exact hg))
          clear hg
          go_wp2_with fail
          refine K.out.mono ?_
          rintro e w2 ⟨rfl, hb2⟩
          exact ⟨rfl, .inr ⟨HN.out, rfl⟩, HBL.out.trans (hb2.mono (hB ▸ HBL.out.size))⟩
        | some q =>
          rw [hg] at K
          have HN := Lib.hid (Gt.aAt_next HA.out HKM.out (by rw [HMK.out]; exact hg))
          clear hg
          go_wp2_with fail
          refine K.out.mono ?_
          rintro e w2 ⟨rfl, hb2⟩
          have HB2 := Lib.hid (HBL.out.trans (hb2.mono (hB ▸ HBL.out.size)))
          have HO2 := Lib.hid (show w2.ownsRow B 9 1 _ acc.length (acc.map tx) from HO.out.belowed hb2)
          simp only [decEnd]
          obtain ⟨qb, hqb⟩ : ∃ z : ByteArray, (⟨q.toArray⟩ : ByteArray) = z := ⟨_, rfl⟩
          rw [hqb]
          have HTQ := Lib.hid (show tx q = .string qb by unfold tx; rw [hqb])
          clear hb2 hqb K
          go_wp2_with (at_builtin; refine wpList_append_own _ rfl _ _ 23 rfl B 9 i0 (.string ByteArray.empty) 1 16 Tryz.underlying23 hi hz0 hz1 hz2 rfl (by decide) _ _ _ rfl (HO2.out.alloc _) ⟨w2.heap.size, 0, none⟩ 1 1 [.string qb] rfl rfl ?c1 ?c2 ?c3 ?c4 ?c5 ?_)
          case c1 =>
            intro j u hj
            match j, hj with
            | 0, hj => simp at hj; subst hj; simp [Addr.add]
          case c2 => intro u hu; simp at hu; subst hu; rfl
          case c3 => have := HA.out.2.1; unfold maxLen; omega
          case c4 => have := HA.out.2.1; omega
          case c5 => have := HB2.out.size; simp; omega
          intro v' w3 hown' hgrow _
          have HB3 := Lib.hid (show Below B w w3 from Below.grown (HB2.out.alloc (by have := HB2.out.size; omega) _) hgrow (by have := HB2.out.size; simp; omega) (own_ge HO2.out))
          have HO3 := Lib.hid (show w3.ownsRow B 9 1 v' (acc ++ [q]).length ((acc ++ [q]).map tx) by
            rw [List.map_append, List.length_append]
            show w3.ownsRow B 9 1 v' _ (_ ++ [tx q])
            rw [HTQ.out]
            exact hown')
          clear hgrow hown'
          go_wp2
          go_roundw
          case rel => exact ⟨k + 1, acc ++ [q], hlt, by go_num, HN.out, HO3.out, HB3.out⟩
          case measure => simp [intOf]; omega
      · have HE := Lib.hid (Gt.aAt_end HA.out (by rw [HML.out]; omega))
        go_wp2_with fail
        go_ret
        exact ⟨.inl ⟨acc, _, HE.out, rfl, strRow_own HO.out⟩, HBL.out⟩
end Go.Proofs.YtcfhenekoaegaaaGreatDoor

/- target: pair. -/
namespace Go.Proofs.YtcfhenekoaegaaaGreatDoor
set_option linter.unusedVariables false
set_option linter.unusedSimpArgs false
open Go.RowKit Go.Shelf
set_option maxHeartbeats 4000000
set_option maxRecDepth 100000
/-- the cell of MaxLen holds a number -/
def Mx (w : World) : Prop := ∃ m, w.cell? ⟨0, 0, none⟩ = some (.int .i64 m)
theorem Mx.below {w w' : World} {B : Nat} (h : Mx w) (k : Below B w w') (hB : 0 < B) : Mx w' := by
  obtain ⟨m, hm⟩ := h
  exact ⟨m, (k.cell (p := ⟨0, 0, none⟩) hB).trans hm⟩
/-- how a pair's reading ends -/
def prEnd (o : Option (List UInt8 × List UInt8)) : Ending := match o with
  | some (k, v) => .returned (.agg #[.string ⟨k.toArray⟩, .string ⟨v.toArray⟩])
  | none => .panicked [{ v := errno 210, recovered := false }]
theorem pair_all (l : List UInt8) : Gt.all? (Gt.dec true) [l.take (Gs.pos 61 l), l.drop (Gs.pos 61 l + 1)] = (Gt.pairOf l).map fun p => [p.1, p.2] := by
  unfold Gt.pairOf
  cases h1 : Gt.dec true (l.take (Gs.pos 61 l)) with
  | none => rw [Gt.all_none h1]; rfl
  | some a =>
    rw [Gt.all_some h1]
    cases h2 : Gt.dec true (l.drop (Gs.pos 61 l + 1)) with
    | none => rw [Gt.all_none h2]; rfl
    | some b => rw [Gt.all_some h2, Gt.all_nil]; rfl
theorem pair1_enter (args : Array Value) (W : World) : (callFunc 64 args).run Tryz.prog W = .ok (.enter 64 args) W := by
  simp [callFunc, go_sem, Tryz.func64]
  rw [if_neg (by decide), if_neg (by decide)]
theorem tg_pair (s : ByteArray) (w : World) (hs : s.size ≤ 1000000) (hm : Mx w) (h0 : 0 < w.heap.size) :
    Calls Tryz.prog 33 #[.string s] w fun e w' => e = prEnd (Gt.pairOf s.data.toList) ∧ Below w.heap.size w w' := by
  obtain ⟨m, hm'⟩ := hm.below (w' := w.alloc (.cells #[.string ⟨#[]⟩, .string ⟨#[]⟩] 47)) ((Below.refl _ _).alloc (Nat.le_refl _) _) h0
  have KC := Lib.hid (Tryz.strings_Cut s ⟨#[61]⟩ m _ (by omega) hm')
  rw [show (⟨#[61]⟩ : ByteArray).data.toList = [61] from rfl, Gs.cut_is] at KC
  obtain ⟨kb, hk⟩ : ∃ z : ByteArray, (⟨(s.data.toList.take (Gs.pos 61 s.data.toList)).toArray⟩ : ByteArray) = z := ⟨_, rfl⟩
  obtain ⟨vb, hv⟩ : ∃ z : ByteArray, (⟨(s.data.toList.drop (Gs.pos 61 s.data.toList + 1)).toArray⟩ : ByteArray) = z := ⟨_, rfl⟩
  obtain ⟨is, his⟩ : ∃ b, decide (Gs.pos 61 s.data.toList < s.data.toList.length) = b := ⟨_, rfl⟩
  simp only [hk, hv, his] at KC
  have HPA := Lib.hid (pair_all s.data.toList)
  have hkl : kb.data.toList = s.data.toList.take (Gs.pos 61 s.data.toList) := by rw [← hk]
  have hvl : vb.data.toList = s.data.toList.drop (Gs.pos 61 s.data.toList + 1) := by rw [← hv]
  rw [← hkl, ← hvl] at HPA
  obtain ⟨o, ho⟩ : ∃ o, Gt.pairOf s.data.toList = o := ⟨_, rfl⟩
  rw [ho] at HPA ⊢
  clear ho
  have HKS := Lib.hid (show kb.size ≤ 1000000 by
    have h1 : kb.data.toList.length = kb.size := rfl
    have h2 : s.data.toList.length = s.size := rfl
    rw [hkl, List.length_take] at h1; omega)
  have HVS := Lib.hid (show vb.size ≤ 1000000 by
    have h1 : vb.data.toList.length = vb.size := rfl
    have h2 : s.data.toList.length = s.size := rfl
    rw [hvl, List.length_drop] at h1; omega)
  clear hm' hk hv his hkl hvl hm
  go_enter Tryz.func33, Tryz.ntmps33
  go_wp2_with fail
  refine KC.out.mono ?_
  rintro e w2 ⟨rfl, n, hw2⟩
  have HB2 := Lib.hid (show Below w.heap.size w w2 by rw [hw2]; exact below_drewN ((Below.refl _ _).alloc (Nat.le_refl _) _) n)
  have HT2 := Lib.hid (show w2.heap[w.heap.size]? = some (.cells #[.string ⟨#[]⟩, .string ⟨#[]⟩] 47 (0, 0)) by rw [hw2]; exact World.alloc_heap_new _ _)
  have HS2 := Lib.hid (show w2.heap.size = w.heap.size + 1 by rw [hw2]; simp)
  clear hw2 KC
  go_wp2_with fail
  rw [HS2.out]
  obtain ⟨W3, hW3⟩ : ∃ W, w2.alloc (.cells #[.string kb, .string vb] 9) = W := ⟨_, rfl⟩
  rw [hW3]
  have HB3 := Lib.hid (show Below w.heap.size w W3 by rw [← hW3]; exact HB2.out.alloc (by rw [HS2.out]; omega) _)
  have HT3 := Lib.hid (show W3.heap[w.heap.size]? = some (.cells #[.string ⟨#[]⟩, .string ⟨#[]⟩] 47 (0, 0)) by rw [← hW3, Below.heap_alloc _ _ _ (by rw [HS2.out]; omega)]; exact HT2.out)
  have HS3 := Lib.hid (show W3.heap.size = w.heap.size + 2 by rw [← hW3]; simp [HS2.out])
  have HSR := Lib.hid (show SR W3 (.slice (some ⟨w.heap.size + 1, 0, none⟩) 2 2) [kb, vb] from .inr ⟨w.heap.size + 1, 0, 2, rfl, by rw [HS3.out]; omega, fun j hj => by
    have hnew : W3.heap[w.heap.size + 1]? = some (.cells #[.string kb, .string vb] 9 (0, 0)) := by rw [← hW3, ← HS2.out]; exact World.alloc_heap_new _ _
    match j, hj with
    | 0, _ => simp [World.cell?, hnew]
    | 1, _ => simp [World.cell?, hnew]⟩)
  have K := Lib.hid (tg_made 64 (Gt.dec true) _ _ W3 HSR.out (by simp) pair1_enter (fun z hz W => tg_pair1 z W (by
    simp only [List.mem_cons, List.mem_nil_iff, or_false] at hz
    rcases hz with rfl | rfl
    · exact HKS.out
    · exact HVS.out)))
  clear hW3
  refine K.out.mono ?_
  rintro e w4 ⟨hor, hb4⟩
  have HB4 := Lib.hid (HB3.out.trans (hb4.mono HB3.out.size))
  have HT4 := Lib.hid ((hb4.block w.heap.size (by rw [HS3.out]; omega)).trans HT3.out)
  clear hb4 K
  rw [show ([kb, vb] : List ByteArray).map (·.data.toList) = [kb.data.toList, vb.data.toList] from rfl, HPA.out] at hor
  rcases hor with ⟨R, r, h1, rfl, hrow⟩ | ⟨h1, rfl⟩
  · cases o with
    | none => simp at h1
    | some p =>
      obtain ⟨a, d⟩ := p
      simp at h1
      subst h1
      obtain ⟨pp, cap, rfl, hcells⟩ := hrow
      rcases hcells with h | ⟨g, rfl, hcells⟩
      · simp at h
      have e0 : w4.cell? ⟨g, 0, none⟩ = some (.string ⟨a.toArray⟩) := hcells 0 (by simp)
      have e1 : w4.cell? ⟨g, 1, none⟩ = some (.string ⟨d.toArray⟩) := hcells 1 (by simp)
      have t0 : w4.cell? ⟨w.heap.size, 0, none⟩ = some (.string ⟨#[]⟩) := by simp [World.cell?, HT4.out]
      have t1 : w4.cell? ⟨w.heap.size, 1, none⟩ = some (.string ⟨#[]⟩) := by simp [World.cell?, HT4.out]
      have z0 : w4.frozen? ⟨w.heap.size, 0, none⟩ = false := frozen_of_row _ _ _ _ _ HT4.out
      have z1 : w4.frozen? ⟨w.heap.size, 1, none⟩ = false := frozen_of_row _ _ _ _ _ HT4.out
      clear hcells
      go_wp2_with fail
      go_region
      have HB5 := Lib.hid (((HB4.out.setCell (p := ⟨w.heap.size, 0, none⟩) (Nat.le_refl _) (.string ⟨a.toArray⟩)).setCell (p := ⟨w.heap.size, 1, none⟩) (Nat.le_refl _) (.string ⟨d.toArray⟩)).drew)
      have hT5 : ((w4.setCell ⟨w.heap.size, 0, none⟩ (.string ⟨a.toArray⟩)).setCell ⟨w.heap.size, 1, none⟩ (.string ⟨d.toArray⟩)).drew.heap[w.heap.size]? = some (.cells #[.string ⟨a.toArray⟩, .string ⟨d.toArray⟩] 47 (0, 0)) :=
        heap_setCell_same _ _ _ _ _ _ (heap_setCell_same _ _ _ _ _ _ HT4.out)
      obtain ⟨w5, hw5⟩ : ∃ W, ((w4.setCell ⟨w.heap.size, 0, none⟩ (.string ⟨a.toArray⟩)).setCell ⟨w.heap.size, 1, none⟩ (.string ⟨d.toArray⟩)).drew = W := ⟨_, rfl⟩
      rw [hw5] at HB5 hT5 ⊢
      have f0 : w5.cell? ⟨w.heap.size, 0, none⟩ = some (.string ⟨a.toArray⟩) := by simp [World.cell?, hT5]
      have f1 : w5.cell? ⟨w.heap.size, 1, none⟩ = some (.string ⟨d.toArray⟩) := by simp [World.cell?, hT5]
      clear hw5 hT5
      go_wp2
      exact bodyPost_ret (by simp [results, Tryz.results33, go_sem, f0, f1]) rfl ⟨rfl, HB5.out⟩
  · cases o with
    | none => exact ⟨rfl, rfl, HB4.out⟩
    | some p => simp at h1
end Go.Proofs.YtcfhenekoaegaaaGreatDoor

/- target: pairs made of texts. -/
namespace Go.Proofs.YtcfhenekoaegaaaGreatDoor
set_option linter.unusedVariables false
set_option linter.unusedSimpArgs false
open Go.RowKit Go.Shelf
set_option maxHeartbeats 4000000
set_option maxRecDepth 100000
/-- pairs' cells -/
def prs (l : List (List UInt8 × List UInt8)) : List Value := l.flatMap fun p => [tx p.1, tx p.2]
theorem prs_snoc (l : List (List UInt8 × List UInt8)) (p : List UInt8 × List UInt8) : prs (l ++ [p]) = prs l ++ [tx p.1, tx p.2] := by unfold prs; rw [List.flatMap_append]; simp
/-- a slice of pairs -/
def PrRow (w : World) (v : Value) (L : List (List UInt8 × List UInt8)) : Prop := ∃ B, w.ownsRow B 47 2 v L.length (prs L)
theorem own_ge2 {w : World} {B : Nat} {e : TypeId} {s : Nat} {v : Value} {n : Nat} {xs : List Value} (h : w.ownsRow B e s v n xs) : ∀ k, v.ownBlock = some k → B ≤ k := fun k hk => (h.lt k hk).1
theorem tg_madeP (f : FuncId) (g : List UInt8 → Option (List UInt8 × List UInt8)) (v : Value) (L : List ByteArray) (w : World) (hv : SR w v L) (hL : L.length ≤ 100000)
    (hce : ∀ args W, (callFunc f args).run Tryz.prog W = .ok (.enter f args) W)
    (hf : ∀ s ∈ L, ∀ W, Below w.heap.size w W → Calls Tryz.prog f #[.string s] W fun e w' => e = prEnd (g s.data.toList) ∧ Below W.heap.size W w') :
    Calls Tryz.prog 32 #[.func (.func f) #[] #[], v] w fun e w' =>
      ((∃ R r, Gt.all? g (L.map (·.data.toList)) = some R ∧ e = .returned r ∧ PrRow w' r R) ∨ (Gt.all? g (L.map (·.data.toList)) = none ∧ e = .panicked [{ v := errno 210, recovered := false }])) ∧ Below w.heap.size w w' := by
  obtain ⟨i0, hi, hz0, hz1, hz2⟩ := info_parts (show (Tryz.prog.info? 47).map (fun i => (i.zero, i.size, i.bytes)) = some (some (.agg #[.string ByteArray.empty, .string ByteArray.empty]), 2, 32) by kernel_rfl)
  obtain ⟨B, hB⟩ : ∃ B, w.heap.size = B := ⟨_, rfl⟩
  rw [hB]
  rcases hv with ⟨p0, c0, rfl, rfl⟩ | ⟨b, off, cap, rfl, hb, hc⟩
  · go_enter Tryz.func32, Tryz.ntmps32
    go_wp2_with fail
    go_loopw [4, 9] (fun v i wr => v = .slice none 0 0 ∧ i = .int .i64 0 ∧ wr = w) (fun _ _ _ => 0)
    case atStart => exact ⟨rfl, rfl, rfl⟩
    case round =>
      obtain ⟨rfl, rfl, rfl⟩ := hrel
      go_wp2_with fail
      go_ret
      exact ⟨.inl ⟨[], _, rfl, rfl, ⟨0, World.ownsRow_nil _ _ _ _⟩⟩, Below.refl _ _⟩
  · have HC := Lib.hid hc
    have HF := Lib.hid hf
    obtain ⟨N, hN⟩ : ∃ N, L.length = N := ⟨_, rfl⟩
    have HNL := Lib.hid hN
    have HBB := Lib.hid hb
    rw [hN] at hL ⊢
    obtain ⟨M, hM⟩ : ∃ M, L.map (·.data.toList) = M := ⟨_, rfl⟩
    rw [hM]
    have HML := Lib.hid (show M.length = N by rw [← hM, List.length_map, hN])
    have HM := Lib.hid hM
    clear hc hf hM hN hb
    go_enter Tryz.func32, Tryz.ntmps32
    go_wp2_with fail
    go_loopw [4, 9] (fun v i wr => ∃ (k : Nat) (acc : List (List UInt8 × List UInt8)), k ≤ N ∧ i = .int .i64 k ∧ Gt.AAt g M acc k ∧ wr.ownsRow B 47 2 v acc.length (prs acc) ∧ Below B w wr)
      (fun _ i _ => N - (intOf i).toNat)
    case atStart => exact ⟨0, [], Nat.zero_le _, rfl, Gt.aAt_start _ _, World.ownsRow_nil _ _ _ _, Below.refl _ _⟩
    case round =>
      obtain ⟨k, acc, hk, rfl, hat, hown, hbl⟩ := hrel
      have HA := Lib.hid hat
      have HO := Lib.hid hown
      have HBL := Lib.hid hbl
      clear hat hown hbl
      by_cases hlt : k < N
      · have hkl : k < L.length := by have := HNL.out; omega
        have HBW := Lib.hid (show b < B by rw [← hB]; exact HBB.out)
        have hck : wr.cell? ⟨b, off + k, none⟩ = some (.string L[k]) := (HBL.out.cell (p := ⟨b, off + k, none⟩) HBW.out).trans (HC.out k hkl)
        obtain ⟨S, hS⟩ : ∃ S, L[k] = S := ⟨_, rfl⟩
        rw [hS] at hck
        have HKM := Lib.hid (show k < M.length by rw [HML.out]; exact hlt)
        have HMK := Lib.hid (show M[k]'HKM.out = S.data.toList by
          have : M[k]? = some S.data.toList := by rw [← HM.out, List.getElem?_map, List.getElem?_eq_getElem hkl, hS]; rfl
          exact (List.getElem?_eq_some_iff.1 this).2)
        have K := Lib.hid (HF.out S (by rw [← hS]; exact List.getElem_mem _) wr (hB ▸ HBL.out))
        clear hS hkl
        cases hg : g S.data.toList with
        | none =>
          rw [hg] at K
          have HN := Lib.hid (Gt.aAt_bad HA.out HKM.out (by rw [HMK.out]; exact hg))
          clear hg
          go_wp2_with fail
          refine K.out.mono ?_
          rintro e w2 ⟨rfl, hb2⟩
          exact ⟨rfl, .inr ⟨HN.out, rfl⟩, HBL.out.trans (hb2.mono (hB ▸ HBL.out.size))⟩
        | some q =>
          rw [hg] at K
          have HN := Lib.hid (Gt.aAt_next HA.out HKM.out (by rw [HMK.out]; exact hg))
          clear hg
          go_wp2_with fail
          refine K.out.mono ?_
          rintro e w2 ⟨rfl, hb2⟩
          have HB2 := Lib.hid (HBL.out.trans (hb2.mono (hB ▸ HBL.out.size)))
          have HO2 := Lib.hid (show w2.ownsRow B 47 2 _ acc.length (prs acc) from HO.out.belowed hb2)
          simp only [prEnd]
          clear hb2 K
          go_wp2_with (at_builtin; refine wpList_append_own _ rfl _ _ 24 rfl B 47 i0 (.agg #[.string ByteArray.empty, .string ByteArray.empty]) 2 32 Tryz.underlying24 hi hz0 hz1 hz2 rfl (by decide) _ _ _ rfl (HO2.out.alloc _) ⟨w2.heap.size, 0, none⟩ 1 1 [tx q.1, tx q.2] rfl rfl ?c1 ?c2 ?c3 ?c4 ?c5 ?_)
          case c1 =>
            intro j u hj
            match j, hj with
            | 0, hj => simp at hj; subst hj; simp [Addr.add, tx]
            | 1, hj => simp at hj; subst hj; simp [Addr.add, tx]
          case c2 => intro u hu; simp [tx] at hu; rcases hu with rfl | rfl <;> rfl
          case c3 => have := HA.out.2.1; unfold maxLen; omega
          case c4 => have := HA.out.2.1; omega
          case c5 => have := HB2.out.size; simp; omega
          intro v' w3 hown' hgrow _
          have HB3 := Lib.hid (show Below B w w3 from Below.grown (HB2.out.alloc (by have := HB2.out.size; omega) _) hgrow (by have := HB2.out.size; simp; omega) (own_ge2 HO2.out))
          have HO3 := Lib.hid (show w3.ownsRow B 47 2 v' (acc ++ [q]).length (prs (acc ++ [q])) by
            rw [prs_snoc, List.length_append]
            exact hown')
          clear hgrow hown'
          go_wp2
          go_roundw
          case rel => exact ⟨k + 1, acc ++ [q], hlt, by go_num, HN.out, HO3.out, HB3.out⟩
          case measure => simp [intOf]; omega
      · have HE := Lib.hid (Gt.aAt_end HA.out (by rw [HML.out]; omega))
        go_wp2_with fail
        go_ret
        exact ⟨.inl ⟨acc, _, HE.out, rfl, ⟨B, HO.out⟩⟩, HBL.out⟩
end Go.Proofs.YtcfhenekoaegaaaGreatDoor

/- target: Parse's clearing closure. -/
namespace Go.Proofs.YtcfhenekoaegaaaGreatDoor
set_option linter.unusedVariables false
set_option linter.unusedSimpArgs false
open Go.RowKit Go.Shelf
set_option maxHeartbeats 2000000
set_option maxRecDepth 100000
theorem tg_clearT (T : Nat) (u v : Value) (w : World) (h : w.heap[T]? = some (.cells #[u, v] 26 (0, 0))) :
    Calls Tryz.prog 25 #[.pointer (some ⟨T, 0, none⟩)] w fun e w' => e = .returned (.tuple #[]) ∧ w' = (w.setCell ⟨T, 0, none⟩ (.slice none 0 0)).setCell ⟨T, 1, none⟩ (.slice none 0 0) := by
  have c0 : w.cell? ⟨T, 0, none⟩ = some u := by simp [World.cell?, h]
  have c1 : w.cell? ⟨T, 1, none⟩ = some v := by simp [World.cell?, h]
  have z0 : w.frozen? ⟨T, 0, none⟩ = false := frozen_of_row _ _ _ _ _ h
  have z1 : w.frozen? ⟨T, 1, none⟩ = false := frozen_of_row _ _ _ _ _ h
  clear h
  go_enter Tryz.func25, Tryz.ntmps25
  go_wp2
  simp [bodyPost, results, Tryz.results25, go_sem]
theorem clearT_enter (args : Array Value) (W : World) : (callFunc 25 args).run Tryz.prog W = .ok (.enter 25 args) W := by
  simp [callFunc, go_sem, Tryz.func25]
  rw [if_neg (by decide), if_neg (by decide)]
theorem part_enter (args : Array Value) (W : World) : (callFunc 30 args).run Tryz.prog W = .ok (.enter 30 args) W := by
  simp [callFunc, go_sem, Tryz.func30]
  rw [if_neg (by decide), if_neg (by decide)]
theorem pair_enter (args : Array Value) (W : World) : (callFunc 33 args).run Tryz.prog W = .ok (.enter 33 args) W := by
  simp [callFunc, go_sem, Tryz.func33]
  rw [if_neg (by decide), if_neg (by decide)]
end Go.Proofs.YtcfhenekoaegaaaGreatDoor

/- target: what Split and DeleteFunc leave; Parse. -/
namespace Go.Proofs.YtcfhenekoaegaaaGreatDoor
set_option linter.unusedVariables false
set_option linter.unusedSimpArgs false
open Go.RowKit Go.Shelf
set_option maxHeartbeats 4000000
set_option maxRecDepth 100000
theorem ask1_enter (args : Array Value) (W : World) : (callFunc 59 args).run Tryz.prog W = .ok (.enter 59 args) W := by
  simp [callFunc, go_sem, Tryz.func59]
  rw [if_neg (by decide), if_neg (by decide)]
theorem ask2_enter (args : Array Value) (W : World) : (callFunc 61 args).run Tryz.prog W = .ok (.enter 61 args) W := by
  simp [callFunc, go_sem, Tryz.func61]
  rw [if_neg (by decide), if_neg (by decide)]
theorem ask3_enter (args : Array Value) (W : World) : (callFunc 35 args).run Tryz.prog W = .ok (.enter 35 args) W := by
  simp [callFunc, go_sem, Tryz.func35]
  rw [if_neg (by decide), if_neg (by decide)]
/-- what Split leaves: a block of its own -/
theorem tg_split (s : ByteArray) (z : UInt8) (w : World) (hs : s.size ≤ 1000000) (hm : Mx w) :
    Calls Tryz.prog 31 #[.string s, .string ⟨#[z]⟩] w fun e w' => ∃ D : List ByteArray, D.map (·.data.toList) = Gs.parts z [] s.data.toList ∧
      e = .returned (.slice (some ⟨w.heap.size, 0, none⟩) D.length D.length) ∧ w' = w.alloc (.cells (D.map Value.string).toArray 9) := by
  obtain ⟨m, hm⟩ := hm
  refine (Tryz.strings_Split s ⟨#[z]⟩ m w (by omega) hm (Nat.le_refl 1)).mono ?_
  rintro e w' ⟨rfl, rfl⟩
  refine ⟨Lib.splitB ⟨#[z]⟩ 0 (Lib.countB s ⟨#[z]⟩) s, Gs.splitB_is z s, ?_, rfl⟩
  rw [Lib.splitB_all ⟨#[z]⟩ (Nat.le_refl 1) 0 _ s rfl]
open Go.Sort in
/-- the empty ones are struck -/
theorem tg_strike (g cap : Nat) (D : List ByteArray) (W : World) (hg : W.heap[g]? = some (.cells (D.map Value.string).toArray 9 (0, 0))) (hn : D.length ≤ cap) (hN : D.length ≤ 1000000) :
    Calls Tryz.prog 34 #[.slice (some ⟨g, 0, none⟩) D.length cap, .func (.func 35) #[] #[]] W fun e w' =>
      ∃ v, e = .returned v ∧ SR w' v (D.filter fun s => !s.data.toList.isEmpty) ∧ Below g W w' := by
  have hgl : g < W.heap.size := by
    rcases Nat.lt_or_ge g W.heap.size with h | h
    · exact h
    · rw [Array.getElem?_eq_none h] at hg; simp at hg
  have hds : D.toArray.size = D.length := by simp
  have hd : ∀ j (h : j < D.length), D.toArray[j]! = D[j] := fun j h => by rw [getElem!_pos D.toArray j (by simpa using h)]; simp
  have hH : Holds Value.string W g 0 D.toArray := fun j hj => by
    have hj' : j < D.length := by simpa using hj
    rw [Nat.zero_add, hd j hj']
    exact ⟨by simp [World.cell?, hg, List.getElem?_eq_getElem hj'], frozen_of_row _ _ _ _ _ hg⟩
  have hgv : ∀ (V : World) (x : ByteArray), FnGives Tryz.prog 35 #[] #[.string x] (.bool x.data.toList.isEmpty) V := fun V x => by
    show Calls Tryz.prog 35 #[.string x] V _
    refine (tg_ask3 x V).mono ?_
    rintro e w' ⟨rfl, rfl⟩
    exact ⟨rfl, 0, rfl⟩
  have K := Tryz.slices_DeleteFunc Value.string (fun _ => rfl) (fun s => s.data.toList.isEmpty) 35 #[] ask3_enter ⟨#[]⟩ (fun _ => by kernel_rfl) g 0 cap D.toArray W
    (fun V x _ => hgv V x) (fun n os dk x _ => hgv _ x) hH (by rw [hds]; omega) (by rw [hds]; exact hn)
  rw [hds] at K
  refine K.mono ?_
  rintro e w' ⟨rfl, q, rfl⟩
  simp only
  obtain ⟨F, hF⟩ : ∃ F, (D.filter fun s => !s.data.toList.isEmpty) = F := ⟨_, rfl⟩
  have hFl : F.length ≤ D.length := by rw [← hF]; exact List.length_filter_le _ _
  rw [hF]
  refine ⟨_, rfl, .inr ⟨g, 0, cap, rfl, ?_, fun j hj => ?_⟩, ?_⟩
  · rw [size_putRow]; exact hgl
  · have := cell?_putRow Value.string (Sort.ahead W q) g 0 D.toArray (F ++ List.replicate (D.length - F.length) (⟨#[]⟩ : ByteArray)).toArray (holds_ahead _ _ _ _ _ _ hH) (by simp; omega) j (by simp; omega)
    rw [this, getElem!_pos _ j (by simp; omega)]
    simp [List.getElem_append_left hj]
  · refine ⟨rfl, rfl, rfl, by rw [size_putRow]; exact Nat.le_refl _, fun k hk => ?_⟩
    simp only [putRow, mapBlock, Array.getElem?_modify]
    rw [if_neg (by omega)]
    rfl
end Go.Proofs.YtcfhenekoaegaaaGreatDoor
