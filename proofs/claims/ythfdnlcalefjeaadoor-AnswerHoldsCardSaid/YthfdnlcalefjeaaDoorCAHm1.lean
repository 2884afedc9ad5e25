/- Texts of this claim, one behind the other: Tp, Tq, Dp, Dq, Dh, Hp, Kit, Tw1, Tw2, Shelf, Tw3, Tw4, Tw5, Ha, CkC, CkE, CkJ, Rv, Rf. -/
import Derived.Below
import Derived.Lib.Hide
import Derived.Lib.SlTrimSet
import Derived.Lib.Bytealg
import Derived.Lib.ItoaNum
import Derived.Lib.Join
import Derived.Test.YthfdnlcalefjeaaDoorRows
import Derived.WalkKit
import Derived.WalkLawsBesides
import Derived.WalkSpells
import Derived.Outline
import Derived.OneCell
import Derived.Laws.EntriesVeiled
import Derived.WalkMore
import Derived.Lib.ConvBytes
import Derived.Shelf.Abstract
import Derived.Lib.IndexBytes
import Derived.Shelf.Strings.Builder1
import Derived.Shelf.Strings.Builder2
import Derived.Shelf.Strings.OnBuilder
import Derived.Shelf.Strings.Trim
import Derived.Shelf.Small.Utf8
import Derived.Shelf.Small.Strs
import Derived.Shelf.Strings.BuilderF
import Derived.Shelf.Strings.BuilderK
import Derived.Shelf.Strings.Builder2Cap
import Derived.Shelf.Strconv.Itoa0
import Derived.Shelf.Strconv.Itoa1
import Derived.Shelf.LaysM
import Derived.Shelf.Strconv.Itoa2
import Derived.Shelf.Strings.Search1
import Derived.Shelf.Unicode.Decode
import Derived.Shelf.Strings.Runes
import Derived.Shelf.Strings.AsciiSet
import Derived.Shelf.Unicode.DecodeSlow
import Derived.Shelf.Unicode.DecodeAny
import Derived.Shelf.Unicode.DecodeLast
import Derived.Test.YthfdnlcalefjeaaDoorProg
import Derived.Shelf.Strings.SlTrimAscii
import Derived.Lib.ItoaMem
import Derived.IntWalk
import Derived.RangeFuncRecord
import Derived.ProofKit
import Derived.Orders
import Derived.RangeFuncNested
import Derived.RangeFuncBound
import Derived.RangeFuncCalls
import Derived.RangeFuncLeaves
import Derived.Scope
/- What layer 9 (token) tells of bytes and texts, as plain functions: no program in sight. -/
namespace Go.Proofs.YthfdnlcalefjeaaDoor
set_option linter.unusedVariables false
set_option linter.unusedSimpArgs false
namespace Tp
/-- the signs of a token that are no letters and no digits -/
def SG : ByteArray := ⟨#[33, 35, 36, 37, 38, 39, 42, 43, 45, 46, 94, 95, 96, 124, 126]⟩
def signB (c : Int) : Bool := SG.data.toList.any fun x => decide ((x.toNat : Int) = c)
/-- a token's byte -/
def tokB (c : Int) : Bool := decide (97 ≤ c ∧ c ≤ 122) || decide (65 ≤ c ∧ c ≤ 90) || decide (48 ≤ c ∧ c ≤ 57) || signB c
/-- a value's byte -/
def valB (c : Int) : Bool := decide (c = 9) || (decide (32 ≤ c) && decide (c ≠ 127))
def lowB (c : Int) : Int := if 65 ≤ c ∧ c ≤ 90 then c + 32 else c
def blank (c : Int) : Bool := decide (c = 9) || decide (c = 32)
def allT (f : Int → Bool) (l : List UInt8) : Bool := l.all fun c => f c.toNat
theorem allT_no {f : Int → Bool} {l : List UInt8} {k : Nat} (hk : k < l.length) (h : f (l[k].toNat : Int) = false) : allT f l = false := by
  unfold allT
  rw [List.all_eq_false]
  exact ⟨l[k], List.getElem_mem hk, by simpa using h⟩
theorem allT_snoc {f : Int → Bool} {l : List UInt8} {c : UInt8} (h : allT f l = true) (hc : f (c.toNat : Int) = true) : allT f (l ++ [c]) = true := by
  unfold allT at *
  rw [List.all_append, h]
  simpa using hc
def SGx (j : Nat) : Int := (SG.data.toList.getD j 0).toNat
theorem SG_size : SG.size = 15 := by decide
theorem SG_at (j : Nat) (h : j < SG.size) : ((SG[j]'h).toNat : Int) = SGx j := by
  unfold SGx
  rw [List.getD_eq_getElem?_getD, List.getElem?_eq_getElem (by simpa using h)]
  rfl
theorem SG_ascii (j : Nat) (h : j < SG.size) : (SG[j]'h).toNat < 128 := by
  have : ∀ x ∈ SG.data.toList, x.toNat < 128 := by decide
  exact this _ (by exact List.getElem_mem (l := SG.data.toList) (by simpa using h))
theorem signB_yes {c : Int} {j : Nat} (h : j < 15) (hc : SGx j = c) : signB c = true := by
  unfold signB
  rw [List.any_eq_true]
  exact ⟨SG.data.toList.getD j 0, by rw [List.getD_eq_getElem?_getD, List.getElem?_eq_getElem (by exact h)]; exact List.getElem_mem _, decide_eq_true hc⟩
theorem signB_no {c : Int} (h : ∀ j, j < 15 → SGx j ≠ c) : signB c = false := by
  unfold signB
  rw [List.any_eq_false]
  intro x hx
  obtain ⟨j, hj, rfl⟩ := List.mem_iff_getElem.1 hx
  have := h j (by exact hj)
  unfold SGx at this
  rw [List.getD_eq_getElem?_getD, List.getElem?_eq_getElem hj] at this
  simpa using this
end Tp
end Go.Proofs.YthfdnlcalefjeaaDoor

/- How layer 9 (token) trims texts and makes their letters small, as plain functions: no program in sight. -/
namespace Go.Proofs.YthfdnlcalefjeaaDoor
set_option linter.unusedVariables false
set_option linter.unusedSimpArgs false
namespace Tp
def blankB (c : UInt8) : Bool := blank (c.toNat : Int)
def trimL (l : List UInt8) : List UInt8 := l.dropWhile blankB
def trimR (l : List UInt8) : List UInt8 := (l.reverse.dropWhile blankB).reverse
/-- a text without the blanks at its ends -/
def trim (l : List UInt8) : List UInt8 := trimR (trimL l)
theorem blankB_is (c : UInt8) : blankB c = ([32, 9] : List UInt8).contains c := by
  have : ∀ c : Fin 256, blankB (UInt8.ofNat c.val) = ([32, 9] : List UInt8).contains (UInt8.ofNat c.val) := by decide +kernel
  have h := this ⟨c.toNat, c.toNat_lt⟩
  simpa using h
theorem trimL_nil : trimL [] = [] := rfl
theorem trimL_cons (c : UInt8) (l : List UInt8) : trimL (c :: l) = if blankB c then trimL l else c :: l := by unfold trimL; rw [List.dropWhile_cons]
theorem trimR_nil : trimR [] = [] := rfl
theorem trimR_snoc (l : List UInt8) (c : UInt8) : trimR (l ++ [c]) = if blankB c then trimR l else l ++ [c] := by
  unfold trimR
  rw [List.reverse_append]
  show ((c :: l.reverse).dropWhile blankB).reverse = _
  rw [List.dropWhile_cons]
  split
  · rfl
  · simp
theorem trimR_append (x y : List UInt8) (h : trimR y ≠ []) : trimR (x ++ y) = x ++ trimR y := by
  unfold trimR at *
  have hne : y.reverse.dropWhile blankB ≠ [] := fun e => h (by rw [e]; rfl)
  rw [List.reverse_append, List.dropWhile_append]
  have : (y.reverse.dropWhile blankB).isEmpty = false := by cases hd : y.reverse.dropWhile blankB with
    | nil => exact absurd hd hne
    | cons _ _ => rfl
  rw [this]
  simp
theorem trimR_head (c : UInt8) (l : List UInt8) (h : blankB c = false) : ∃ m, trimR (c :: l) = c :: m := by
  unfold trimR
  rw [List.reverse_cons, List.dropWhile_append]
  split
  · exact ⟨[], by rw [List.dropWhile_cons]; simp [h]⟩
  · exact ⟨_, by rw [List.reverse_append]; rfl⟩
theorem trimS_is (l : List UInt8) : Lib.trimS l [32, 9] = trim l := by
  have hp : (([32, 9] : List UInt8).contains ·) = blankB := by funext c; exact (blankB_is c).symm
  have e1 : ∀ l, Lib.trimLeftS l [32, 9] = trimL l := fun l => by unfold Lib.trimLeftS trimL; rw [hp]
  have e2 : ∀ l, Lib.trimRightS l [32, 9] = trimR l := fun l => by unfold Lib.trimRightS trimR; rw [hp]
  unfold Lib.trimS trim
  rw [e1, e2]
  induction l with
  | nil => rfl
  | cons c l ih =>
    rw [trimL_cons]
    by_cases hc : blankB c = true
    · rw [if_pos hc]
      by_cases hr : trimR l = []
      · have h1 : trimR (c :: l) = [] := by
          have : c :: l = [c] ++ l := rfl
          unfold trimR at hr ⊢
          have hd : l.reverse.dropWhile blankB = [] := by simpa using hr
          rw [this, List.reverse_append, List.dropWhile_append, hd]
          simp [hc]
        rw [h1, ← ih, hr]
      · have h1 := trimR_append [c] l hr
        rw [List.singleton_append] at h1
        rw [h1, List.singleton_append, trimL_cons, if_pos hc, ih]
    · have hc' : blankB c = false := by simpa using hc
      rw [if_neg hc]
      obtain ⟨m, hm⟩ := trimR_head c l hc'
      rw [hm, trimL_cons, if_neg hc]
/-- small letters -/
def lower (l : List UInt8) : List UInt8 := l.map fun c => UInt8.ofNat (lowB c.toNat).toNat
theorem lower_at (c : UInt8) : (((UInt8.ofNat (lowB c.toNat).toNat).toNat : Nat) : Int) = lowB c.toNat := by
  have h := c.toNat_lt
  have : 0 ≤ lowB c.toNat ∧ lowB c.toNat < 256 := by unfold lowB; split <;> omega
  rw [UInt8.toNat_ofNat_of_lt' (by show (lowB (c.toNat : Int)).toNat < 256; omega)]
  omega
def isTok (l : List UInt8) : Bool := !l.isEmpty && allT tokB l
def isVal (l : List UInt8) : Bool := (trim l == l) && allT valB l
end Tp
end Go.Proofs.YthfdnlcalefjeaaDoor

/- What the functions of layer 1 (decimal) compute, as plain functions on whole numbers, and laws of these: no program in sight. No conditions but those that each law states. -/
namespace Go.Proofs.YthfdnlcalefjeaaDoor
set_option linter.unusedVariables false
set_option linter.unusedSimpArgs false
namespace Dp
/-- a number of 64 bits -/
def U (a : Int) : Prop := 0 ≤ a ∧ a < 18446744073709551616
def addN (a b : Int) : Int := if a + b < 18446744073709551616 then a + b else 0
def addE (a b : Int) : Int := if a + b < 18446744073709551616 then 0 else 111
def subN (a b : Int) : Int := if a < b then 0 else a - b
def subE (a b : Int) : Int := if a < b then 112 else 0
def mulN (a b : Int) : Int := if a * b < 18446744073709551616 then a * b else 0
def mulE (a b : Int) : Int := if a * b < 18446744073709551616 then 0 else 111
def nextN (a b : Int) : Int := if b ≤ a then 0 else a + 1
def nextE (a b : Int) : Int := if b ≤ a then 111 else 0
def clampN (n a b : Int) : Int := if b < a then 0 else if n < a then a else if b < n then b else n
def clampE (a b : Int) : Int := if b < a then 2 else 0
theorem addN_U {a b : Int} (ha : U a) (hb : U b) : U (addN a b) := by unfold U addN at *; split <;> omega
theorem subN_U {a b : Int} (ha : U a) (hb : U b) : U (subN a b) := by unfold U subN at *; split <;> omega
theorem mulN_U {a b : Int} (ha : U a) (hb : U b) : U (mulN a b) := by
  unfold U mulN at *
  have h : 0 ≤ a * b := Int.mul_nonneg ha.1 hb.1
  split <;> omega
/-- Go's own test whether a product is too great: by wrapping and dividing. -/
theorem mul_div {a b : Int} (ha : U a) (hb : U b) (h0 : a ≠ 0) : (((a * b) % 18446744073709551616) / a = b) ↔ a * b < 18446744073709551616 := by
  unfold U at *
  have hp : 0 ≤ a * b := Int.mul_nonneg ha.1 hb.1
  constructor
  · intro h
    have h1 : a * (((a * b) % 18446744073709551616) / a) ≤ (a * b) % 18446744073709551616 := by
      rw [Int.mul_comm]; exact Int.ediv_mul_le _ h0
    rw [h] at h1
    omega
  · intro h
    rw [Int.emod_eq_of_lt hp h, Int.mul_comm, Int.mul_ediv_cancel _ h0]
theorem mul_most {a b : Int} (ha : U a) (hb : U b) (h0 : a ≠ 0) : (18446744073709551615 / a < b) ↔ ¬ a * b < 18446744073709551616 := by
  unfold U at *
  have hpos : 0 < a := by omega
  rw [Int.ediv_lt_iff_lt_mul hpos, Int.mul_comm]
  omega
end Dp
end Go.Proofs.YthfdnlcalefjeaaDoor

/- How digits are read to a base of ten or of sixteen, as plain functions: no program in sight. -/
namespace Go.Proofs.YthfdnlcalefjeaaDoor
set_option linter.unusedVariables false
set_option linter.unusedSimpArgs false
namespace Dp
/-- a digit's value to the base 16; 16: it is none -/
def digV (c : Int) : Int := if 48 ≤ c ∧ c ≤ 57 then c - 48 else if 97 ≤ c ∧ c ≤ 102 then c - 87 else if 65 ≤ c ∧ c ≤ 70 then c - 55 else 16
/-- a digit's value to a base, -1: it is none -/
def valV (b c : Int) : Int := if digV c < b then digV c else -1
theorem digV_lo (c : Int) : 0 ≤ digV c ∧ digV c ≤ 16 := by
  unfold digV
  repeat' split
  all_goals omega
/-- digits, one behind the other, behind a number -/
def rd (b : Int) : List UInt8 → Int → Int × Int
  | [], n => (n, 0)
  | c :: l, n => if mulE n b ≠ 0 then (0, 111) else if addE (mulN n b) (digV c.toNat) ≠ 0 then (0, 111) else rd b l (addN (mulN n b) (digV c.toNat))
/-- are all of them digits? -/
def allD (b : Int) (l : List UInt8) : Bool := l.all fun c => decide (digV c.toNat < b)
theorem allD_no {b : Int} {l : List UInt8} {k : Nat} (hk : k < l.length) (h : decide (digV (l[k].toNat : Int) < b) = false) : allD b l = false := by
  unfold allD
  rw [List.all_eq_false]
  exact ⟨l[k], List.getElem_mem hk, by simpa using h⟩
def numN (b : Int) (l : List UInt8) : Int := if l = [] ∨ allD b l = false then 0 else (rd b l 0).1
def numE (b : Int) (l : List UInt8) : Int := if l = [] ∨ allD b l = false then 110 else (rd b l 0).2
def parN (l : List UInt8) : Int := if 1 < l.length ∧ l.head? = some 48 then 0 else numN 10 l
def parE (l : List UInt8) : Int := if 1 < l.length ∧ l.head? = some 48 then 110 else numE 10 l
theorem digit_U (c : Int) : U (digV c) := by have := digV_lo c; unfold U; omega
theorem rd_err (b : Int) (l : List UInt8) (n : Int) : (rd b l n).2 = 0 ∨ ((rd b l n).1 = 0 ∧ (rd b l n).2 = 111) := by
  induction l generalizing n with
  | nil => exact .inl rfl
  | cons c l ih => simp only [rd]; split; exact .inr ⟨rfl, rfl⟩; split; exact .inr ⟨rfl, rfl⟩; exact ih _
def known (b : Int) : List UInt8 := if b = 10 then [48, 49, 50, 51, 52, 53, 54, 55, 56, 57] else [48, 49, 50, 51, 52, 53, 54, 55, 56, 57, 97, 98, 99, 100, 101, 102]
theorem index_ten : ∀ c : Fin 256, Lib.indexByte [48, 49, 50, 51, 52, 53, 54, 55, 56, 57] (UInt8.ofNat c.val) = valV 10 c.val := by decide +kernel
theorem index_hex : ∀ c : Fin 256, Lib.indexByte [48, 49, 50, 51, 52, 53, 54, 55, 56, 57, 97, 98, 99, 100, 101, 102] (UInt8.ofNat (if 65 ≤ c.val ∧ c.val ≤ 70 then c.val + 32 else c.val)) = valV 16 c.val := by decide +kernel
end Dp
end Go.Proofs.YthfdnlcalefjeaaDoor

/- The digits of a number to a base, as a plain function, and its laws: no program in sight. -/
namespace Go.Proofs.YthfdnlcalefjeaaDoor
set_option linter.unusedVariables false
set_option linter.unusedSimpArgs false
namespace Dp
/-- the sign of a digit -/
def dg (i : Nat) : UInt8 := [48, 49, 50, 51, 52, 53, 54, 55, 56, 57, 97, 98, 99, 100, 101, 102].getD i 0
/-- a number's digits -/
def digs (b n : Nat) : List UInt8 := if h : n < b ∨ b < 2 then [dg n] else digs b (n / b) ++ [dg (n % b)]
termination_by n
decreasing_by exact Nat.div_lt_self (by omega) (by omega)
theorem digs_lt {b n : Nat} (h : n < b) : digs b n = [dg n] := by rw [digs, dif_pos (.inl h)]
theorem digs_ge {b n : Nat} (hb : 2 ≤ b) (h : ¬ n < b) : digs b n = digs b (n / b) ++ [dg (n % b)] := by rw [digs, dif_neg (by omega)]
theorem digs_ne (b n : Nat) : digs b n ≠ [] := by
  rw [digs]; split <;> simp
theorem dec_digs (n : Nat) : Lib.decDigits n = digs 10 n := by
  induction n using Nat.strongRecOn with
  | _ n ih =>
    rw [Lib.decDigits]
    split
    · rename_i h
      rw [digs_lt h]
      congr 1
      have : n = 0 ∨ n = 1 ∨ n = 2 ∨ n = 3 ∨ n = 4 ∨ n = 5 ∨ n = 6 ∨ n = 7 ∨ n = 8 ∨ n = 9 := by omega
      rcases this with rfl | rfl | rfl | rfl | rfl | rfl | rfl | rfl | rfl | rfl <;> rfl
    · rename_i h
      rw [digs_ge (by omega) h, ih (n / 10) (by omega)]
      congr 2
      have : n % 10 < 10 := Nat.mod_lt _ (by omega)
      generalize n % 10 = m at *
      have : m = 0 ∨ m = 1 ∨ m = 2 ∨ m = 3 ∨ m = 4 ∨ m = 5 ∨ m = 6 ∨ m = 7 ∨ m = 8 ∨ m = 9 := by omega
      rcases this with rfl | rfl | rfl | rfl | rfl | rfl | rfl | rfl | rfl | rfl <;> rfl
/-- of a number below 16 to the k there are at most k digits -/
theorem hex_room {u len : Nat} (h : u * 16 ^ len < 16 ^ 16) (h0 : 1 ≤ u) : len < 16 := by
  rcases Nat.lt_or_ge len 16 with h' | h'
  · exact h'
  · have h1 : 16 ^ 16 ≤ 16 ^ len := Nat.pow_le_pow_right (by omega) h'
    have h2 : 16 ^ len ≤ u * 16 ^ len := Nat.le_mul_of_pos_left _ h0
    omega
theorem hex_less {u len : Nat} (h : u * 16 ^ len < 16 ^ 16) : (u / 16) * 16 ^ (len + 1) < 16 ^ 16 := by
  have h1 : (u / 16) * 16 ^ (len + 1) ≤ u * 16 ^ len := by
    rw [Nat.pow_succ, Nat.mul_comm (16 ^ len) 16, ← Nat.mul_assoc]
    exact Nat.mul_le_mul_right _ (Nat.div_mul_le_self _ _)
  omega
end Dp
end Go.Proofs.YthfdnlcalefjeaaDoor

/- The bytes of heads and of answers: plain. -/
namespace Go.Proofs.YthfdnlcalefjeaaDoor
set_option linter.unusedVariables false
set_option linter.unusedSimpArgs false
namespace Hp
/-- a field: a name and a value -/
abbrev Hd := List UInt8 × List UInt8
def fld (f : Hd) : List UInt8 := f.1 ++ 58 :: 32 :: f.2
def lines (fs : List Hd) : List UInt8 := fs.flatMap fun f => fld f ++ [13, 10]
/-- a head's bytes -/
def hbytes (F : List UInt8) (fs : List Hd) : List UInt8 := F ++ 13 :: 10 :: (lines fs ++ [13, 10])
theorem join_cons (x : List UInt8) (xs : List (List UInt8)) (sep : List UInt8) (h : xs ≠ []) : Lib.join (x :: xs) sep = x ++ sep ++ Lib.join xs sep := by
  cases xs with
  | nil => exact absurd rfl h
  | cons y ys => unfold Lib.join; simp [List.intercalate_cons_cons]
theorem join_rest : ∀ fs : List Hd, Lib.join (fs.map fld ++ [[], []]) [13, 10] = lines fs ++ [13, 10]
  | [] => by decide
  | f :: fs => by
    rw [List.map_cons, List.cons_append, join_cons _ _ _ (by simp), join_rest fs]
    unfold lines
    rw [List.flatMap_cons]
    simp
theorem join_head (F : List UInt8) (fs : List Hd) : Lib.join (F :: (fs.map fld ++ [[], []])) [13, 10] = hbytes F fs := by
  rw [join_cons _ _ _ (by simp), join_rest]
  unfold hbytes
  simp
/-- a head that may be -/
structure HOk (F : List UInt8) (fs : List Hd) : Prop where
  ne : F ≠ []
  first : Tp.trim (F.take 1) ≠ []
  val : Tp.isVal (120 :: F ++ [120]) = true
  each : ∀ f ∈ fs, Tp.isTok f.1 = true ∧ Tp.lower f.1 = f.1 ∧ Tp.isVal f.2 = true
theorem trimL_no {c : UInt8} {l : List UInt8} (h : Tp.blankB c = false) : Tp.trimL (c :: l) = c :: l := by simp [Tp.trimL, h]
theorem trimR_no {c : UInt8} {l : List UInt8} (h : Tp.blankB c = false) : Tp.trimR (l ++ [c]) = l ++ [c] := by simp [Tp.trimR, h]
theorem isVal_x {F : List UInt8} (h : Tp.allT Tp.valB F = true) : Tp.isVal (120 :: F ++ [120]) = true := by
  unfold Tp.isVal Tp.trim
  rw [List.cons_append, trimL_no (by decide), ← List.cons_append, trimR_no (by decide)]
  unfold Tp.allT at h ⊢
  simp only [beq_self_eq_true, Bool.true_and, List.cons_append, List.all_cons, List.all_append, h]
  decide
theorem trim_none : ∀ {l : List UInt8}, (∀ c ∈ l, Tp.blankB c = false) → Tp.trim l = l
  | [], _ => by decide
  | c :: l, h => by
    unfold Tp.trim
    rw [trimL_no (h c List.mem_cons_self)]
    obtain ⟨m, d, e⟩ : ∃ m d, c :: l = m ++ [d] := ⟨(c :: l).dropLast, (c :: l).getLast (by simp), (List.dropLast_concat_getLast (by simp)).symm⟩
    rw [e, trimR_no (h d (by rw [e]; simp))]
theorem dg_ok : ∀ k : Fin 10, Tp.blankB (Dp.dg k.val) = false ∧ Tp.valB ((Dp.dg k.val).toNat : Int) = true := by decide +kernel
theorem digs_ok (n : Nat) : ∀ c ∈ Dp.digs 10 n, Tp.blankB c = false ∧ Tp.valB (c.toNat : Int) = true := by
  induction n using Nat.strongRecOn with
  | ind n ih =>
    intro c hc
    by_cases h : n < 10
    · rw [Dp.digs_lt h, List.mem_singleton] at hc
      subst hc
      exact dg_ok ⟨n, h⟩
    · rw [Dp.digs_ge (by omega) h, List.mem_append] at hc
      rcases hc with hc | hc
      · exact ih _ (Nat.div_lt_self (by omega) (by omega)) c hc
      · rw [List.mem_singleton] at hc
        subst hc
        exact dg_ok ⟨n % 10, Nat.mod_lt _ (by omega)⟩
theorem digs_val (n : Nat) : Tp.isVal (Dp.digs 10 n) = true := by
  unfold Tp.isVal
  rw [trim_none (fun c hc => (digs_ok n c hc).1)]
  unfold Tp.allT
  simp only [beq_self_eq_true, Bool.true_and, List.all_eq_true]
  exact fun c hc => (digs_ok n c hc).2
/-- a status's reason -/
def stats : List (Int × List UInt8) := [(200, [79, 75]), (400, [66, 97, 100, 32, 82, 101, 113, 117, 101, 115, 116]), (404, [78, 111, 116, 32, 70, 111, 117, 110, 100]), (405, [77, 101, 116, 104, 111, 100, 32, 78, 111, 116, 32, 65, 108, 108, 111, 119, 101, 100]), (406, [78, 111, 116, 32, 65, 99, 99, 101, 112, 116, 97, 98, 108, 101]), (431, [82, 101, 113, 117, 101, 115, 116, 32, 72, 101, 97, 100, 101, 114, 32, 70, 105, 101, 108, 100, 115, 32, 84, 111, 111, 32, 76, 97, 114, 103, 101]), (503, [83, 101, 114, 118, 105, 99, 101, 32, 85, 110, 97, 118, 97, 105, 108, 97, 98, 108, 101]), (505, [72, 84, 84, 80, 32, 86, 101, 114, 115, 105, 111, 110, 32, 78, 111, 116, 32, 83, 117, 112, 112, 111, 114, 116, 101, 100])]
def reason (n : Int) : Option (List UInt8) := (stats.find? fun s => s.1 == n).map (·.2)
def http : List UInt8 := [72, 84, 84, 80, 47, 49, 46, 49, 32]
def first (n : Int) (r : List UInt8) : List UInt8 := http ++ Dp.digs 10 n.toNat ++ 32 :: r
def ct : List UInt8 := [99, 111, 110, 116, 101, 110, 116, 45, 116, 121, 112, 101]
def cl : List UInt8 := [99, 111, 110, 116, 101, 110, 116, 45, 108, 101, 110, 103, 116, 104]
def tp : List UInt8 := [116, 101, 120, 116, 47, 112, 108, 97, 105, 110]
def al : List UInt8 := [97, 108, 108, 111, 119]
def gt : List UInt8 := [71, 69, 84]
def ra : List UInt8 := [114, 101, 116, 114, 121, 45, 97, 102, 116, 101, 114]
def cn : List UInt8 := [99, 111, 110, 110, 101, 99, 116, 105, 111, 110]
def cs : List UInt8 := [99, 108, 111, 115, 101]
def es : List UInt8 := [116, 101, 120, 116, 47, 101, 118, 101, 110, 116, 45, 115, 116, 114, 101, 97, 109]
def cc : List UInt8 := [99, 97, 99, 104, 101, 45, 99, 111, 110, 116, 114, 111, 108]
def ns : List UInt8 := [110, 111, 45, 115, 116, 111, 114, 101]
def te : List UInt8 := [116, 114, 97, 110, 115, 102, 101, 114, 45, 101, 110, 99, 111, 100, 105, 110, 103]
def ch : List UInt8 := [99, 104, 117, 110, 107, 101, 100]
def more (n : Int) : List Hd := if n = 405 then [(al, gt)] else if n = 503 then [(ra, [49])] else []
def fields (n : Int) (k : Nat) : List Hd := [(ct, tp), (cl, Dp.digs 10 (k + 1))] ++ more n ++ [(cn, cs)]
/-- a plain answer -/
def plain (n : Int) (text : List UInt8) : Option (List UInt8) := match reason n with
  | some r => if text.length ≤ 1000 then some (hbytes (first n r) (fields n text.length) ++ text ++ [10]) else none
  | none => none
def refusal (n : Int) : Option (List UInt8) := match reason n with
  | some r => if n = 200 then none else plain n (Dp.digs 10 n.toNat ++ 32 :: Tp.lower r)
  | none => none
def ok200 : List UInt8 := [72, 84, 84, 80, 47, 49, 46, 49, 32, 50, 48, 48, 32, 79, 75]
def sfields (chunked : Bool) : List Hd := [(ct, es), (cc, ns), if chunked then (te, ch) else (cn, cs)]
def stream (chunked : Bool) : List UInt8 := hbytes ok200 (sfields chunked)
def drain : List UInt8 := [100, 114, 97, 105, 110, 105, 110, 103]
def health (t c : Int) (drains : Bool) : Option (List UInt8) := if t < 0 ∨ c < 0 then none else if drains then plain 503 drain else plain 200 ([111, 107, 32] ++ Dp.digs 10 t.toNat ++ 32 :: Dp.digs 10 c.toNat)
theorem reason_some {n : Int} {r : List UInt8} (h : reason n = some r) : (n, r) ∈ stats := by
  unfold reason at h
  cases hf : stats.find? fun s => s.1 == n with
  | none => rw [hf] at h; cases h
  | some s =>
    rw [hf] at h
    cases h
    have h1 := List.mem_of_find?_eq_some hf
    have h2 := List.find?_some hf
    obtain ⟨a, b⟩ := s
    have h3 : a = n := by simpa using h2
    rw [← h3]
    exact h1
theorem stats_ok : ∀ s ∈ stats, 200 ≤ s.1 ∧ s.1 ≤ 505 ∧ Tp.allT Tp.valB s.2 = true ∧ s.2.length ≤ 31 := by decide +kernel
theorem reason_ok {n : Int} {r : List UInt8} (h : reason n = some r) : 200 ≤ n ∧ n ≤ 505 ∧ Tp.allT Tp.valB r = true ∧ r.length ≤ 31 := stats_ok _ (reason_some h)
theorem more_ok (n : Int) : ∀ f ∈ more n, Tp.isTok f.1 = true ∧ Tp.lower f.1 = f.1 ∧ Tp.isVal f.2 = true := by
  unfold more
  split
  · decide +kernel
  · split
    · decide +kernel
    · intro f hf; cases hf
theorem hok_plain {n : Int} {r : List UInt8} (h : reason n = some r) (k : Nat) : HOk (first n r) (fields n k) := by
  obtain ⟨_, _, hr, _⟩ := reason_ok h
  refine ⟨by unfold first http; simp, ?_, isVal_x ?_, fun f hf => ?_⟩
  · have : (first n r).take 1 = [72] := by unfold first http; rfl
    rw [this]; decide +kernel
  · unfold first
    unfold Tp.allT at hr ⊢
    rw [List.all_append, List.all_append, List.all_cons, hr]
    have h1 : (http.all fun c => Tp.valB (c.toNat : Int)) = true := by decide +kernel
    have h2 : ((Dp.digs 10 n.toNat).all fun c => Tp.valB (c.toNat : Int)) = true := List.all_eq_true.2 fun c hc => (digs_ok _ c hc).2
    rw [h1, h2]
    decide
  · unfold fields at hf
    rcases List.mem_append.1 hf with hf | hf
    · rcases List.mem_append.1 hf with hf | hf
      · rcases List.mem_cons.1 hf with rfl | hf
        · decide +kernel
        · rw [List.mem_singleton] at hf
          subst hf
          exact ⟨show Tp.isTok cl = true by decide +kernel, show Tp.lower cl = cl by decide +kernel, digs_val _⟩
      · exact more_ok n f hf
    · rw [List.mem_singleton] at hf
      subst hf
      decide +kernel
theorem hok_stream (c : Bool) : HOk ok200 (sfields c) := by
  refine ⟨by decide, by decide +kernel, isVal_x (by decide +kernel), ?_⟩
  cases c <;> decide +kernel
end Hp
end Go.Proofs.YthfdnlcalefjeaaDoor

/- Small lemmas that the walks of this claim use: how an ending is closed, how worlds go on. No conditions but those that each lemma states. -/
namespace Go.Proofs.YthfdnlcalefjeaaDoor
set_option linter.unusedVariables false
set_option linter.unusedSimpArgs false
open Go.RowKit
theorem ret_int {k : IntKind} {a b : Int} (h : a = b) : Ending.returned (.int k a) = Ending.returned (.int k b) := by rw [h]
theorem ret_bool {a b : Bool} (h : a = b) : Ending.returned (.bool a) = Ending.returned (.bool b) := by rw [h]
theorem ret_str {a b : ByteArray} (h : a = b) : Ending.returned (.string a) = Ending.returned (.string b) := by rw [h]
theorem ret_pair {k k' : IntKind} {a b c d : Int} (h : a = c) (h' : b = d) : Ending.returned (.tuple #[.int k a, .int k' b]) = Ending.returned (.tuple #[.int k c, .int k' d]) := by rw [h, h']
/-- below a heap's size: all old cells and marks read as before -/
theorem bcell {W w1 : World} (hb : Below W.heap.size W w1) : (∀ b o, b < W.heap.size → w1.cell? ⟨b, o, none⟩ = W.cell? ⟨b, o, none⟩) ∧ (∀ b o, b < W.heap.size → w1.frozen? ⟨b, o, none⟩ = W.frozen? ⟨b, o, none⟩) :=
  ⟨fun b o h => hb.cell (p := ⟨b, o, none⟩) h, fun b o h => hb.frozen (p := ⟨b, o, none⟩) h⟩
/-- a cell that holds something lies in the heap -/
theorem lt_of_cell {w : World} {b o : Nat} {v : Value} (h : w.cell? ⟨b, o, none⟩ = some v) : b < w.heap.size := by
  rcases Nat.lt_or_ge b w.heap.size with h' | h'
  · exact h'
  · simp [World.cell?, Array.getElem?_eq_none h'] at h
theorem cell_below {W w1 : World} (hb : Below W.heap.size W w1) {b o : Nat} {v : Value} (h : W.cell? ⟨b, o, none⟩ = some v) : w1.cell? ⟨b, o, none⟩ = some v :=
  (hb.cell (p := ⟨b, o, none⟩) (lt_of_cell h)).trans h
theorem take_snoc (s : ByteArray) (k : Nat) (h : k < s.size) : s.data.toList.take (k + 1) = s.data.toList.take k ++ [s[k]] := by
  rw [List.take_succ_eq_append_getElem (by simpa using h)]; rfl
theorem below_freeze (B : Nat) (w : World) (a : Addr) (n : Nat) (h : B ≤ a.block) : Below B w (w.freeze a n) := by
  unfold World.freeze
  split
  · exact Below.refl _ _
  · refine ⟨rfl, rfl, rfl, by simp, fun k hk => ?_⟩
    simp only [Array.getElem?_modify]
    rw [if_neg (by omega)]
theorem below_bytesWorld (B : Nat) (w : World) (e : TypeId) (s : ByteArray) (h : B ≤ w.heap.size) : Below B w (Lib.bytesWorld w e s) := by
  unfold Lib.bytesWorld
  exact ((Below.refl B w).drew.alloc h _).trans (below_freeze _ _ _ _ h)
/-- a row of bytes in memory -/
def Bytes (w : World) (B off : Nat) (l : List UInt8) : Prop := ∀ i, i < l.length → w.cell? ⟨B, off + i, none⟩ = some (.int .u8 (l.getD i 0).toNat)
theorem bytes_bytesWorld (w : World) (e : TypeId) (s : ByteArray) : Bytes (Lib.bytesWorld w e s) w.heap.size 0 s.data.toList := by
  intro i hi
  rw [Nat.zero_add]
  exact Lib.bytesWorld_cell w e s i (by simpa using hi)
theorem bytes_bytesWorld_at (w : World) (e : TypeId) (s : ByteArray) (B : Nat) (hB : B = w.heap.size) : Bytes (Lib.bytesWorld w e s) B 0 s.data.toList := by
  subst hB
  exact bytes_bytesWorld w e s
theorem Bytes.below {w w' : World} {B off : Nat} {l : List UInt8} (h : Bytes w B off l) (hb : Below w.heap.size w w') : Bytes w' B off l :=
  fun i hi => cell_below hb (h i hi)
/-- a jump forward to the label of the scope around it -/
def onGoto (l : Nat) (K : Act → World → Prop) (Q : Exit → Act → World → Prop) : Exit → Act → World → Prop
  | .goto l', a, w => l' = l ∧ K a w
  | e, a, w => Q e a w
section
variable {l : Nat} {K : Act → World → Prop} {Q : Exit → Act → World → Prop} {a : Act} {w : World}
@[go_sem] theorem onGoto_normal : onGoto l K Q .normal a w = Q .normal a w := rfl
@[go_sem] theorem onGoto_exit (id : Nat) : onGoto l K Q (.exit id) a w = Q (.exit id) a w := rfl
@[go_sem] theorem onGoto_ret : onGoto l K Q .ret a w = Q .ret a w := rfl
@[go_sem] theorem onGoto_panic (ch : List PanicEntry) : onGoto l K Q (.panic ch) a w = Q (.panic ch) a w := rfl
theorem onGoto_goto (h : K a w) : onGoto l K Q (.goto l) a w := ⟨rfl, h⟩
theorem wp_scope_fwd {P : Program} {c rest : Code} (l : Nat) (hl : findLabel c l = some rest) (h : c.wp P (onGoto l (fun a w => rest.wp P (Exit.noGoto Q) a w) Q) a w) : (Code.scope c).wp P Q a w := by
  intro b k cs
  obtain ⟨e, a₁, w₁, hq, harr⟩ := h b (.inScope c :: k) cs
  cases e with
  | normal => exact ⟨.normal, a₁, w₁, hq, .head step_scope (Steps.trans harr (.one step_inScope))⟩
  | exit id => exact ⟨.exit id, a₁, w₁, hq, fun k' hk => .head step_scope (harr k' (by simp [exitTo, hk]))⟩
  | goto l' =>
    obtain ⟨rfl, hK⟩ := hq
    have hs := harr (.code rest :: .inScope c :: k) (by simp [gotoIn, hl])
    obtain ⟨e, a₂, w₂, hq₂, harr₂⟩ := hK b (.inScope c :: k) cs
    cases e with
    | normal => exact ⟨.normal, a₂, w₂, hq₂, .head step_scope (Steps.trans hs (Steps.trans harr₂ (.one step_inScope)))⟩
    | exit id => exact ⟨.exit id, a₂, w₂, hq₂, fun k' hk => .head step_scope (Steps.trans hs (harr₂ k' (by simp [exitTo, hk])))⟩
    | goto _ => exact hq₂.elim
    | ret => exact ⟨_, a₂, w₂, hq₂, .of_steps (.head step_scope hs) harr₂⟩
    | panic ch => exact ⟨_, a₂, w₂, hq₂, .of_steps (.head step_scope hs) harr₂⟩
    | outgrown => exact ⟨_, a₂, w₂, hq₂, .of_steps (.head step_scope hs) harr₂⟩
  | ret => exact ⟨_, a₁, w₁, hq, .of_steps (.one step_scope) harr⟩
  | panic ch => exact ⟨_, a₁, w₁, hq, .of_steps (.one step_scope) harr⟩
  | outgrown => exact ⟨_, a₁, w₁, hq, .of_steps (.one step_scope) harr⟩
end
end Go.Proofs.YthfdnlcalefjeaaDoor

/- The bytes of tokens and values, the program's and the reference's, are those of the text Tp. Bytes are from 0 to 255. -/
namespace Go.Proofs.YthfdnlcalefjeaaDoor
set_option linter.unusedVariables false
set_option linter.unusedSimpArgs false
open Go.RowKit Go.Shelf
set_option maxHeartbeats 1000000
theorem tok_sign (c : Int) (w : World) (h0 : 0 ≤ c) (h1 : c < 256) :
    Calls Tryd.prog 86 #[.int .u8 c] w fun e w' => e = .returned (.bool (Tp.signB c)) ∧ Below w.heap.size w w' := by
  go_enter Tryd.func86, Tryd.ntmps86
  go_wp2_with fail
  go_loopw [4] (fun _ wr => ∃ pos : Nat, wr = w.iter Tp.SG pos ∧ pos ≤ 15 ∧ ∀ j, j < pos → Tp.SGx j ≠ c) (fun _ wr => 15 - wr.iterPos w.heap.size)
  case atStart => exact ⟨0, rfl, by omega, fun j hj => absurd hj (by omega)⟩
  case round =>
    obtain ⟨pos, rfl, hp, hno⟩ := hrel
    have HN := Lib.hid hno
    clear hno
    by_cases hlt : pos < 15
    · have hsz : pos < Tp.SG.size := by rw [Tp.SG_size]; exact hlt
      have hnx : ∀ ty, (Instr.next (.pointer (some ⟨w.heap.size, 0, none⟩)) true ty).run Tryd.prog (w.iter Tp.SG pos) = .ok (.tuple #[.bool true, .int .i64 pos, .int .i32 (Tp.SGx pos)]) (w.iter Tp.SG (pos + 1)) := fun ty => by
        rw [run_next_ascii w Tp.SG pos ty hsz (Tp.SG_ascii pos hsz), Tp.SG_at pos hsz]
      clear hsz
      obtain ⟨x, hx⟩ : ∃ x, Tp.SGx pos = x := ⟨_, rfl⟩
      rw [hx] at hnx
      have HX := Lib.hid hx
      clear hx
      by_cases hc : x = c
      · have hc1 : (x == c) = true := beq_iff_eq.2 hc
        have HC := Lib.hid (Tp.signB_yes hlt (HX.out.trans hc))
        clear hc
        go_wp2
        go_ret
        exact ⟨ret_bool HC.out.symm, (Below.refl _ _).alloc (Nat.le_refl _) _⟩
      · have hc1 : (x == c) = false := beq_eq_false_iff_ne.2 hc
        have HC := Lib.hid hc
        clear hc
        go_wp2
        go_roundw
        case rel =>
          refine ⟨pos + 1, rfl, by omega, fun j hj => ?_⟩
          by_cases hjp : j = pos
          · rw [hjp, HX.out]; exact HC.out
          · exact HN.out j (by omega)
        case measure => simp; omega
    · have hsz : ¬ pos < Tp.SG.size := by rw [Tp.SG_size]; exact hlt
      have hnx : ∀ ty, (Instr.next (.pointer (some ⟨w.heap.size, 0, none⟩)) true ty).run Tryd.prog (w.iter Tp.SG pos) = _ := fun ty => run_next_end w Tp.SG pos ty hsz
      go_wp2
      go_ret
      exact ⟨ret_bool (Tp.signB_no (fun j hj => HN.out j (by omega))).symm, (Below.refl _ _).alloc (Nat.le_refl _) _⟩
theorem tok_class0 (c : Int) (w : World) (h0 : 0 ≤ c) (h1 : c < 256) :
    Calls Tryd.prog 85 #[.int .u8 c] w fun e w' => e = .returned (.bool (Tp.tokB c)) ∧ Below w.heap.size w w' := by
  have K := Lib.hid (tok_sign c w h0 h1)
  go_enter Tryd.func85, Tryd.ntmps85
  go_wp2_with (go_at_call 86; refine K.out.mono ?_; rintro e w' ⟨rfl, hb⟩)
  all_goals go_ret
  all_goals refine ⟨ret_bool ?_, by first | exact Below.refl _ _ | assumption⟩
  all_goals (unfold Tp.tokB; generalize Tp.signB c = s; cases s <;> rw [Bool.eq_iff_iff] <;> simp <;> omega)
theorem tok_class1 (c : Int) (w : World) (h0 : 0 ≤ c) (h1 : c < 256) :
    Calls Tryd.prog 87 #[.int .u8 c] w fun e w' => e = .returned (.bool (Tp.valB c)) ∧ w = w' := by
  go_enter Tryd.func87, Tryd.ntmps87
  go_wp2
  all_goals go_ret
  all_goals refine ⟨ret_bool ?_, rfl⟩
  all_goals (unfold Tp.valB; rw [Bool.eq_iff_iff]; simp; omega)
/-- a class of bytes, handed on as a function value -/
def ClsAt (g : Nat) (f : Int → Bool) : Prop := ∀ (c : Int) (w : World), 0 ≤ c → c < 256 → Calls Tryd.prog g #[.int .u8 c] w fun e w' => e = .returned (.bool (f c)) ∧ Below w.heap.size w w'
theorem cls0 : ClsAt 85 Tp.tokB := fun c w h0 h1 => tok_class0 c w h0 h1
theorem cls1 : ClsAt 87 Tp.valB := fun c w h0 h1 => (tok_class1 c w h0 h1).mono fun _ _ h => ⟨h.1, h.2 ▸ Below.refl _ _⟩
theorem tok_all (g : Nat) (f : Int → Bool) (hg : g = 85 ∨ g = 87) (hf : ClsAt g f) (s : ByteArray) (w : World) (hs : s.size ≤ 9223372036854775807) :
    Calls Tryd.prog 70 #[.agg #[.string s], .func (.func g) #[] #[]] w fun e w' => e = .returned (.bool (Tp.allT f s.data.toList)) ∧ Below w.heap.size w w' := by
  have HF := Lib.hid hf
  have en : ∀ args w, (callFunc g args).run Tryd.prog w = .ok (.enter g args) w := by
    rcases hg with rfl | rfl
    · exact enters_of Tryd.func85 (by kernel_rfl) rfl
    · exact enters_of Tryd.func87 (by kernel_rfl) rfl
  clear hf hg
  go_enter Tryd.func70, Tryd.ntmps70
  go_wp2_with fail
  go_loopw [5, 9] (fun _ i wr => ∃ k : Nat, k ≤ s.size ∧ i = .int .i64 k ∧ Tp.allT f (s.data.toList.take k) = true ∧ Below (w.heap.size + 1) (w.alloc (.cells #[.string s] 126)) wr) (fun _ i _ => s.size - (intOf i).toNat)
  case atStart => exact ⟨0, Nat.zero_le _, rfl, rfl, Below.refl _ _⟩
  case round =>
    obtain ⟨k, hk, rfl, hall, hB⟩ := hrel
    have HA := Lib.hid hall
    have HB := Lib.hid hB
    have hc : wr.cell? ⟨w.heap.size, 0, none⟩ = some (.string s) := (hB.cell (p := ⟨w.heap.size, 0, none⟩) (by simp)).trans (by simp)
    clear hall hB
    by_cases hlt : k < s.size
    · have K := Lib.hid (HF.out ((s[k]).toNat : Int) wr (by omega) (by have := (s[k]).toNat_lt; omega))
      have HT := Lib.hid (take_snoc s k hlt)
      go_wp2_with fail
      refine K.out.mono ?_
      rintro e w' ⟨rfl, hb⟩
      have hB2 : Below (w.heap.size + 1) (w.alloc (.cells #[.string s] 126)) w' := HB.out.trans (hb.mono (by have := HB.out.size; simpa using this))
      have hc2 : w'.cell? ⟨w.heap.size, 0, none⟩ = some (.string s) := (hB2.cell (p := ⟨w.heap.size, 0, none⟩) (by simp)).trans (by simp)
      have HB2 := Lib.hid hB2
      clear hb hB2
      obtain ⟨d, hd⟩ : ∃ d, f ((s[k]).toNat : Int) = d := ⟨_, rfl⟩
      rw [hd]
      have HD := Lib.hid hd
      clear hd
      cases d
      · go_wp2
        go_ret
        have hn := Tp.allT_no (f := f) (l := s.data.toList) (k := k) (by simpa using hlt) (by exact HD.out)
        exact ⟨ret_bool hn.symm, ((Below.refl _ _).alloc (Nat.le_refl _) _).trans (HB2.out.mono (by omega))⟩
      · go_wp2
        go_roundw
        case rel => exact ⟨k + 1, by omega, by go_num, by rw [HT.out]; exact Tp.allT_snoc HA.out HD.out, HB2.out⟩
        case measure => simp [intOf]; omega
    · go_wp2
      go_ret
      have h1 : s.data.toList.take k = s.data.toList := List.take_of_length_le (by simp; omega)
      have h2 := HA.out
      rw [h1] at h2
      exact ⟨ret_bool h2.symm, ((Below.refl _ _).alloc (Nat.le_refl _) _).trans (HB.out.mono (by omega))⟩
end Go.Proofs.YthfdnlcalefjeaaDoor

/- The reference's bytes of tokens and values, and its trimming, are those of the texts Tp and Tq. Texts have a length that Go knows. -/
namespace Go.Proofs.YthfdnlcalefjeaaDoor
set_option linter.unusedVariables false
set_option linter.unusedSimpArgs false
open Go.RowKit Go.Shelf
set_option maxHeartbeats 1000000
theorem isEmpty_size (s : ByteArray) : s.data.toList.isEmpty = decide (s.size = 0) := by
  by_cases h : s.size = 0
  · rw [decide_eq_true h]; exact List.isEmpty_iff_length_eq_zero.2 (by simpa using h)
  · rw [decide_eq_false h]
    cases he : s.data.toList.isEmpty with
    | false => rfl
    | true => exact absurd (by simpa using List.isEmpty_iff_length_eq_zero.1 he) h
theorem rtk_blank (c : Int) (w : World) (h0 : 0 ≤ c) (h1 : c < 256) :
    Calls Tryd.prog 75 #[.int .u8 c] w fun e w' => e = .returned (.bool (Tp.blank c)) ∧ w = w' := by
  go_enter Tryd.func75, Tryd.ntmps75
  go_wp2
  all_goals go_ret
  all_goals refine ⟨ret_bool ?_, rfl⟩
  all_goals (unfold Tp.blank; rw [Bool.eq_iff_iff]; simp; try omega)
theorem sg_index (k : Nat) (h : k < 15) (w : World) : (Instr.index 9 (.string ⟨#[33, 35, 36, 37, 38, 39, 42, 43, 45, 46, 94, 95, 96, 124, 126]⟩) (.int .i64 (k : Int))).run Tryd.prog w = .ok (.int .u8 (Tp.SGx k)) w :=
  match k, h with
  | 0, _ => by kernel_rfl
  | 1, _ => by kernel_rfl
  | 2, _ => by kernel_rfl
  | 3, _ => by kernel_rfl
  | 4, _ => by kernel_rfl
  | 5, _ => by kernel_rfl
  | 6, _ => by kernel_rfl
  | 7, _ => by kernel_rfl
  | 8, _ => by kernel_rfl
  | 9, _ => by kernel_rfl
  | 10, _ => by kernel_rfl
  | 11, _ => by kernel_rfl
  | 12, _ => by kernel_rfl
  | 13, _ => by kernel_rfl
  | 14, _ => by kernel_rfl
  | n + 15, h => absurd h (by omega)
theorem rtk_sign (c : Int) (w : World) (h0 : 0 ≤ c) (h1 : c < 256) :
    Calls Tryd.prog 74 #[.int .u8 c] w fun e w' => e = .returned (.bool (Tp.tokB c)) ∧ w = w' := by
  by_cases hl : (97 ≤ c ∧ c ≤ 122) ∨ (65 ≤ c ∧ c ≤ 90) ∨ (48 ≤ c ∧ c ≤ 57)
  · have HT := Lib.hid (show Tp.tokB c = true by unfold Tp.tokB; simp; omega)
    rcases hl with ⟨h2, h3⟩ | ⟨h2, h3⟩ | ⟨h2, h3⟩
    all_goals
      go_enter Tryd.func74, Tryd.ntmps74
      go_wp2
      go_ret
      exact ⟨ret_bool HT.out.symm, rfl⟩
  · have HT := Lib.hid (show Tp.tokB c = Tp.signB c by unfold Tp.tokB; rw [Bool.eq_iff_iff]; simp; omega)
    have h2 : ¬ (97 ≤ c ∧ c ≤ 122) := fun h => hl (.inl h)
    have h3 : ¬ (65 ≤ c ∧ c ≤ 90) := fun h => hl (.inr (.inl h))
    have h4 : ¬ (48 ≤ c ∧ c ≤ 57) := fun h => hl (.inr (.inr h))
    clear hl
    go_enter Tryd.func74, Tryd.ntmps74
    go_wp2_with fail
    all_goals (try (exfalso; omega))
    all_goals
      go_loop [4] (fun i => ∃ k : Nat, k ≤ 15 ∧ i = .int .i64 k ∧ ∀ j, j < k → Tp.SGx j ≠ c) (fun i => 15 - (intOf i).toNat)
      case atStart => exact ⟨0, by omega, rfl, fun j hj => absurd hj (by omega)⟩
      case round =>
        obtain ⟨k, hk, rfl, hno⟩ := hrel
        have HN := Lib.hid hno
        clear hno
        by_cases hlt : k < 15
        · have hix := sg_index k hlt
          obtain ⟨x, hx⟩ : ∃ x, Tp.SGx k = x := ⟨_, rfl⟩
          rw [hx] at hix
          have HX := Lib.hid hx
          clear hx
          by_cases hc : x = c
          · have hc1 : (x == c) = true := beq_iff_eq.2 hc
            have HC := Lib.hid (Tp.signB_yes hlt (HX.out.trans hc))
            clear hc
            go_wp2_with (simp only [hix])
            go_ret
            exact ⟨ret_bool (by rw [HT.out, HC.out]), rfl⟩
          · have hc1 : (x == c) = false := beq_eq_false_iff_ne.2 hc
            have HC := Lib.hid hc
            clear hc
            go_wp2_with (simp only [hix])
            go_round
            case rel =>
              refine ⟨k + 1, by omega, by go_num, fun j hj => ?_⟩
              by_cases hjp : j = k
              · rw [hjp, HX.out]; exact HC.out
              · exact HN.out j (by omega)
            case measure => simp [intOf]; omega
        · go_wp2
          go_ret
          exact ⟨ret_bool (by rw [HT.out]; exact (Tp.signB_no (fun j hj => HN.out j (by omega))).symm), rfl⟩
theorem rtk_token (s : ByteArray) (w : World) (hs : s.size ≤ 9223372036854775807) :
    Calls Tryd.prog 62 #[.string s] w fun e w' => e = .returned (.bool (Tp.isTok s.data.toList)) ∧ w = w' := by
  go_enter Tryd.func62, Tryd.ntmps62
  go_wp2_with fail
  go_loop [3] (fun i => ∃ k : Nat, k ≤ s.size ∧ i = .int .i64 k ∧ Tp.allT Tp.tokB (s.data.toList.take k) = true) (fun i => s.size - (intOf i).toNat)
  case atStart => exact ⟨0, Nat.zero_le _, rfl, rfl⟩
  case round =>
    obtain ⟨k, hk, rfl, hall⟩ := hrel
    have HA := Lib.hid hall
    clear hall
    by_cases hlt : k < s.size
    · have D := Lib.hid (rtk_sign ((s[k]).toNat : Int) w (by omega) (by have := (s[k]).toNat_lt; omega))
      have HT := Lib.hid (take_snoc s k hlt)
      go_wp2_with fail
      refine D.out.mono ?_
      rintro e w' ⟨rfl, rfl⟩
      obtain ⟨v, hv⟩ : ∃ v, Tp.tokB ((s[k]).toNat : Int) = v := ⟨_, rfl⟩
      rw [hv]
      have HV := Lib.hid hv
      clear hv
      cases v
      · go_wp2
        go_ret
        have hn := Tp.allT_no (f := Tp.tokB) (l := s.data.toList) (k := k) (by simpa using hlt) (by exact HV.out)
        exact ⟨ret_bool (by unfold Tp.isTok; rw [hn]; simp), rfl⟩
      · go_wp2
        go_round
        case rel => exact ⟨k + 1, by omega, by go_num, by rw [HT.out]; exact Tp.allT_snoc HA.out HV.out⟩
        case measure => simp [intOf]; omega
    · have h1 : s.data.toList.take k = s.data.toList := List.take_of_length_le (by simp; omega)
      have h2 := HA.out
      rw [h1] at h2
      have HAA := Lib.hid h2
      clear h2 h1
      go_wp2
      go_ret
      refine ⟨ret_bool ?_, rfl⟩
      unfold Tp.isTok
      rw [HAA.out, Bool.and_true, isEmpty_size]
      show decide ((0 : Nat) < s.size) = _
      by_cases h : s.size = 0
      · rw [decide_eq_true h, decide_eq_false (by omega)]; rfl
      · rw [decide_eq_false h, decide_eq_true (by omega)]; rfl
end Go.Proofs.YthfdnlcalefjeaaDoor

/-
  DERIVED: THE SHELF's CONTRACTS AT THIS DUMP, IN PLAIN WORDS (tools/lay-plain.mjs out of 'TrydShelf.lean', which tools/lay-shelf.mjs wrote): THE SAME DECLARATIONS UNDER THE SAME NAMES: 'import', 'namespace', 'open', 'def', 'theorem' AND NOTHING ELSE: no command of the shelf's: FOR A HAND-IN. Each laying: the table of numbers ('.._ren') and one theorem, a field a fact of the dump's own or the kernel's comparison; each contract: ONE APPLICATION.
-/
namespace Go.Proofs
open Go.Shelf
def Tryd.lays169_ren : Go.Shelf.Ren := ⟨fun | 169 => 61 | n => n, fun | 70 => 107 | 9 => 9 | 0 => 0 | 72 => 109 | 37 => 26 | 127 => 131 | 3 => 3 | 5 => 5 | n => n, fun | n => n⟩
theorem Tryd.lays169 : Go.Proofs.Lays.n169 Tryd.prog Tryd.lays169_ren := {
  mixed := by kernel_rfl
  f169 := Tryd.func61.trans (congrArg some (by kernel_rfl))
  t0 := Tryd.underlying0
  a0 := Tryd.isAgg0
  z0 := Tryd.sizeOf0
  v0 := Tryd.zeroValue0
  t3 := Tryd.underlying3
  a3 := Tryd.isAgg3
  z3 := Tryd.sizeOf3
  v3 := Tryd.zeroValue3
  t9 := Tryd.underlying9
  a9 := Tryd.isAgg9
  z9 := Tryd.sizeOf9
  v9 := Tryd.zeroValue9
  t37 := Tryd.underlying26
  a37 := Tryd.isAgg26
  z37 := Tryd.sizeOf26
  v37 := Tryd.zeroValue26
  t70 := Tryd.underlying107
  a70 := Tryd.isAgg107
  z70 := Tryd.sizeOf107
  v70 := Tryd.zeroValue107
  t72 := Tryd.underlying109
  a72 := Tryd.isAgg109
  z72 := Tryd.sizeOf109
  v72 := Tryd.zeroValue109
  t127 := Tryd.underlying131
  a127 := Tryd.isAgg131
  z127 := Tryd.sizeOf131
  v127 := Tryd.zeroValue131 }
theorem Tryd.Builder_Extra_169 : Builder.Extra Tryd.prog Tryd.lays169_ren := {
  sizeBuilder := by kernel_rfl
  liesBuilder := by kernel_rfl
  t5 := Tryd.underlying5
  a5 := Tryd.isAgg5
  z5 := Tryd.sizeOf5
  v5 := Tryd.zeroValue5
  infoByte := by kernel_rfl
  cellsByte := by kernel_rfl
  sizeByte := by kernel_rfl
  neB5 := by decide }
open Go.RowKit in
/-- (*strings.Builder).String: "String returns the accumulated string.": OF A BUILDER THAT HOLDS AT LEAST ONE BYTE. ✋ THE MODEL FREEZES THOSE BYTES IN THE BUFFER (unsafe.String): a later write INTO them ends the model's run without an answer; a later append BEHIND them goes on. The statement's order of evaluation is drawn: one draw. (LAID: no walk: one application.) -/
theorem Tryd.Builder_String (B b : Nat) (l : List UInt8) (w : World) (h : Lib.IsBuilder 109 5 B b (Lib.byteCells l) w) (h0 : l ≠ []) :
    Calls Tryd.prog 61 #[.pointer (some ⟨b, 0, none⟩)] w fun e w' => e = .returned (.string ⟨l.toArray⟩) ∧ Below B w w' := Any.Builder_String Tryd.lays169 Tryd.Builder_Extra_169 B b l w h h0
open Go.RowKit in
/-- (*strings.Builder).String OF A BUILDER THAT HOLDS NO BYTE: the empty string. (Its buffer is nil, or a row of which it has taken nothing yet; where that row has NO capacity the model lays one new block for unsafe.SliceData's 'some address'.) One draw. (LAID: no walk: one application.) -/
theorem Tryd.Builder_String_empty (B b : Nat) (w : World) (h : Lib.IsBuilder 109 5 B b [] w) (hBw : B ≤ w.heap.size) :
    Calls Tryd.prog 61 #[.pointer (some ⟨b, 0, none⟩)] w fun e w' => e = .returned (.string ⟨#[]⟩) ∧ Below B w w' := Any.Builder_String_empty Tryd.lays169 Tryd.Builder_Extra_169 B b w h hBw
open Go.RowKit in
/-- (*strings.Builder).String: "String returns the accumulated string.": WHATEVER THE BUILDER HOLDS. (LAID: no walk: one application.) -/
theorem Tryd.Builder_String_any (B b : Nat) (l : List UInt8) (w : World) (h : Lib.IsBuilder 109 5 B b (Lib.byteCells l) w) (hBw : B ≤ w.heap.size) :
    Calls Tryd.prog 61 #[.pointer (some ⟨b, 0, none⟩)] w fun e w' => e = .returned (.string ⟨l.toArray⟩) ∧ Below B w w' := Any.Builder_String_any Tryd.lays169 Tryd.Builder_Extra_169 B b l w h hBw
def Tryd.lays241_ren : Go.Shelf.Ren := ⟨fun | 241 => 73 | 277 => 89 | n => n, fun | 70 => 107 | 3 => 3 | 0 => 0 | 72 => 109 | 37 => 26 | 5 => 5 | n => n, fun | n => n⟩
theorem Tryd.lays241 : Go.Proofs.Lays.n241 Tryd.prog Tryd.lays241_ren := {
  mixed := by kernel_rfl
  f241 := Tryd.func73.trans (congrArg some (by kernel_rfl))
  f277 := Tryd.func89.trans (congrArg some (by kernel_rfl))
  t0 := Tryd.underlying0
  a0 := Tryd.isAgg0
  z0 := Tryd.sizeOf0
  v0 := Tryd.zeroValue0
  t3 := Tryd.underlying3
  a3 := Tryd.isAgg3
  z3 := Tryd.sizeOf3
  v3 := Tryd.zeroValue3
  t37 := Tryd.underlying26
  a37 := Tryd.isAgg26
  z37 := Tryd.sizeOf26
  v37 := Tryd.zeroValue26
  t70 := Tryd.underlying107
  a70 := Tryd.isAgg107
  z70 := Tryd.sizeOf107
  v70 := Tryd.zeroValue107
  t72 := Tryd.underlying109
  a72 := Tryd.isAgg109
  z72 := Tryd.sizeOf109
  v72 := Tryd.zeroValue109 }
theorem Tryd.Builder_Extra_241 : Builder.Extra Tryd.prog Tryd.lays241_ren := {
  sizeBuilder := by kernel_rfl
  liesBuilder := by kernel_rfl
  t5 := Tryd.underlying5
  a5 := Tryd.isAgg5
  z5 := Tryd.sizeOf5
  v5 := Tryd.zeroValue5
  infoByte := by kernel_rfl
  cellsByte := by kernel_rfl
  sizeByte := by kernel_rfl
  neB5 := by decide }
open Go.RowKit in
/-- (*strings.Builder).grow (no doc but "grow copies the buffer to a new, larger buffer so that there are at least n bytes of capacity beyond len(b.buf)."): AT A BUILDER WITHOUT A BUFFER: a new row of whatever bytes for its buffer, none of them its own yet. Three draws. (LAID: no walk: one application.) -/
theorem Tryd.Builder_grow_fresh (B b n : Nat) (w : World) (hB : B ≤ b) (hbk : w.heap[b]? = some (.cells #[.pointer (some ⟨b, 0, none⟩), .slice none 0 0] 109 (0, 0))) (hBw : B ≤ w.heap.size) (hn : n ≤ 281474976710656) :
    Calls Tryd.prog 73 #[.pointer (some ⟨b, 0, none⟩), .int .i64 n] w fun e w' => e = .returned (.tuple #[]) ∧ (Lib.BuilderAt 109 5 B b (.pointer (some ⟨b, 0, none⟩)) [] w' ∧ Below B w w') := Any.Builder_grow_fresh Tryd.lays241 Tryd.Builder_Extra_241 B b n w hB hbk hBw hn
def Tryd.lays165_ren : Go.Shelf.Ren := ⟨fun | 165 => 59 | 240 => 72 | 241 => 73 | 276 => 88 | 277 => 89 | n => n, fun | 70 => 107 | 3 => 3 | 0 => 0 | 4 => 4 | 9 => 9 | 20 => 20 | 72 => 109 | 37 => 26 | 164 => 140 | 5 => 5 | n => n, fun | n => n⟩
theorem Tryd.lays165 : Go.Proofs.Lays.n165 Tryd.prog Tryd.lays165_ren := {
  mixed := by kernel_rfl
  f165 := Tryd.func59.trans (congrArg some (by kernel_rfl))
  f240 := Tryd.func72.trans (congrArg some (by kernel_rfl))
  f241 := Tryd.func73.trans (congrArg some (by kernel_rfl))
  f276 := Tryd.func88.trans (congrArg some (by kernel_rfl))
  f277 := Tryd.func89.trans (congrArg some (by kernel_rfl))
  t0 := Tryd.underlying0
  a0 := Tryd.isAgg0
  z0 := Tryd.sizeOf0
  v0 := Tryd.zeroValue0
  t3 := Tryd.underlying3
  a3 := Tryd.isAgg3
  z3 := Tryd.sizeOf3
  v3 := Tryd.zeroValue3
  t4 := Tryd.underlying4
  a4 := Tryd.isAgg4
  z4 := Tryd.sizeOf4
  v4 := Tryd.zeroValue4
  t9 := Tryd.underlying9
  a9 := Tryd.isAgg9
  z9 := Tryd.sizeOf9
  v9 := Tryd.zeroValue9
  t20 := Tryd.underlying20
  a20 := Tryd.isAgg20
  z20 := Tryd.sizeOf20
  v20 := Tryd.zeroValue20
  t37 := Tryd.underlying26
  a37 := Tryd.isAgg26
  z37 := Tryd.sizeOf26
  v37 := Tryd.zeroValue26
  t70 := Tryd.underlying107
  a70 := Tryd.isAgg107
  z70 := Tryd.sizeOf107
  v70 := Tryd.zeroValue107
  t72 := Tryd.underlying109
  a72 := Tryd.isAgg109
  z72 := Tryd.sizeOf109
  v72 := Tryd.zeroValue109
  t164 := Tryd.underlying140
  a164 := Tryd.isAgg140
  z164 := Tryd.sizeOf140
  v164 := Tryd.zeroValue140 }
theorem Tryd.Builder_Extra_165 : Builder.Extra Tryd.prog Tryd.lays165_ren := {
  sizeBuilder := by kernel_rfl
  liesBuilder := by kernel_rfl
  t5 := Tryd.underlying5
  a5 := Tryd.isAgg5
  z5 := Tryd.sizeOf5
  v5 := Tryd.zeroValue5
  infoByte := by kernel_rfl
  cellsByte := by kernel_rfl
  sizeByte := by kernel_rfl
  neB5 := by decide }
open Go.RowKit in
/-- (*strings.Builder).Grow AT A BUILDER THAT HAS NOT BEEN WRITTEN ('var b strings.Builder; b.Grow(n)'): "Grow grows b's capacity, if necessary, to guarantee space for another n bytes.": it holds no byte behind it as before it. (LAID: no walk: one application.) -/
theorem Tryd.Builder_Grow_fresh (B b n : Nat) (w : World) (hB : B ≤ b) (hbk : w.heap[b]? = some (.cells #[.pointer none, .slice none 0 0] 109 (0, 0))) (hBw : B ≤ w.heap.size) (hn : n ≤ 281474976710656) :
    Calls Tryd.prog 59 #[.pointer (some ⟨b, 0, none⟩), .int .i64 n] w fun e w' => e = .returned (.tuple #[]) ∧ (Lib.BuilderAt 109 5 B b (.pointer (some ⟨b, 0, none⟩)) [] w' ∧ Below B w w') := Any.Builder_Grow_fresh Tryd.lays165 Tryd.Builder_Extra_165 B b n w hB hbk hBw hn
def Tryd.lays156_ren : Go.Shelf.Ren := ⟨fun | 156 => 47 | 165 => 59 | 166 => 60 | 169 => 61 | 240 => 72 | 241 => 73 | 276 => 88 | 277 => 89 | n => n, fun | 31 => 54 | 9 => 9 | 3 => 3 | 4 => 4 | 0 => 0 | 20 => 20 | 72 => 109 | 76 => 113 | 70 => 107 | 37 => 26 | 75 => 112 | 127 => 131 | 164 => 140 | 5 => 5 | 80 => 115 | n => n, fun | n => n⟩
theorem Tryd.lays156 : Go.Proofs.Lays.n156 Tryd.prog Tryd.lays156_ren := {
  mixed := by kernel_rfl
  f156 := Tryd.func47.trans (congrArg some (by kernel_rfl))
  f165 := Tryd.func59.trans (congrArg some (by kernel_rfl))
  f166 := Tryd.func60.trans (congrArg some (by kernel_rfl))
  f169 := Tryd.func61.trans (congrArg some (by kernel_rfl))
  f240 := Tryd.func72.trans (congrArg some (by kernel_rfl))
  f241 := Tryd.func73.trans (congrArg some (by kernel_rfl))
  f276 := Tryd.func88.trans (congrArg some (by kernel_rfl))
  f277 := Tryd.func89.trans (congrArg some (by kernel_rfl))
  t0 := Tryd.underlying0
  a0 := Tryd.isAgg0
  z0 := Tryd.sizeOf0
  v0 := Tryd.zeroValue0
  t3 := Tryd.underlying3
  a3 := Tryd.isAgg3
  z3 := Tryd.sizeOf3
  v3 := Tryd.zeroValue3
  t4 := Tryd.underlying4
  a4 := Tryd.isAgg4
  z4 := Tryd.sizeOf4
  v4 := Tryd.zeroValue4
  t9 := Tryd.underlying9
  a9 := Tryd.isAgg9
  z9 := Tryd.sizeOf9
  v9 := Tryd.zeroValue9
  t20 := Tryd.underlying20
  a20 := Tryd.isAgg20
  z20 := Tryd.sizeOf20
  v20 := Tryd.zeroValue20
  t31 := Tryd.underlying54
  a31 := Tryd.isAgg54
  z31 := Tryd.sizeOf54
  v31 := Tryd.zeroValue54
  t37 := Tryd.underlying26
  a37 := Tryd.isAgg26
  z37 := Tryd.sizeOf26
  v37 := Tryd.zeroValue26
  t70 := Tryd.underlying107
  a70 := Tryd.isAgg107
  z70 := Tryd.sizeOf107
  v70 := Tryd.zeroValue107
  t72 := Tryd.underlying109
  a72 := Tryd.isAgg109
  z72 := Tryd.sizeOf109
  v72 := Tryd.zeroValue109
  t75 := Tryd.underlying112
  a75 := Tryd.isAgg112
  z75 := Tryd.sizeOf112
  v75 := Tryd.zeroValue112
  t76 := Tryd.underlying113
  a76 := Tryd.isAgg113
  z76 := Tryd.sizeOf113
  v76 := Tryd.zeroValue113
  t127 := Tryd.underlying131
  a127 := Tryd.isAgg131
  z127 := Tryd.sizeOf131
  v127 := Tryd.zeroValue131
  t164 := Tryd.underlying140
  a164 := Tryd.isAgg140
  z164 := Tryd.sizeOf140
  v164 := Tryd.zeroValue140 }
theorem Tryd.Builder_Extra_156 : Builder.Extra Tryd.prog Tryd.lays156_ren := {
  sizeBuilder := by kernel_rfl
  liesBuilder := by kernel_rfl
  t5 := Tryd.underlying5
  a5 := Tryd.isAgg5
  z5 := Tryd.sizeOf5
  v5 := Tryd.zeroValue5
  infoByte := by kernel_rfl
  cellsByte := by kernel_rfl
  sizeByte := by kernel_rfl
  neB5 := by decide }
open Go.RowKit in
/-- No element: the empty string; the world is as it was. (Whatever the slice's address and capacity: a nil slice too.) (LAID: no walk: one application.) -/
theorem Tryd.strings_Join_none (a : Option Addr) (c : Nat) (sep : ByteArray) (w : World) :
    Calls Tryd.prog 47 #[.slice a 0 c, .string sep] w fun e w' => e = .returned (.string ⟨#[]⟩) ∧ w' = w := Any.strings_Join_none Tryd.lays156 Tryd.Builder_Extra_156 a c sep w
open Go.RowKit in
/-- strings.Join: "Join concatenates the elements of its first argument to create a single string. The separator string sep is placed between elements in the resulting string.": HOWEVER MANY ELEMENTS. Below the heap's end the world is as it was. (LAID: no walk: one application.) -/
theorem Tryd.strings_Join (bk o c : Nat) (xs : List ByteArray) (sep : ByteArray) (w : World) (hcells : ∀ (j : Nat) x, xs[j]? = some x → w.cell? ⟨bk, o + j, none⟩ = some (.string x)) (hbk : bk < w.heap.size) (hN : xs.length ≤ 140737488355328) (hcap : xs.length ≤ c) (hlen : (Lib.join (xs.map (·.data.toList)) sep.data.toList).length ≤ 140737488355328) :
    Calls Tryd.prog 47 #[.slice (some ⟨bk, o, none⟩) xs.length c, .string sep] w fun e w' => e = .returned (.string ⟨(Lib.join (xs.map (·.data.toList)) sep.data.toList).toArray⟩) ∧ Below w.heap.size w w' := Any.strings_Join Tryd.lays156 Tryd.Builder_Extra_156 bk o c xs sep w hcells hbk hN hcap hlen
def Tryd.lays231_ren : Go.Shelf.Ren := ⟨fun | 231 => 78 | n => n, fun | 9 => 9 | 5 => 5 | 3 => 3 | 4 => 4 | n => n, fun | n => n⟩
theorem Tryd.lays231 : Go.Proofs.Lays.n231 Tryd.prog Tryd.lays231_ren := {
  mixed := by kernel_rfl
  f231 := Tryd.func78.trans (congrArg some (by kernel_rfl))
  t3 := Tryd.underlying3
  a3 := Tryd.isAgg3
  z3 := Tryd.sizeOf3
  v3 := Tryd.zeroValue3
  t4 := Tryd.underlying4
  a4 := Tryd.isAgg4
  z4 := Tryd.sizeOf4
  v4 := Tryd.zeroValue4
  t5 := Tryd.underlying5
  a5 := Tryd.isAgg5
  z5 := Tryd.sizeOf5
  v5 := Tryd.zeroValue5
  t9 := Tryd.underlying9
  a9 := Tryd.isAgg9
  z9 := Tryd.sizeOf9
  v9 := Tryd.zeroValue9 }
open Go.RowKit in
/-- strings.trimLeftByte (no doc; what TrimLeft and Trim call at a cutset of one ASCII byte): the leading bytes that are c are cut off. The world is as it was. (LAID: no walk: one application.) -/
theorem Tryd.strings_trimLeftByte (s : ByteArray) (c : UInt8) (w : World) :
    Calls Tryd.prog 78 #[.string s, .int .u8 c.toNat] w fun e w' => e = .returned (.string ⟨(Lib.trimLeftB s.data.toList c).toArray⟩) ∧ w' = w := Any.strings_trimLeftByte Tryd.lays231 s c w
def Tryd.lays232_ren : Go.Shelf.Ren := ⟨fun | 232 => 79 | n => n, fun | 9 => 9 | 5 => 5 | 3 => 3 | 4 => 4 | n => n, fun | n => n⟩
theorem Tryd.lays232 : Go.Proofs.Lays.n232 Tryd.prog Tryd.lays232_ren := {
  mixed := by kernel_rfl
  f232 := Tryd.func79.trans (congrArg some (by kernel_rfl))
  t3 := Tryd.underlying3
  a3 := Tryd.isAgg3
  z3 := Tryd.sizeOf3
  v3 := Tryd.zeroValue3
  t4 := Tryd.underlying4
  a4 := Tryd.isAgg4
  z4 := Tryd.sizeOf4
  v4 := Tryd.zeroValue4
  t5 := Tryd.underlying5
  a5 := Tryd.isAgg5
  z5 := Tryd.sizeOf5
  v5 := Tryd.zeroValue5
  t9 := Tryd.underlying9
  a9 := Tryd.isAgg9
  z9 := Tryd.sizeOf9
  v9 := Tryd.zeroValue9 }
open Go.RowKit in
/-- strings.trimRightByte (no doc; what TrimRight and Trim call at a cutset of one ASCII byte): the trailing bytes that are c are cut off. The world is as it was. ('hs': a string's length is a number that an int holds.) (LAID: no walk: one application.) -/
theorem Tryd.strings_trimRightByte (s : ByteArray) (c : UInt8) (w : World) (hs : s.size ≤ 9223372036854775807) :
    Calls Tryd.prog 79 #[.string s, .int .u8 c.toNat] w fun e w' => e = .returned (.string ⟨(Lib.trimRightB s.data.toList c).toArray⟩) ∧ w' = w := Any.strings_trimRightByte Tryd.lays232 s c w hs
def Tryd.lays160_ren : Go.Shelf.Ren := ⟨fun | 160 => 69 | 232 => 79 | 231 => 78 | 227 => 80 | 234 => 82 | 233 => 81 | 236 => 84 | 235 => 83 | 228 => 90 | 271 => 93 | 151 => 92 | 197 => 91 | 120 => 96 | 152 => 95 | 260 => 94 | 137 => 97 | 119 => 98 | 224 => 99 | 225 => 100 | 217 => 101 | 266 => 102 | n => n, fun | 9 => 9 | 4 => 4 | 3 => 3 | 5 => 5 | 117 => 136 | 116 => 135 | 0 => 0 | 124 => 139 | 21 => 21 | 105 => 145 | 46 => 121 | 119 => 149 | 139 => 152 | 138 => 151 | n => n, fun | 3 => 4 | 4 => 5 | n => n⟩
theorem Tryd.lays160 : Go.Proofs.Lays.n160 Tryd.prog Tryd.lays160_ren := {
  mixed := by kernel_rfl
  f119 := Tryd.func98.trans (congrArg some (by kernel_rfl))
  f120 := Tryd.func96.trans (congrArg some (by kernel_rfl))
  f137 := Tryd.func97.trans (congrArg some (by kernel_rfl))
  f151 := Tryd.func92.trans (congrArg some (by kernel_rfl))
  f152 := Tryd.func95.trans (congrArg some (by kernel_rfl))
  f160 := Tryd.func69.trans (congrArg some (by kernel_rfl))
  f197 := Tryd.func91.trans (congrArg some (by kernel_rfl))
  f217 := Tryd.func101.trans (congrArg some (by kernel_rfl))
  f224 := Tryd.func99.trans (congrArg some (by kernel_rfl))
  f225 := Tryd.func100.trans (congrArg some (by kernel_rfl))
  f227 := Tryd.func80.trans (congrArg some (by kernel_rfl))
  f228 := Tryd.func90.trans (congrArg some (by kernel_rfl))
  f231 := Tryd.func78.trans (congrArg some (by kernel_rfl))
  f232 := Tryd.func79.trans (congrArg some (by kernel_rfl))
  f233 := Tryd.func81.trans (congrArg some (by kernel_rfl))
  f234 := Tryd.func82.trans (congrArg some (by kernel_rfl))
  f235 := Tryd.func83.trans (congrArg some (by kernel_rfl))
  f236 := Tryd.func84.trans (congrArg some (by kernel_rfl))
  f260 := Tryd.func94.trans (congrArg some (by kernel_rfl))
  f266 := Tryd.func102.trans (congrArg some (by kernel_rfl))
  f271 := Tryd.func93.trans (congrArg some (by kernel_rfl))
  t0 := Tryd.underlying0
  a0 := Tryd.isAgg0
  z0 := Tryd.sizeOf0
  v0 := Tryd.zeroValue0
  t3 := Tryd.underlying3
  a3 := Tryd.isAgg3
  z3 := Tryd.sizeOf3
  v3 := Tryd.zeroValue3
  t4 := Tryd.underlying4
  a4 := Tryd.isAgg4
  z4 := Tryd.sizeOf4
  v4 := Tryd.zeroValue4
  t5 := Tryd.underlying5
  a5 := Tryd.isAgg5
  z5 := Tryd.sizeOf5
  v5 := Tryd.zeroValue5
  t9 := Tryd.underlying9
  a9 := Tryd.isAgg9
  z9 := Tryd.sizeOf9
  v9 := Tryd.zeroValue9
  t21 := Tryd.underlying21
  a21 := Tryd.isAgg21
  z21 := Tryd.sizeOf21
  v21 := Tryd.zeroValue21
  t46 := Tryd.underlying121
  a46 := Tryd.isAgg121
  z46 := Tryd.sizeOf121
  v46 := Tryd.zeroValue121
  t105 := Tryd.underlying145
  a105 := Tryd.isAgg145
  z105 := Tryd.sizeOf145
  v105 := Tryd.zeroValue145
  t116 := Tryd.underlying135
  a116 := Tryd.isAgg135
  z116 := Tryd.sizeOf135
  t117 := Tryd.underlying136
  a117 := Tryd.isAgg136
  z117 := Tryd.sizeOf136
  v117 := Tryd.zeroValue136
  t119 := Tryd.underlying149
  a119 := Tryd.isAgg149
  z119 := Tryd.sizeOf149
  t124 := Tryd.underlying139
  a124 := Tryd.isAgg139
  z124 := Tryd.sizeOf139
  v124 := Tryd.zeroValue139
  t138 := Tryd.underlying151
  a138 := Tryd.isAgg151
  z138 := Tryd.sizeOf151
  v138 := Tryd.zeroValue151
  t139 := Tryd.underlying152
  a139 := Tryd.isAgg152
  z139 := Tryd.sizeOf152
  v139 := Tryd.zeroValue152
  g3 := by kernel_rfl
  g4 := by kernel_rfl }
open Go.RowKit in
/-- strings.Trim: "Trim returns a slice of the string s with all leading and trailing Unicode code points contained in cutset removed.": AT A cutset OF ONE ASCII BYTE. THE WORLD BEHIND IT: as it was, or (where s is not empty) with ONE DRAW MORE off the tape: the statement 'return trimLeftByte(trimRightByte(s, c), c)' draws its order of evaluation. (LAID: no walk: one application.) -/
theorem Tryd.strings_Trim_one (s : ByteArray) (c : UInt8) (hc : c.toNat < 128) (w : World) (hs : s.size ≤ 9223372036854775807) :
    Calls Tryd.prog 69 #[.string s, .string ⟨#[c]⟩] w fun e w' => e = .returned (.string ⟨(Lib.trimB s.data.toList c).toArray⟩) ∧ (w' = w ∨ w' = w.drew) := Any.strings_Trim_one Tryd.lays160 s c hc w hs
def Tryd.lays119_ren : Go.Shelf.Ren := ⟨fun | 119 => 98 | n => n, fun | 21 => 21 | 4 => 4 | n => n, fun | n => n⟩
theorem Tryd.lays119 : Go.Proofs.Lays.n119 Tryd.prog Tryd.lays119_ren := {
  mixed := by kernel_rfl
  f119 := Tryd.func98.trans (congrArg some (by kernel_rfl))
  t4 := Tryd.underlying4
  a4 := Tryd.isAgg4
  z4 := Tryd.sizeOf4
  v4 := Tryd.zeroValue4
  t21 := Tryd.underlying21
  a21 := Tryd.isAgg21
  z21 := Tryd.sizeOf21
  v21 := Tryd.zeroValue21 }
/-- utf8.ValidRune: "ValidRune reports whether r can be legally encoded as UTF-8. Code points that are out of range or a surrogate half are illegal.": IT RETURNS 'Lib.validRune r'; the world is as it was. (LAID: no walk: one application.) -/
theorem Tryd.utf8_ValidRune (r : Int) (w : World) :
    Calls Tryd.prog 98 #[.int .i32 r] w fun e w' => e = .returned (.bool (Lib.validRune r)) ∧ w' = w := Any.utf8_ValidRune Tryd.lays119 r w
def Tryd.lays120_ren : Go.Shelf.Ren := ⟨fun | 120 => 96 | n => n, fun | 5 => 5 | 4 => 4 | n => n, fun | n => n⟩
theorem Tryd.lays120 : Go.Proofs.Lays.n120 Tryd.prog Tryd.lays120_ren := {
  mixed := by kernel_rfl
  f120 := Tryd.func96.trans (congrArg some (by kernel_rfl))
  t4 := Tryd.underlying4
  a4 := Tryd.isAgg4
  z4 := Tryd.sizeOf4
  v4 := Tryd.zeroValue4
  t5 := Tryd.underlying5
  a5 := Tryd.isAgg5
  z5 := Tryd.sizeOf5
  v5 := Tryd.zeroValue5 }
/-- utf8.RuneStart: "RuneStart reports whether the byte could be the first byte of an encoded, possibly invalid rune. Second and subsequent bytes always have the top two bits set to 10.": IT RETURNS 'Lib.runeStart b'; the world is as it was. ('h0', 'h1': b is a byte: a caller has it of every byte that it was handed.) (LAID: no walk: one application.) -/
theorem Tryd.utf8_RuneStart (b : Int) (w : World) (h0 : 0 ≤ b) (h1 : b < 256) :
    Calls Tryd.prog 96 #[.int .u8 b] w fun e w' => e = .returned (.bool (Lib.runeStart b)) ∧ w' = w := Any.utf8_RuneStart Tryd.lays120 b w h0 h1
def Tryd.lays137_ren : Go.Shelf.Ren := ⟨fun | 137 => 97 | 217 => 101 | 266 => 102 | n => n, fun | 9 => 9 | 5 => 5 | 3 => 3 | n => n, fun | n => n⟩
theorem Tryd.lays137 : Go.Proofs.Lays.n137 Tryd.prog Tryd.lays137_ren := {
  mixed := by kernel_rfl
  f137 := Tryd.func97.trans (congrArg some (by kernel_rfl))
  f217 := Tryd.func101.trans (congrArg some (by kernel_rfl))
  f266 := Tryd.func102.trans (congrArg some (by kernel_rfl))
  t3 := Tryd.underlying3
  a3 := Tryd.isAgg3
  z3 := Tryd.sizeOf3
  v3 := Tryd.zeroValue3
  t5 := Tryd.underlying5
  a5 := Tryd.isAgg5
  z5 := Tryd.sizeOf5
  v5 := Tryd.zeroValue5
  t9 := Tryd.underlying9
  a9 := Tryd.isAgg9
  z9 := Tryd.sizeOf9
  v9 := Tryd.zeroValue9 }
open Go.RowKit in
/-- strings.IndexByte: "IndexByte returns the index of the first instance of c in s, or -1 if c is not present in s.": IT RETURNS 'Lib.indexByte s c'; the world is as it was. (LAID: no walk: one application.) -/
theorem Tryd.strings_IndexByte (s : ByteArray) (c : Int) (w : World) :
    Calls Tryd.prog 97 #[.string s, .int .u8 c] w fun e w' => e = .returned (.int .i64 (Lib.indexByte s.data.toList c.toNat.toUInt8)) ∧ w' = w := Any.strings_IndexByte Tryd.lays137 s c w
open Go.RowKit in
/-- (*strings.Builder).String: "String returns the accumulated string.": OF A BUILDER THAT HOLDS AT LEAST ONE BYTE. ✋ THE MODEL FREEZES THOSE BYTES IN THE BUFFER (unsafe.String): a later write INTO them ends the model's run without an answer; a later append BEHIND them goes on. The statement's order of evaluation is drawn: one draw. THE FORM '_f': IT SAYS BESIDES THAT THE BUILDER IS A BUILDER STILL ('Lib.IsBuilderF', the same bytes): SO IT CAN BE WRITTEN ON: 'b.WriteString(b.String()[:k])'. (LAID: no walk: one application.) -/
theorem Tryd.Builder_String_f (B b : Nat) (l : List UInt8) (w : World) (h : Lib.IsBuilderF 109 5 B b (Lib.byteCells l) w) (h0 : l ≠ []) :
    Calls Tryd.prog 61 #[.pointer (some ⟨b, 0, none⟩)] w fun e w' => e = .returned (.string ⟨l.toArray⟩) ∧ (Lib.IsBuilderF 109 5 B b (Lib.byteCells l) w' ∧ Below B w w') := Any.Builder_String_f Tryd.lays169 Tryd.Builder_Extra_169 B b l w h h0
open Go.RowKit in
/-- (*strings.Builder).String OF A BUILDER THAT HOLDS NO BYTE: the empty string; THE FORM '_f': a builder still. (LAID: no walk: one application.) -/
theorem Tryd.Builder_String_empty_f (B b : Nat) (w : World) (h : Lib.IsBuilderF 109 5 B b [] w) (hBw : B ≤ w.heap.size) :
    Calls Tryd.prog 61 #[.pointer (some ⟨b, 0, none⟩)] w fun e w' => e = .returned (.string ⟨#[]⟩) ∧ (Lib.IsBuilderF 109 5 B b [] w' ∧ Below B w w') := Any.Builder_String_empty_f Tryd.lays169 Tryd.Builder_Extra_169 B b w h hBw
open Go.RowKit in
/-- (*strings.Builder).String: "String returns the accumulated string.": WHATEVER THE BUILDER HOLDS; THE FORM '_f': OF A BUILDER THAT MAY HAVE BEEN READ BEFORE; AND IT IS A BUILDER STILL, holding the same bytes: it can be written on. (LAID: no walk: one application.) -/
theorem Tryd.Builder_String_any_f (B b : Nat) (l : List UInt8) (w : World) (h : Lib.IsBuilderF 109 5 B b (Lib.byteCells l) w) (hBw : B ≤ w.heap.size) :
    Calls Tryd.prog 61 #[.pointer (some ⟨b, 0, none⟩)] w fun e w' => e = .returned (.string ⟨l.toArray⟩) ∧ (Lib.IsBuilderF 109 5 B b (Lib.byteCells l) w' ∧ Below B w w') := Any.Builder_String_any_f Tryd.lays169 Tryd.Builder_Extra_169 B b l w h hBw
open Go.RowKit in
/-- (*strings.Builder).String: "String returns the accumulated string.": OF A BUILDER THAT HOLDS AT LEAST ONE BYTE. ✋ THE MODEL FREEZES THOSE BYTES IN THE BUFFER (unsafe.String): a later write INTO them ends the model's run without an answer; a later append BEHIND them goes on. The statement's order of evaluation is drawn: one draw. THE FORM '_k': OVER 'Lib.IsBuilderF' (a builder that 'String()' may have read), AND WITH THE FRAME THAT REACHES ABOVE THE BUILDER: 'Lib.OthersKept': every block that is not b and is no row of uint8's stands as it stood: the iterator of a range among them. (LAID: no walk: one application.) -/
theorem Tryd.Builder_String_k (B b : Nat) (l : List UInt8) (w : World) (h : Lib.IsBuilderF 109 5 B b (Lib.byteCells l) w) (h0 : l ≠ []) :
    Calls Tryd.prog 61 #[.pointer (some ⟨b, 0, none⟩)] w fun e w' => e = .returned (.string ⟨l.toArray⟩) ∧ (Lib.IsBuilderF 109 5 B b (Lib.byteCells l) w' ∧ Below B w w' ∧ Lib.OthersKept 5 (some b) w w') := Any.Builder_String_k Tryd.lays169 Tryd.Builder_Extra_169 B b l w h h0
open Go.RowKit in
/-- (*strings.Builder).String OF A BUILDER THAT HOLDS NO BYTE: the empty string; THE FORM '_k': OVER 'Lib.IsBuilderF' (a builder that 'String()' may have read), AND WITH THE FRAME THAT REACHES ABOVE THE BUILDER: 'Lib.OthersKept': every block that is not b and is no row of uint8's stands as it stood: the iterator of a range among them. (LAID: no walk: one application.) -/
theorem Tryd.Builder_String_empty_k (B b : Nat) (w : World) (h : Lib.IsBuilderF 109 5 B b [] w) (hBw : B ≤ w.heap.size) :
    Calls Tryd.prog 61 #[.pointer (some ⟨b, 0, none⟩)] w fun e w' => e = .returned (.string ⟨#[]⟩) ∧ (Lib.IsBuilderF 109 5 B b [] w' ∧ Below B w w' ∧ Lib.OthersKept 5 (some b) w w') := Any.Builder_String_empty_k Tryd.lays169 Tryd.Builder_Extra_169 B b w h hBw
open Go.RowKit in
/-- (*strings.Builder).String: "String returns the accumulated string.": WHATEVER THE BUILDER HOLDS; THE FORM '_k': OVER 'Lib.IsBuilderF' (a builder that 'String()' may have read), AND WITH THE FRAME THAT REACHES ABOVE THE BUILDER: 'Lib.OthersKept': every block that is not b and is no row of uint8's stands as it stood: the iterator of a range among them. (LAID: no walk: one application.) -/
theorem Tryd.Builder_String_any_k (B b : Nat) (l : List UInt8) (w : World) (h : Lib.IsBuilderF 109 5 B b (Lib.byteCells l) w) (hBw : B ≤ w.heap.size) :
    Calls Tryd.prog 61 #[.pointer (some ⟨b, 0, none⟩)] w fun e w' => e = .returned (.string ⟨l.toArray⟩) ∧ (Lib.IsBuilderF 109 5 B b (Lib.byteCells l) w' ∧ Below B w w' ∧ Lib.OthersKept 5 (some b) w w') := Any.Builder_String_any_k Tryd.lays169 Tryd.Builder_Extra_169 B b l w h hBw
open Go.RowKit in
/-- (*strings.Builder).grow (no doc but "grow copies the buffer to a new, larger buffer so that there are at least n bytes of capacity beyond len(b.buf)."): AT A BUILDER WITHOUT A BUFFER: a new row of whatever bytes for its buffer, none of them its own yet. Three draws. (LAID: no walk: one application.) -/
theorem Tryd.Builder_grow_fresh_cap (B b n : Nat) (w : World) (hB : B ≤ b) (hbk : w.heap[b]? = some (.cells #[.pointer (some ⟨b, 0, none⟩), .slice none 0 0] 109 (0, 0))) (hBw : B ≤ w.heap.size) (hn : n ≤ 281474976710656) :
    Calls Tryd.prog 73 #[.pointer (some ⟨b, 0, none⟩), .int .i64 n] w fun e w' => e = .returned (.tuple #[]) ∧ (Lib.BuilderAt 109 5 B b (.pointer (some ⟨b, 0, none⟩)) [] w' ∧ Below B w w') ∧ ∃ p cap, w'.cell? ⟨b, 1, none⟩ = some (.slice p 0 cap) ∧ n ≤ cap := Any.Builder_grow_fresh_cap Tryd.lays241 Tryd.Builder_Extra_241 B b n w hB hbk hBw hn
open Go.RowKit in
/-- (*strings.Builder).Grow AT A BUILDER THAT HAS NOT BEEN WRITTEN ('var b strings.Builder; b.Grow(n)'): "Grow grows b's capacity, if necessary, to guarantee space for another n bytes.": it holds no byte behind it as before it. (LAID: no walk: one application.) -/
theorem Tryd.Builder_Grow_fresh_cap (B b n : Nat) (w : World) (hB : B ≤ b) (hbk : w.heap[b]? = some (.cells #[.pointer none, .slice none 0 0] 109 (0, 0))) (hBw : B ≤ w.heap.size) (hn : n ≤ 281474976710656) :
    Calls Tryd.prog 59 #[.pointer (some ⟨b, 0, none⟩), .int .i64 n] w fun e w' => e = .returned (.tuple #[]) ∧ (Lib.BuilderAt 109 5 B b (.pointer (some ⟨b, 0, none⟩)) [] w' ∧ Below B w w') ∧ ∃ p cap, w'.cell? ⟨b, 1, none⟩ = some (.slice p 0 cap) ∧ n ≤ cap := Any.Builder_Grow_fresh_cap Tryd.lays165 Tryd.Builder_Extra_165 B b n w hB hbk hBw hn
def Tryd.lays129_ren : Go.Shelf.Ren := ⟨fun | 129 => 65 | n => n, fun | 53 => 50 | 3 => 3 | 4 => 4 | 46 => 121 | 5 => 5 | 9 => 9 | n => n, fun | n => n⟩
theorem Tryd.lays129 : Go.Proofs.Lays.n129 Tryd.prog Tryd.lays129_ren := {
  mixed := by kernel_rfl
  f129 := Tryd.func65.trans (congrArg some (by kernel_rfl))
  t3 := Tryd.underlying3
  a3 := Tryd.isAgg3
  z3 := Tryd.sizeOf3
  v3 := Tryd.zeroValue3
  t4 := Tryd.underlying4
  a4 := Tryd.isAgg4
  z4 := Tryd.sizeOf4
  v4 := Tryd.zeroValue4
  t5 := Tryd.underlying5
  a5 := Tryd.isAgg5
  z5 := Tryd.sizeOf5
  v5 := Tryd.zeroValue5
  t9 := Tryd.underlying9
  a9 := Tryd.isAgg9
  z9 := Tryd.sizeOf9
  v9 := Tryd.zeroValue9
  t46 := Tryd.underlying121
  a46 := Tryd.isAgg121
  z46 := Tryd.sizeOf121
  v46 := Tryd.zeroValue121
  t53 := Tryd.underlying50
  a53 := Tryd.isAgg50
  z53 := Tryd.sizeOf50
  v53 := Tryd.zeroValue50 }
/-- bits.Len64: "Len64 returns the minimum number of bits required to represent x; the result is 0 for x == 0.": IT RETURNS 'Lib.bitLen x'; the world is as it was. ('h0', 'h1': x is a uint64.) (LAID: no walk: one application.) -/
theorem Tryd.bits_Len64 (x : Int) (w : World) (h0 : 0 ≤ x) (h1 : x ≤ 18446744073709551615) :
    Calls Tryd.prog 65 #[.int .u64 x] w fun e w' => e = .returned (.int .i64 (Lib.bitLen x.toNat)) ∧ w' = w := Any.bits_Len64 Tryd.lays129 x w h0 h1
def Tryd.lays317_ren : Go.Shelf.Ren := ⟨fun | 317 => 64 | n => n, fun | 3 => 3 | 46 => 121 | n => n, fun | n => n⟩
theorem Tryd.lays317 : Go.Proofs.Lays.n317 Tryd.prog Tryd.lays317_ren := {
  mixed := by kernel_rfl
  f317 := Tryd.func64.trans (congrArg some (by kernel_rfl))
  t3 := Tryd.underlying3
  a3 := Tryd.isAgg3
  z3 := Tryd.sizeOf3
  v3 := Tryd.zeroValue3
  t46 := Tryd.underlying121
  a46 := Tryd.isAgg121
  z46 := Tryd.sizeOf121
  v46 := Tryd.zeroValue121 }
open Go.Lib in
/-- internal/strconv.log10Pow2: "log10Pow2(x) returns ⌊log₁₀ 2**x⌋ = ⌊x * log₁₀ 2⌋.": '(x * 78913) >> 18', at an x up to 64 (a length in bits). The world is as it was. (LAID: no walk: one application.) -/
theorem Tryd.internal_strconv_log10Pow2 (x : Nat) (h : x ≤ 64) (w : World) :
    Calls Tryd.prog 64 #[.int .i64 x] w fun e w' => e = .returned (.int .i64 (Lib.l10 x)) ∧ w' = w := Any.internal_strconv_log10Pow2 Tryd.lays317 x h w
def Tryd.lays318_ren : Go.Shelf.Ren := ⟨fun | 318 => 66 | n => n, fun | 3 => 3 | 4 => 4 | n => n, fun | n => n⟩
theorem Tryd.lays318 : Go.Proofs.Lays.n318 Tryd.prog Tryd.lays318_ren := {
  mixed := by kernel_rfl
  f318 := Tryd.func66.trans (congrArg some (by kernel_rfl))
  t3 := Tryd.underlying3
  a3 := Tryd.isAgg3
  z3 := Tryd.sizeOf3
  v3 := Tryd.zeroValue3
  t4 := Tryd.underlying4
  a4 := Tryd.isAgg4
  z4 := Tryd.sizeOf4
  v4 := Tryd.zeroValue4 }
open Go.Lib in
/-- internal/strconv.bool2: "bool2 converts b to an integer: 1 for true, 0 for false." The world is as it was. (LAID: no walk: one application.) -/
theorem Tryd.internal_strconv_bool2_int (b : Bool) (w : World) :
    Calls Tryd.prog 66 #[.bool b] w fun e w' => e = .returned (.int .i64 (if b then 1 else 0)) ∧ w' = w := Any.internal_strconv_bool2_int Tryd.lays318 b w
def Tryd.lays283_ren : Go.Shelf.Ren := ⟨fun | 283 => 50 | n => n, fun | 3 => 3 | 9 => 9 | 4 => 4 | n => n, fun | n => n⟩
theorem Tryd.lays283 : Go.Proofs.Lays.n283 Tryd.prog Tryd.lays283_ren := {
  mixed := by kernel_rfl
  f283 := Tryd.func50.trans (congrArg some (by kernel_rfl))
  t3 := Tryd.underlying3
  a3 := Tryd.isAgg3
  z3 := Tryd.sizeOf3
  v3 := Tryd.zeroValue3
  t4 := Tryd.underlying4
  a4 := Tryd.isAgg4
  z4 := Tryd.sizeOf4
  v4 := Tryd.zeroValue4
  t9 := Tryd.underlying9
  a9 := Tryd.isAgg9
  z9 := Tryd.sizeOf9
  v9 := Tryd.zeroValue9 }
open Go.Lib in
/-- internal/strconv.small: "small returns the string for an i with 0 <= i < nSmalls.": i's decimal numeral. The world is as it was. (LAID: no walk: one application.) -/
theorem Tryd.internal_strconv_small (i : Nat) (h : i < 100) (w : World) :
    Calls Tryd.prog 50 #[.int .i64 i] w fun e w' => e = .returned (.string ⟨(Lib.decDigits i).toArray⟩) ∧ w' = w := Any.internal_strconv_small Tryd.lays283 i h w
def Tryd.laysM284_ren : Go.Shelf.Ren := ⟨fun | 284 => 51 | 129 => 65 | 317 => 64 | 318 => 66 | n => n, fun | 53 => 50 | 3 => 3 | 212 => 118 | 0 => 0 | 4 => 4 | 46 => 121 | 5 => 5 | 9 => 9 | n => n, fun | 17 => 0 | n => n⟩
theorem Tryd.laysM284 : Go.Proofs.LaysM.n284 Tryd.prog Tryd.laysM284_ren := {
  mixed := by kernel_rfl
  f129 := Tryd.func65.trans (congrArg some (by kernel_rfl))
  f284 := Tryd.func51.trans (congrArg some (by kernel_rfl))
  f317 := Tryd.func64.trans (congrArg some (by kernel_rfl))
  f318 := Tryd.func66.trans (congrArg some (by kernel_rfl))
  t0 := Tryd.underlying0
  a0 := Tryd.isAgg0
  z0 := Tryd.sizeOf0
  v0 := Tryd.zeroValue0
  t3 := Tryd.underlying3
  a3 := Tryd.isAgg3
  z3 := Tryd.sizeOf3
  v3 := Tryd.zeroValue3
  t4 := Tryd.underlying4
  a4 := Tryd.isAgg4
  z4 := Tryd.sizeOf4
  v4 := Tryd.zeroValue4
  t5 := Tryd.underlying5
  a5 := Tryd.isAgg5
  z5 := Tryd.sizeOf5
  v5 := Tryd.zeroValue5
  t9 := Tryd.underlying9
  a9 := Tryd.isAgg9
  z9 := Tryd.sizeOf9
  v9 := Tryd.zeroValue9
  t46 := Tryd.underlying121
  a46 := Tryd.isAgg121
  z46 := Tryd.sizeOf121
  v46 := Tryd.zeroValue121
  t53 := Tryd.underlying50
  a53 := Tryd.isAgg50
  z53 := Tryd.sizeOf50
  v53 := Tryd.zeroValue50
  t212 := Tryd.underlying118
  a212 := Tryd.isAgg118
  z212 := Tryd.sizeOf118
  v212 := Tryd.zeroValue118
  g17 := by kernel_rfl
  i0 := by kernel_rfl
  i3 := by kernel_rfl
  i4 := by kernel_rfl
  i5 := by kernel_rfl
  i9 := by kernel_rfl
  i46 := by kernel_rfl
  i53 := by kernel_rfl
  i212 := by kernel_rfl
  m17 := by kernel_rfl }
open Go.Lib in
/-- internal/strconv.numDigits, at a d that is not 0: THE NUMBER OF d's DECIMAL DIGITS. The world is as it was. (LAID: no walk: one application.) -/
theorem Tryd.internal_strconv_numDigits (u : Nat) (h1 : 1 ≤ u) (h2 : u < 18446744073709551616) (w : World) (htab : Lib.TabIs Tryd.prog w "internal/strconv.uint64pow10" .u64 Lib.pow10Tab) :
    Calls Tryd.prog 51 #[.int .u64 u] w fun e w' => e = .returned (.int .i64 (Lib.nDigits u)) ∧ w' = w := Any.internal_strconv_numDigits Tryd.laysM284 u h1 h2 w htab
def Tryd.lays285_ren : Go.Shelf.Ren := ⟨fun | 285 => 52 | n => n, fun | 37 => 26 | 53 => 50 | 3 => 3 | 4 => 4 | 51 => 119 | 9 => 9 | 5 => 5 | 0 => 0 | n => n, fun | n => n⟩
theorem Tryd.lays285 : Go.Proofs.Lays.n285 Tryd.prog Tryd.lays285_ren := {
  mixed := by kernel_rfl
  f285 := Tryd.func52.trans (congrArg some (by kernel_rfl))
  t0 := Tryd.underlying0
  a0 := Tryd.isAgg0
  z0 := Tryd.sizeOf0
  v0 := Tryd.zeroValue0
  t3 := Tryd.underlying3
  a3 := Tryd.isAgg3
  z3 := Tryd.sizeOf3
  v3 := Tryd.zeroValue3
  t4 := Tryd.underlying4
  a4 := Tryd.isAgg4
  z4 := Tryd.sizeOf4
  v4 := Tryd.zeroValue4
  t5 := Tryd.underlying5
  a5 := Tryd.isAgg5
  z5 := Tryd.sizeOf5
  v5 := Tryd.zeroValue5
  t9 := Tryd.underlying9
  a9 := Tryd.isAgg9
  z9 := Tryd.sizeOf9
  v9 := Tryd.zeroValue9
  t37 := Tryd.underlying26
  a37 := Tryd.isAgg26
  z37 := Tryd.sizeOf26
  v37 := Tryd.zeroValue26
  t51 := Tryd.underlying119
  a51 := Tryd.isAgg119
  z51 := Tryd.sizeOf119
  v51 := Tryd.zeroValue119
  t53 := Tryd.underlying50
  a53 := Tryd.isAgg50
  z53 := Tryd.sizeOf50
  v53 := Tryd.zeroValue50 }
open Go.RowKit Go.Sort Go.Lib in
/-- internal/strconv.formatBase10: "formatBase10 formats the decimal representation of u into a. The caller is responsible for ensuring that a is big enough to hold u. If a is too big, leading zeros will be filled in as needed.": THE ROW HOLDS u's DIGITS ('FmtInv .. 0 ..': every place t holds 'dg u (len - 1 - t)'); all else is as it was but for the count of draws. (LAID: no walk: one application.) -/
theorem Tryd.internal_strconv_formatBase10 (blk off cap : Nat) (u : Nat) (d : Array UInt8) (w : World) (hH : Holds (fun (b : UInt8) => Value.int .u8 (b.toNat : Int)) w blk off d) (hu : u < 10 ^ d.size) (hu64 : u < 18446744073709551616) (hsz : d.size < 4611686018427387904) :
    Calls Tryd.prog 52 #[.slice (some ⟨blk, off, none⟩) d.size cap, .int .u64 u] w fun e w' =>
      e = .returned (.tuple #[]) ∧ ∃ (n v' : Nat) (dk : Array UInt8), w' = (putRow (fun (b : UInt8) => Value.int .u8 (b.toNat : Int)) w blk off dk).drewN n ∧ FmtInv d.size u 0 v' dk := Any.internal_strconv_formatBase10 Tryd.lays285 blk off cap u d w hH hu hu64 hsz
def Tryd.lays217_ren : Go.Shelf.Ren := ⟨fun | 217 => 101 | 266 => 102 | n => n, fun | 9 => 9 | 5 => 5 | 3 => 3 | n => n, fun | n => n⟩
theorem Tryd.lays217 : Go.Proofs.Lays.n217 Tryd.prog Tryd.lays217_ren := {
  mixed := by kernel_rfl
  f217 := Tryd.func101.trans (congrArg some (by kernel_rfl))
  f266 := Tryd.func102.trans (congrArg some (by kernel_rfl))
  t3 := Tryd.underlying3
  a3 := Tryd.isAgg3
  z3 := Tryd.sizeOf3
  v3 := Tryd.zeroValue3
  t5 := Tryd.underlying5
  a5 := Tryd.isAgg5
  z5 := Tryd.sizeOf5
  v5 := Tryd.zeroValue5
  t9 := Tryd.underlying9
  a9 := Tryd.isAgg9
  z9 := Tryd.sizeOf9
  v9 := Tryd.zeroValue9 }
open Go.RowKit Go.Lib in
/-- internal/stringslite.IndexByte (what strings.IndexByte calls): IT RETURNS 'Lib.indexByte s c'; the world is as it was. (LAID: no walk: one application.) -/
theorem Tryd.stringslite_IndexByte (s : ByteArray) (c : Int) (w : World) :
    Calls Tryd.prog 101 #[.string s, .int .u8 c] w fun e w' => e = .returned (.int .i64 (Lib.indexByte s.data.toList c.toNat.toUInt8)) ∧ w' = w := Any.stringslite_IndexByte Tryd.lays217 s c w
def Tryd.lays224_ren : Go.Shelf.Ren := ⟨fun | 224 => 99 | n => n, fun | 3 => 3 | n => n, fun | n => n⟩
theorem Tryd.lays224 : Go.Proofs.Lays.n224 Tryd.prog Tryd.lays224_ren := {
  mixed := by kernel_rfl
  f224 := Tryd.func99.trans (congrArg some (by kernel_rfl))
  t3 := Tryd.underlying3
  a3 := Tryd.isAgg3
  z3 := Tryd.sizeOf3
  v3 := Tryd.zeroValue3 }
open Go.RowKit Go.Lib in
/-- internal/bytealg.Cutover: "Cutover reports the number of failures of IndexByte we should tolerate before switching over to Index. n is the number of bytes processed so far.": on amd64: (n + 16) / 8. (LAID: no walk: one application.) -/
theorem Tryd.bytealg_Cutover (n : Int) (h0 : 0 ≤ n) (h1 : n < 4611686018427387904) (w : World) :
    Calls Tryd.prog 99 #[.int .i64 n] w fun e w' => e = .returned (.int .i64 ((n + 16) / 8)) ∧ w' = w := Any.bytealg_Cutover Tryd.lays224 n h0 h1 w
def Tryd.lays197_ren : Go.Shelf.Ren := ⟨fun | 197 => 91 | 260 => 94 | n => n, fun | 9 => 9 | 21 => 21 | 3 => 3 | 4 => 4 | 5 => 5 | 105 => 145 | 119 => 149 | 0 => 0 | 46 => 121 | 139 => 152 | 138 => 151 | n => n, fun | 3 => 4 | 4 => 5 | n => n⟩
theorem Tryd.lays197 : Go.Proofs.Lays.n197 Tryd.prog Tryd.lays197_ren := {
  mixed := by kernel_rfl
  f197 := Tryd.func91.trans (congrArg some (by kernel_rfl))
  f260 := Tryd.func94.trans (congrArg some (by kernel_rfl))
  t0 := Tryd.underlying0
  a0 := Tryd.isAgg0
  z0 := Tryd.sizeOf0
  v0 := Tryd.zeroValue0
  t3 := Tryd.underlying3
  a3 := Tryd.isAgg3
  z3 := Tryd.sizeOf3
  v3 := Tryd.zeroValue3
  t4 := Tryd.underlying4
  a4 := Tryd.isAgg4
  z4 := Tryd.sizeOf4
  v4 := Tryd.zeroValue4
  t5 := Tryd.underlying5
  a5 := Tryd.isAgg5
  z5 := Tryd.sizeOf5
  v5 := Tryd.zeroValue5
  t9 := Tryd.underlying9
  a9 := Tryd.isAgg9
  z9 := Tryd.sizeOf9
  v9 := Tryd.zeroValue9
  t21 := Tryd.underlying21
  a21 := Tryd.isAgg21
  z21 := Tryd.sizeOf21
  v21 := Tryd.zeroValue21
  t46 := Tryd.underlying121
  a46 := Tryd.isAgg121
  z46 := Tryd.sizeOf121
  v46 := Tryd.zeroValue121
  t105 := Tryd.underlying145
  a105 := Tryd.isAgg145
  z105 := Tryd.sizeOf145
  v105 := Tryd.zeroValue145
  t119 := Tryd.underlying149
  a119 := Tryd.isAgg149
  z119 := Tryd.sizeOf149
  t138 := Tryd.underlying151
  a138 := Tryd.isAgg151
  z138 := Tryd.sizeOf151
  v138 := Tryd.zeroValue151
  t139 := Tryd.underlying152
  a139 := Tryd.isAgg152
  z139 := Tryd.sizeOf152
  v139 := Tryd.zeroValue152
  g3 := by kernel_rfl
  g4 := by kernel_rfl }
open Go.RowKit Go.Lib in
/-- unicode/utf8.DecodeRuneInString: "DecodeRuneInString is like DecodeRune but its input is a string.": ("DecodeRune unpacks the first UTF-8 encoding in p and returns the rune and its width in bytes."): WHERE s BEGINS WITH AN ASCII BYTE x: (x, 1). (LAID: no walk: one application.) -/
theorem Tryd.utf8_DecodeRuneInString_ascii (s : ByteArray) (x : UInt8) (w : World) (h0 : s.data.toList[0]? = some x) (hx : x.toNat < 128) :
    Calls Tryd.prog 91 #[.string s] w fun e w' => e = .returned (.tuple #[.int .i32 x.toNat, .int .i64 1]) ∧ w' = w := Any.utf8_DecodeRuneInString_ascii Tryd.lays197 s x w h0 hx
def Tryd.lays152_ren : Go.Shelf.Ren := ⟨fun | 152 => 95 | 137 => 97 | 119 => 98 | 224 => 99 | 225 => 100 | 217 => 101 | 266 => 102 | n => n, fun | 9 => 9 | 21 => 21 | 3 => 3 | 4 => 4 | 5 => 5 | 0 => 0 | 46 => 121 | n => n, fun | n => n⟩
theorem Tryd.lays152 : Go.Proofs.Lays.n152 Tryd.prog Tryd.lays152_ren := {
  mixed := by kernel_rfl
  f119 := Tryd.func98.trans (congrArg some (by kernel_rfl))
  f137 := Tryd.func97.trans (congrArg some (by kernel_rfl))
  f152 := Tryd.func95.trans (congrArg some (by kernel_rfl))
  f217 := Tryd.func101.trans (congrArg some (by kernel_rfl))
  f224 := Tryd.func99.trans (congrArg some (by kernel_rfl))
  f225 := Tryd.func100.trans (congrArg some (by kernel_rfl))
  f266 := Tryd.func102.trans (congrArg some (by kernel_rfl))
  t0 := Tryd.underlying0
  a0 := Tryd.isAgg0
  z0 := Tryd.sizeOf0
  v0 := Tryd.zeroValue0
  t3 := Tryd.underlying3
  a3 := Tryd.isAgg3
  z3 := Tryd.sizeOf3
  v3 := Tryd.zeroValue3
  t4 := Tryd.underlying4
  a4 := Tryd.isAgg4
  z4 := Tryd.sizeOf4
  v4 := Tryd.zeroValue4
  t5 := Tryd.underlying5
  a5 := Tryd.isAgg5
  z5 := Tryd.sizeOf5
  v5 := Tryd.zeroValue5
  t9 := Tryd.underlying9
  a9 := Tryd.isAgg9
  z9 := Tryd.sizeOf9
  v9 := Tryd.zeroValue9
  t21 := Tryd.underlying21
  a21 := Tryd.isAgg21
  z21 := Tryd.sizeOf21
  v21 := Tryd.zeroValue21
  t46 := Tryd.underlying121
  a46 := Tryd.isAgg121
  z46 := Tryd.sizeOf121
  v46 := Tryd.zeroValue121 }
open Go.RowKit Go.Lib in
theorem Tryd.strings_IndexRune_ascii (s : ByteArray) (r : Int) (w : World) (h0 : 0 ≤ r) (h1 : r < 128) :
    Calls Tryd.prog 95 #[.string s, .int .i32 r] w fun e w' => e = .returned (.int .i64 (Lib.indexByte s.data.toList r.toNat.toUInt8)) ∧ w' = w := Any.strings_IndexRune_ascii Tryd.lays152 s r w h0 h1
def Tryd.lays151_ren : Go.Shelf.Ren := ⟨fun | 151 => 92 | 152 => 95 | 137 => 97 | 119 => 98 | 224 => 99 | 225 => 100 | 217 => 101 | 266 => 102 | n => n, fun | 9 => 9 | 21 => 21 | 4 => 4 | 3 => 3 | 5 => 5 | 0 => 0 | 46 => 121 | n => n, fun | n => n⟩
theorem Tryd.lays151 : Go.Proofs.Lays.n151 Tryd.prog Tryd.lays151_ren := {
  mixed := by kernel_rfl
  f119 := Tryd.func98.trans (congrArg some (by kernel_rfl))
  f137 := Tryd.func97.trans (congrArg some (by kernel_rfl))
  f151 := Tryd.func92.trans (congrArg some (by kernel_rfl))
  f152 := Tryd.func95.trans (congrArg some (by kernel_rfl))
  f217 := Tryd.func101.trans (congrArg some (by kernel_rfl))
  f224 := Tryd.func99.trans (congrArg some (by kernel_rfl))
  f225 := Tryd.func100.trans (congrArg some (by kernel_rfl))
  f266 := Tryd.func102.trans (congrArg some (by kernel_rfl))
  t0 := Tryd.underlying0
  a0 := Tryd.isAgg0
  z0 := Tryd.sizeOf0
  v0 := Tryd.zeroValue0
  t3 := Tryd.underlying3
  a3 := Tryd.isAgg3
  z3 := Tryd.sizeOf3
  v3 := Tryd.zeroValue3
  t4 := Tryd.underlying4
  a4 := Tryd.isAgg4
  z4 := Tryd.sizeOf4
  v4 := Tryd.zeroValue4
  t5 := Tryd.underlying5
  a5 := Tryd.isAgg5
  z5 := Tryd.sizeOf5
  v5 := Tryd.zeroValue5
  t9 := Tryd.underlying9
  a9 := Tryd.isAgg9
  z9 := Tryd.sizeOf9
  v9 := Tryd.zeroValue9
  t21 := Tryd.underlying21
  a21 := Tryd.isAgg21
  z21 := Tryd.sizeOf21
  v21 := Tryd.zeroValue21
  t46 := Tryd.underlying121
  a46 := Tryd.isAgg121
  z46 := Tryd.sizeOf121
  v46 := Tryd.zeroValue121 }
open Go.RowKit Go.Lib in
theorem Tryd.strings_ContainsRune_ascii (s : ByteArray) (r : Int) (w : World) (h0 : 0 ≤ r) (h1 : r < 128) :
    Calls Tryd.prog 92 #[.string s, .int .i32 r] w fun e w' => e = .returned (.bool (decide (0 ≤ Lib.indexByte s.data.toList r.toNat.toUInt8))) ∧ w' = w := Any.strings_ContainsRune_ascii Tryd.lays151 s r w h0 h1
def Tryd.lays227_ren : Go.Shelf.Ren := ⟨fun | 227 => 80 | n => n, fun | 9 => 9 | 116 => 135 | 4 => 4 | 0 => 0 | 3 => 3 | 5 => 5 | n => n, fun | n => n⟩
theorem Tryd.lays227 : Go.Proofs.Lays.n227 Tryd.prog Tryd.lays227_ren := {
  mixed := by kernel_rfl
  f227 := Tryd.func80.trans (congrArg some (by kernel_rfl))
  t0 := Tryd.underlying0
  a0 := Tryd.isAgg0
  z0 := Tryd.sizeOf0
  v0 := Tryd.zeroValue0
  t3 := Tryd.underlying3
  a3 := Tryd.isAgg3
  z3 := Tryd.sizeOf3
  v3 := Tryd.zeroValue3
  t4 := Tryd.underlying4
  a4 := Tryd.isAgg4
  z4 := Tryd.sizeOf4
  v4 := Tryd.zeroValue4
  t5 := Tryd.underlying5
  a5 := Tryd.isAgg5
  z5 := Tryd.sizeOf5
  v5 := Tryd.zeroValue5
  t9 := Tryd.underlying9
  a9 := Tryd.isAgg9
  z9 := Tryd.sizeOf9
  v9 := Tryd.zeroValue9
  t116 := Tryd.underlying135
  a116 := Tryd.isAgg135
  z116 := Tryd.sizeOf135 }
open Go.RowKit Go.Lib in
theorem Tryd.strings_makeASCIISet (hv116 : ∀ w, (zeroValue 135).run Tryd.prog w = .ok (.agg (Array.replicate 256 (.bool false))) w) (chars : ByteArray) (w : World) (hs : chars.size < 4294967281) (hascii : ∀ (j : Nat) b, chars.data.toList[j]? = some b → b.toNat < 128) :
    Calls Tryd.prog 80 #[.string chars] w fun e w' => e = .returned (.tuple #[.agg (Lib.setCells chars.data.toList), .bool true]) ∧ w' = w.alloc (.cells (Lib.setCells chars.data.toList) 135) := Any.strings_makeASCIISet Tryd.lays227 hv116 (by kernel_rfl) chars w hs hascii
def Tryd.lays228_ren : Go.Shelf.Ren := ⟨fun | 228 => 90 | n => n, fun | 124 => 139 | 5 => 5 | 4 => 4 | 0 => 0 | 116 => 135 | n => n, fun | n => n⟩
theorem Tryd.lays228 : Go.Proofs.Lays.n228 Tryd.prog Tryd.lays228_ren := {
  mixed := by kernel_rfl
  f228 := Tryd.func90.trans (congrArg some (by kernel_rfl))
  t0 := Tryd.underlying0
  a0 := Tryd.isAgg0
  z0 := Tryd.sizeOf0
  v0 := Tryd.zeroValue0
  t4 := Tryd.underlying4
  a4 := Tryd.isAgg4
  z4 := Tryd.sizeOf4
  v4 := Tryd.zeroValue4
  t5 := Tryd.underlying5
  a5 := Tryd.isAgg5
  z5 := Tryd.sizeOf5
  v5 := Tryd.zeroValue5
  t116 := Tryd.underlying135
  a116 := Tryd.isAgg135
  z116 := Tryd.sizeOf135
  t124 := Tryd.underlying139
  a124 := Tryd.isAgg139
  z124 := Tryd.sizeOf139
  v124 := Tryd.zeroValue139 }
open Go.RowKit Go.Lib in
/-- '(as *asciiSet) contains(c)': 'as[c]': the set lies at block b, whole. (LAID: no walk: one application.) -/
theorem Tryd.asciiSet_contains (b : Nat) (x : UInt8) (v : Bool) (w : World) (hc : w.cell? ⟨b, x.toNat, none⟩ = some (.bool v)) :
    Calls Tryd.prog 90 #[.pointer (some ⟨b, 0, none⟩), .int .u8 x.toNat] w fun e w' => e = .returned (.bool v) ∧ w' = w := Any.asciiSet_contains Tryd.lays228 b x v w hc
def Tryd.lays260_ren : Go.Shelf.Ren := ⟨fun | 260 => 94 | n => n, fun | 9 => 9 | 21 => 21 | 3 => 3 | 4 => 4 | 5 => 5 | 119 => 149 | 0 => 0 | 46 => 121 | 139 => 152 | 138 => 151 | n => n, fun | 3 => 4 | 4 => 5 | n => n⟩
theorem Tryd.lays260 : Go.Proofs.Lays.n260 Tryd.prog Tryd.lays260_ren := {
  mixed := by kernel_rfl
  f260 := Tryd.func94.trans (congrArg some (by kernel_rfl))
  t0 := Tryd.underlying0
  a0 := Tryd.isAgg0
  z0 := Tryd.sizeOf0
  v0 := Tryd.zeroValue0
  t3 := Tryd.underlying3
  a3 := Tryd.isAgg3
  z3 := Tryd.sizeOf3
  v3 := Tryd.zeroValue3
  t4 := Tryd.underlying4
  a4 := Tryd.isAgg4
  z4 := Tryd.sizeOf4
  v4 := Tryd.zeroValue4
  t5 := Tryd.underlying5
  a5 := Tryd.isAgg5
  z5 := Tryd.sizeOf5
  v5 := Tryd.zeroValue5
  t9 := Tryd.underlying9
  a9 := Tryd.isAgg9
  z9 := Tryd.sizeOf9
  v9 := Tryd.zeroValue9
  t21 := Tryd.underlying21
  a21 := Tryd.isAgg21
  z21 := Tryd.sizeOf21
  v21 := Tryd.zeroValue21
  t46 := Tryd.underlying121
  a46 := Tryd.isAgg121
  z46 := Tryd.sizeOf121
  v46 := Tryd.zeroValue121
  t119 := Tryd.underlying149
  a119 := Tryd.isAgg149
  z119 := Tryd.sizeOf149
  t138 := Tryd.underlying151
  a138 := Tryd.isAgg151
  z138 := Tryd.sizeOf151
  v138 := Tryd.zeroValue151
  t139 := Tryd.underlying152
  a139 := Tryd.isAgg152
  z139 := Tryd.sizeOf152
  v139 := Tryd.zeroValue152
  g3 := by kernel_rfl
  g4 := by kernel_rfl }
open Go.RowKit Go.Lib in
theorem Tryd.utf8_decodeRuneInStringSlow (s : ByteArray) (w : World) (hT : Lib.Utf8Tabs 4 5 w) :
    Calls Tryd.prog 94 #[.string s] w fun e w' => e = .returned (.tuple #[.int .i32 (Lib.decodeGo s).1, .int .i64 (Lib.decodeGo s).2]) ∧ Below w.heap.size w w' := Any.utf8_decodeRuneInStringSlow Tryd.lays260 s w hT
open Go.RowKit Go.Lib in
/-- **unicode/utf8.DecodeRuneInString AT EVERY STRING.** (LAID: no walk: one application.) -/
theorem Tryd.utf8_DecodeRuneInString (s : ByteArray) (w : World) (hT : Lib.Utf8Tabs 4 5 w) :
    Calls Tryd.prog 91 #[.string s] w fun e w' => e = .returned (.tuple #[.int .i32 (Lib.decodeGo s).1, .int .i64 (Lib.decodeGo s).2]) ∧ Below w.heap.size w w' := Any.utf8_DecodeRuneInString Tryd.lays197 s w hT
def Tryd.lays271_ren : Go.Shelf.Ren := ⟨fun | 271 => 93 | 120 => 96 | 197 => 91 | 260 => 94 | n => n, fun | 9 => 9 | 21 => 21 | 3 => 3 | 4 => 4 | 5 => 5 | 105 => 145 | 119 => 149 | 0 => 0 | 46 => 121 | 139 => 152 | 138 => 151 | n => n, fun | 3 => 4 | 4 => 5 | n => n⟩
theorem Tryd.lays271 : Go.Proofs.Lays.n271 Tryd.prog Tryd.lays271_ren := {
  mixed := by kernel_rfl
  f120 := Tryd.func96.trans (congrArg some (by kernel_rfl))
  f197 := Tryd.func91.trans (congrArg some (by kernel_rfl))
  f260 := Tryd.func94.trans (congrArg some (by kernel_rfl))
  f271 := Tryd.func93.trans (congrArg some (by kernel_rfl))
  t0 := Tryd.underlying0
  a0 := Tryd.isAgg0
  z0 := Tryd.sizeOf0
  v0 := Tryd.zeroValue0
  t3 := Tryd.underlying3
  a3 := Tryd.isAgg3
  z3 := Tryd.sizeOf3
  v3 := Tryd.zeroValue3
  t4 := Tryd.underlying4
  a4 := Tryd.isAgg4
  z4 := Tryd.sizeOf4
  v4 := Tryd.zeroValue4
  t5 := Tryd.underlying5
  a5 := Tryd.isAgg5
  z5 := Tryd.sizeOf5
  v5 := Tryd.zeroValue5
  t9 := Tryd.underlying9
  a9 := Tryd.isAgg9
  z9 := Tryd.sizeOf9
  v9 := Tryd.zeroValue9
  t21 := Tryd.underlying21
  a21 := Tryd.isAgg21
  z21 := Tryd.sizeOf21
  v21 := Tryd.zeroValue21
  t46 := Tryd.underlying121
  a46 := Tryd.isAgg121
  z46 := Tryd.sizeOf121
  v46 := Tryd.zeroValue121
  t105 := Tryd.underlying145
  a105 := Tryd.isAgg145
  z105 := Tryd.sizeOf145
  v105 := Tryd.zeroValue145
  t119 := Tryd.underlying149
  a119 := Tryd.isAgg149
  z119 := Tryd.sizeOf149
  t138 := Tryd.underlying151
  a138 := Tryd.isAgg151
  z138 := Tryd.sizeOf151
  v138 := Tryd.zeroValue151
  t139 := Tryd.underlying152
  a139 := Tryd.isAgg152
  z139 := Tryd.sizeOf152
  v139 := Tryd.zeroValue152
  g3 := by kernel_rfl
  g4 := by kernel_rfl }
open Go.RowKit Go.Lib in
/-- **unicode/utf8.DecodeLastRuneInString AT EVERY STRING.** (LAID: no walk: one application.) -/
theorem Tryd.utf8_DecodeLastRuneInString (s : ByteArray) (w : World) (hs : s.size ≤ 9223372036854775807) (hT : Lib.Utf8Tabs 4 5 w) :
    Calls Tryd.prog 93 #[.string s] w fun e w' => e = .returned (.tuple #[.int .i32 (Lib.decodeLastL s.data.toList).1, .int .i64 (Lib.decodeLastL s.data.toList).2]) ∧ Below w.heap.size w w' := Any.utf8_DecodeLastRuneInString Tryd.lays271 s w hs hT
end Go.Proofs

/- Trimming, values and small letters, the program's and the reference's, are those of the text Tq. Texts have a length that Go knows; small letters: at most 1000000 bytes. -/
namespace Go.Proofs.YthfdnlcalefjeaaDoor
set_option linter.unusedVariables false
set_option linter.unusedSimpArgs false
open Go.RowKit Go.Shelf
set_option maxHeartbeats 1000000
theorem ba_eq {x : ByteArray} {l : List UInt8} (h : x.data.toList = l) : x = ⟨l.toArray⟩ := by subst h; cases x; simp
theorem tok_trim (s : ByteArray) (w : World) (hs : s.size ≤ 9223372036854775807) :
    Calls Tryd.prog 56 #[.string s] w fun e w' => e = .returned (.string ⟨(Tp.trim s.data.toList).toArray⟩) ∧ Below w.heap.size w w' := by
  have K : Hid (∀ W, Calls Tryd.prog 69 #[.string s, .string ⟨#[32, 9]⟩] W fun e w' => e = .returned (.string ⟨(Tp.trim s.data.toList).toArray⟩) ∧ Below W.heap.size W w') := by
    intro W
    have h := Any.strings_Trim_laid Tryd.lays160 (by kernel_rfl) s ⟨#[32, 9]⟩ W hs (by decide) (ascii_of_all (by decide))
    rw [show (⟨#[32, 9]⟩ : ByteArray).data.toList = [32, 9] from rfl, Tp.trimS_is] at h
    exact h
  go_enter Tryd.func56, Tryd.ntmps56
  go_wp2_with fail
  refine (K.out _).mono ?_
  rintro e w' ⟨rfl, hb⟩
  go_wp2
  go_ret
  exact ⟨rfl, hb⟩
theorem last_split (u : ByteArray) (h : 0 < u.size) : u.data.toList = (u.extract 0 (u.size - 1)).data.toList ++ [u[u.size - 1]] := by
  rw [Lib.extract_data, List.drop_zero, Nat.sub_zero]
  have := take_snoc u (u.size - 1) (by omega)
  rw [← this, List.take_of_length_le (by simp; omega)]
theorem slice_head (u : ByteArray) (w : World) (h : 0 < u.size) (hu : u.size ≤ 9223372036854775807) : (Instr.slice 9 (.string u) none (some (.int .i64 ((u.size : Int) - 1))) none).run Tryd.prog w = .ok (.string (u.extract 0 (u.size - 1))) w := by
  have e : ((u.size : Int) - 1) = ((u.size - 1 : Nat) : Int) := by omega
  rw [e]
  simp [go_sem, Tryd.underlying9]
theorem index_last (u : ByteArray) (w : World) (h : 0 < u.size) (hu : u.size ≤ 9223372036854775807) : (Instr.index 9 (.string u) (.int .i64 ((u.size : Int) - 1))).run Tryd.prog w = .ok (.int .u8 ((u[u.size - 1]'(by omega)).toNat : Int)) w := by
  have e : ((u.size : Int) - 1) = ((u.size - 1 : Nat) : Int) := by omega
  have hi : (0 : Int) ≤ ((u.size - 1 : Nat) : Int) ∧ ((u.size - 1 : Nat) : Int) < u.size := by omega
  rw [e, run_index_string w 9 u .i64 _ Tryd.underlying9, dif_pos hi]
  simp only [Int.toNat_natCast]
theorem nil_of_size {u : ByteArray} (h : ¬ 0 < u.size) : u.data.toList = [] := by
  apply List.length_eq_zero_iff.1
  have : u.size = 0 := by omega
  exact this
theorem rtk_trim (s : ByteArray) (w : World) (hs : s.size ≤ 9223372036854775807) :
    Calls Tryd.prog 63 #[.string s] w fun e w' => e = .returned (.string ⟨(Tp.trim s.data.toList).toArray⟩) ∧ w = w' := by
  go_enter Tryd.func63, Tryd.ntmps63
  go_wp2_with fail
  go_loop [0] (fun v => ∃ t : ByteArray, v = .string t ∧ t.size ≤ 9223372036854775807 ∧ Tp.trimL s.data.toList = Tp.trimL t.data.toList) (fun v => match v with | .string t => t.size | _ => 0)
  case atStart => exact ⟨s, rfl, hs, rfl⟩
  case round =>
    clear hs
    obtain ⟨t, rfl, ht, htr⟩ := hrel
    have HT := Lib.hid htr
    clear htr
    by_cases h0 : 0 < t.size
    · have D := Lib.hid (rtk_blank ((t[0]).toNat : Int) w (by omega) (by have := (t[0]).toNat_lt; omega))
      have hc : t.data.toList = t[0] :: (t.extract 1 t.size).data.toList := by
        rw [Lib.extract_to_end]
        have : 0 < t.data.toList.length := by simpa using h0
        exact (List.drop_zero (l := t.data.toList)).symm.trans (List.drop_eq_getElem_cons (l := t.data.toList) (i := 0) this)
      have HC := Lib.hid hc
      clear hc
      go_wp2_with fail
      refine D.out.mono ?_
      rintro e w' ⟨rfl, rfl⟩
      obtain ⟨v, hv⟩ : ∃ v, Tp.blank ((t[0]).toNat : Int) = v := ⟨_, rfl⟩
      rw [hv]
      have HV := Lib.hid hv
      clear hv
      cases v
      · have HL := Lib.hid (show Tp.trimL s.data.toList = t.data.toList by rw [HT.out, HC.out, Tp.trimL_cons, if_neg (by rw [show Tp.blankB _ = false from HV.out]; decide)])
        clear HC HV
        go_wp2_with fail
        clear HT D
        go_loop [0] (fun v => ∃ u : ByteArray, v = .string u ∧ u.size ≤ 9223372036854775807 ∧ Tp.trimR t.data.toList = Tp.trimR u.data.toList) (fun v => match v with | .string u => u.size | _ => 0)
        case atStart => exact ⟨t, rfl, ht, rfl⟩
        case round =>
          clear ht
          obtain ⟨u, rfl, hu, hur⟩ := hrel
          have HU := Lib.hid hur
          clear hur
          by_cases h0' : 0 < u.size
          · have D := Lib.hid (rtk_blank ((u[u.size - 1]).toNat : Int) w (by omega) (by have := (u[u.size - 1]).toNat_lt; omega))
            have HC := Lib.hid (last_split u h0')
            have hsl := fun wx => slice_head u wx h0' hu
            have hi1 : u.size - 1 < u.size := by omega
            have hin := fun wx => index_last u wx h0' hu
            go_wp2_with (first | simp only [hin] | fail)
            refine D.out.mono ?_
            rintro e w' ⟨rfl, rfl⟩
            obtain ⟨v, hv⟩ : ∃ v, Tp.blank ((u[u.size - 1]).toNat : Int) = v := ⟨_, rfl⟩
            rw [hv]
            have HV := Lib.hid hv
            clear hv
            cases v
            · go_wp2
              go_ret
              refine ⟨ret_str (ba_eq ?_), rfl⟩
              unfold Tp.trim
              rw [HL.out, HU.out, HC.out, Tp.trimR_snoc, if_neg (by rw [show Tp.blankB _ = false from HV.out]; decide)]
            · go_wp2_with (simp only [hsl])
              go_round
              case rel => exact ⟨u.extract 0 (u.size - 1), rfl, by rw [ByteArray.size_extract]; omega, by rw [HU.out, HC.out, Tp.trimR_snoc, if_pos (by exact HV.out)]⟩
              case measure => simp; omega
          · go_wp2
            go_ret
            have hu0 : u.data.toList = [] := nil_of_size h0'
            refine ⟨ret_str (ba_eq ?_), rfl⟩
            unfold Tp.trim
            rw [HL.out, HU.out, hu0]
            rfl
      · go_wp2
        go_round
        case rel => exact ⟨t.extract 1 t.size, rfl, by rw [ByteArray.size_extract]; omega, by rw [HT.out, HC.out, Tp.trimL_cons, if_pos (by exact HV.out)]⟩
        case measure => simp; omega
    · have ht0 : t.data.toList = [] := nil_of_size h0
      have HL := Lib.hid (show Tp.trimL s.data.toList = t.data.toList by rw [HT.out, ht0]; rfl)
      clear ht0
      go_wp2_with fail
      clear h0 HT
      go_loop [0] (fun v => ∃ u : ByteArray, v = .string u ∧ u.size ≤ 9223372036854775807 ∧ Tp.trimR t.data.toList = Tp.trimR u.data.toList) (fun v => match v with | .string u => u.size | _ => 0)
      case atStart => exact ⟨t, rfl, ht, rfl⟩
      case round =>
        clear ht
        obtain ⟨u, rfl, hu, hur⟩ := hrel
        have HU := Lib.hid hur
        clear hur
        by_cases h0' : 0 < u.size
        · have D := Lib.hid (rtk_blank ((u[u.size - 1]).toNat : Int) w (by omega) (by have := (u[u.size - 1]).toNat_lt; omega))
          have HC := Lib.hid (last_split u h0')
          have hsl := fun wx => slice_head u wx h0' hu
          have hi1 : u.size - 1 < u.size := by omega
          have hin := fun wx => index_last u wx h0' hu
          go_wp2_with (first | simp only [hin] | fail)
          refine D.out.mono ?_
          rintro e w' ⟨rfl, rfl⟩
          obtain ⟨v, hv⟩ : ∃ v, Tp.blank ((u[u.size - 1]).toNat : Int) = v := ⟨_, rfl⟩
          rw [hv]
          have HV := Lib.hid hv
          clear hv
          cases v
          · go_wp2
            go_ret
            refine ⟨ret_str (ba_eq ?_), rfl⟩
            unfold Tp.trim
            rw [HL.out, HU.out, HC.out, Tp.trimR_snoc, if_neg (by rw [show Tp.blankB _ = false from HV.out]; decide)]
          · go_wp2_with (simp only [hsl])
            go_round
            case rel => exact ⟨u.extract 0 (u.size - 1), rfl, by rw [ByteArray.size_extract]; omega, by rw [HU.out, HC.out, Tp.trimR_snoc, if_pos (by exact HV.out)]⟩
            case measure => simp; omega
        · go_wp2
          go_ret
          have hu0 : u.data.toList = [] := nil_of_size h0'
          refine ⟨ret_str (ba_eq ?_), rfl⟩
          unfold Tp.trim
          rw [HL.out, HU.out, hu0]
          rfl
end Go.Proofs.YthfdnlcalefjeaaDoor

/- Whether a text is a token or a value, and its small letters, the program's and the reference's, are those of the text Tq. Texts have at most 1000000 bytes. -/
namespace Go.Proofs.YthfdnlcalefjeaaDoor
set_option linter.unusedVariables false
set_option linter.unusedSimpArgs false
open Go.RowKit Go.Shelf
set_option maxHeartbeats 1000000
theorem tok_classes (w : World) :
    Calls Tryd.prog 71 #[] w fun e w' => e = .returned (.agg #[.func (.func 85) #[] #[], .func (.func 87) #[] #[]]) ∧ Below w.heap.size w w' := by
  go_enter Tryd.func71, Tryd.ntmps71
  go_wp2
  refine bodyPost_ret (v := .agg #[.func (.func 85) #[] #[], .func (.func 87) #[] #[]]) (by simp [results, Tryd.results71, go_sem]) rfl ⟨rfl, (Below.refl _ _).alloc (Nat.le_refl _) _⟩
theorem classes_0 (w : World) : (Instr.index 129 (.agg #[.func (.func 85) #[] #[], .func (.func 87) #[] #[]]) (.int .i64 0)).run Tryd.prog w = .ok (.func (.func 85) #[] #[]) w := by kernel_rfl
theorem classes_1 (w : World) : (Instr.index 129 (.agg #[.func (.func 85) #[] #[], .func (.func 87) #[] #[]]) (.int .i64 1)).run Tryd.prog w = .ok (.func (.func 87) #[] #[]) w := by kernel_rfl
theorem beq_bytes (s : ByteArray) (l : List UInt8) : (((⟨l.toArray⟩ : ByteArray).toList == s.toList)) = (l == s.data.toList) := by
  rw [ByteArray.toList_eq, ByteArray.toList_eq]
theorem tok_token (s : ByteArray) (w : World) (hs : s.size ≤ 9223372036854775807) :
    Calls Tryd.prog 58 #[.string s] w fun e w' => e = .returned (.bool (Tp.isTok s.data.toList)) ∧ Below w.heap.size w w' := by
  have K := Lib.hid (fun W => tok_all 85 Tp.tokB (.inl rfl) cls0 s W hs)
  have i0 := classes_0
  by_cases h0 : s.data.toList.isEmpty = true
  · have HR := Lib.hid (show Tp.isTok s.data.toList = false by unfold Tp.isTok; rw [h0]; rfl)
    have h1 : s.toList.isEmpty = true := by rw [ByteArray.toList_eq]; exact h0
    go_enter Tryd.func58, Tryd.ntmps58
    go_wp2_with fail
    go_ret
    exact ⟨ret_bool HR.out.symm, Below.refl _ _⟩
  · have h0' : s.data.toList.isEmpty = false := by simpa using h0
    have HR := Lib.hid (show Tp.isTok s.data.toList = Tp.allT Tp.tokB s.data.toList by unfold Tp.isTok; rw [h0']; rfl)
    have h1 : s.toList.isEmpty = false := by rw [ByteArray.toList_eq]; exact h0'
    clear h0
    go_enter Tryd.func58, Tryd.ntmps58
    go_wp2_with fail
    refine (tok_classes _).mono ?_
    rintro e w1 ⟨rfl, hb⟩
    go_wp2_with fail
    refine (K.out _).mono ?_
    rintro e w2 ⟨rfl, hb2⟩
    go_wp2
    go_ret
    exact ⟨ret_bool HR.out.symm, hb.trans (hb2.mono hb.size)⟩
theorem tok_value (s : ByteArray) (w : World) (hs : s.size ≤ 9223372036854775807) :
    Calls Tryd.prog 57 #[.string s] w fun e w' => e = .returned (.bool (Tp.isVal s.data.toList)) ∧ Below w.heap.size w w' := by
  have K := Lib.hid (fun W => tok_all 87 Tp.valB (.inr rfl) cls1 s W hs)
  have T := Lib.hid (fun W => tok_trim s W hs)
  have i1 := classes_1
  go_enter Tryd.func57, Tryd.ntmps57
  go_wp2_with fail
  refine (T.out _).mono ?_
  rintro e w1 ⟨rfl, hb⟩
  obtain ⟨t, ht⟩ : ∃ t : ByteArray, (⟨(Tp.trim s.data.toList).toArray⟩ : ByteArray) = t := ⟨_, rfl⟩
  rw [ht]
  have hq : (t.toList == s.toList) = (Tp.trim s.data.toList == s.data.toList) := by rw [← ht]; exact beq_bytes s _
  obtain ⟨d, hd⟩ : ∃ d, (Tp.trim s.data.toList == s.data.toList) = d := ⟨_, rfl⟩
  have HD := Lib.hid hd
  rw [hd] at hq
  clear hd ht
  cases d
  · go_wp2_with fail
    go_ret
    exact ⟨ret_bool (by unfold Tp.isVal; rw [HD.out]; rfl), hb⟩
  · go_wp2_with fail
    refine (tok_classes _).mono ?_
    rintro e w2 ⟨rfl, hb2⟩
    go_wp2_with fail
    refine (K.out _).mono ?_
    rintro e w3 ⟨rfl, hb3⟩
    go_wp2
    go_ret
    exact ⟨ret_bool (by unfold Tp.isVal; rw [HD.out]; rfl), hb.trans ((hb2.mono hb.size).trans (hb3.mono (hb.trans (hb2.mono hb.size)).size))⟩
end Go.Proofs.YthfdnlcalefjeaaDoor

/- Values and small letters, the reference's and the program's. Texts have a length that Go knows. -/
namespace Go.Proofs.YthfdnlcalefjeaaDoor
set_option linter.unusedVariables false
set_option linter.unusedSimpArgs false
open Go.RowKit Go.Shelf
set_option maxHeartbeats 1000000
/-- the row of a text's bytes, of which the first k are in small letters -/
def lowF (l : List UInt8) (k j : Nat) : Int := if j < k then Tp.lowB ((l.getD j 0).toNat : Int) else ((l.getD j 0).toNat : Int)
def LowRow (w : World) (B n : Nat) (l : List UInt8) (k : Nat) : Prop := ∀ j, j < n → w.cell? ⟨B, j, none⟩ = some (.int .u8 (lowF l k j)) ∧ w.frozen? ⟨B, j, none⟩ = false
theorem lowRow_start (w : World) (s : ByteArray) (B : Nat) (hB : w.heap.size = B) : LowRow (Lib.bytesWorld w 5 s) B s.size s.data.toList 0 := by
  subst hB
  intro j hj
  refine ⟨?_, ?_⟩
  · rw [Lib.bytesWorld_cell w 5 s j hj]; rfl
  · unfold World.frozen?
    rw [show (⟨w.heap.size, j, none⟩ : Addr).block = w.heap.size from rfl, Lib.bytesWorld_at_new]
    have : j < (Lib.bytesCells w 5 s).size := by simp [Lib.bytesCells]; omega
    simp
    omega
theorem lowRow_keep {w : World} {B n : Nat} {l : List UInt8} {k : Nat} (h : LowRow w B n l k) (hc : Tp.lowB ((l.getD k 0).toNat : Int) = ((l.getD k 0).toNat : Int)) : LowRow w B n l (k + 1) := by
  intro j hj
  refine ⟨?_, (h j hj).2⟩
  rw [(h j hj).1]
  unfold lowF
  by_cases hjk : j = k
  · subst hjk; rw [if_neg (by omega), if_pos (by omega), hc]
  · by_cases h2 : j < k
    · rw [if_pos h2, if_pos (by omega)]
    · rw [if_neg h2, if_neg (by omega)]
theorem lowRow_set {w : World} {B n : Nat} {l : List UInt8} {k : Nat} {x : Int} (h : LowRow w B n l k) (hk : k < n) (hc : Tp.lowB ((l.getD k 0).toNat : Int) = x) : LowRow (w.setCell ⟨B, k, none⟩ (.int .u8 x)) B n l (k + 1) := by
  intro j hj
  refine ⟨?_, by rw [World.frozen?_setCell]; exact (h j hj).2⟩
  by_cases hjk : j = k
  · subst hjk
    rw [World.cell?_setCell_same _ _ _ (h j hj).1]
    unfold lowF
    rw [if_pos (by omega), hc]
  · rw [World.cell?_setCell_other _ _ _ _ (by intro e; cases e; exact hjk rfl), (h j hj).1]
    unfold lowF
    by_cases h2 : j < k
    · rw [if_pos h2, if_pos (by omega)]
    · rw [if_neg h2, if_neg (by omega)]
theorem low_back {w : World} {B cap : Nat} {s : ByteArray} (h : LowRow w B s.size s.data.toList s.size) :
    (convert 26 9 (.slice (some ⟨B, 0, none⟩) s.size cap)).run Tryd.prog w = .ok (.string ⟨(Tp.lower s.data.toList).toArray⟩) w := by
  have hl : (Tp.lower s.data.toList).length = s.size := by unfold Tp.lower; rw [List.length_map]; rfl
  have := run_convert_bytes_back (P := Tryd.prog) w 26 9 5 ⟨B, 0, none⟩ cap (Tp.lower s.data.toList) Tryd.underlying26 Tryd.underlying5 Tryd.underlying9 (fun j hj => by
    have hadd : (⟨B, 0, none⟩ : Addr).add j = ⟨B, j, none⟩ := by simp [Addr.add]; exact fun e => e.symm
    rw [hadd, (h j (by omega)).1]
    unfold lowF
    rw [if_pos (by omega)]
    have hj' : j < s.data.toList.length := by simpa [Tp.lower] using hj
    have : (Tp.lower s.data.toList)[j] = UInt8.ofNat (Tp.lowB ((s.data.toList.getD j 0).toNat : Int)).toNat := by
      rw [show s.data.toList.getD j 0 = s.data.toList[j] by simp [List.getD_eq_getElem?_getD, List.getElem?_eq_getElem hj']]
      exact List.getElem_map _
    rw [this, Tp.lower_at])
  rw [hl] at this
  exact this
theorem tok_lower (s : ByteArray) (w : World) (hs : s.size ≤ 9223372036854775807) :
    Calls Tryd.prog 31 #[.string s] w fun e w' => e = .returned (.string ⟨(Tp.lower s.data.toList).toArray⟩) ∧ Below w.heap.size w w' := by
  have hcv := fun (W : World) (s : ByteArray) => Lib.run_convert_string_bytes (P := Tryd.prog) W 9 26 5 s Tryd.underlying9 Tryd.underlying26 Tryd.underlying5
  go_enter Tryd.func31, Tryd.ntmps31
  go_wp2_with fail
  clear hcv
  have hB : w.heap.size ≤ w.heap.size := Nat.le_refl _
  have hst := Lib.hid (lowRow_start w s w.heap.size rfl)
  have hbw := Lib.hid (below_bytesWorld w.heap.size w 5 s (Nat.le_refl _))
  obtain ⟨cap, hcap⟩ : ∃ c, grownCap w s.size 0 5 = c := ⟨_, rfl⟩
  simp only [hcap]
  go_loopw [4, 5, 10] (fun _ _ i wr => ∃ k : Nat, k ≤ s.size ∧ i = .int .i64 k ∧ Below w.heap.size w wr ∧ LowRow wr w.heap.size s.size s.data.toList k) (fun _ _ i _ => s.size - (intOf i).toNat)
  case atStart => exact ⟨0, Nat.zero_le _, rfl, hbw.out, hst.out⟩
  case round =>
    clear hst hbw
    obtain ⟨k, hk, rfl, hb, hrow⟩ := hrel
    have HB := Lib.hid hb
    have HR := Lib.hid hrow
    clear hrow hb
    by_cases hlt : k < s.size
    · have hc := (HR.out k hlt).1
      have hf := (HR.out k hlt).2
      have hcur : lowF s.data.toList k k = ((s.data.toList.getD k 0).toNat : Int) := if_neg (Nat.lt_irrefl k)
      rw [hcur] at hc
      clear hcur
      have hr1 : (0 : Int) ≤ ((s.data.toList.getD k 0).toNat : Int) := by omega
      have hr2 : ((s.data.toList.getD k 0).toNat : Int) < 256 := by have := (s.data.toList.getD k 0).toNat_lt; omega
      have HS := Lib.hid (fun x => lowRow_set (x := x) HR.out hlt)
      have HK := Lib.hid (lowRow_keep HR.out)
      obtain ⟨c, hcc⟩ : ∃ c : Int, ((s.data.toList.getD k 0).toNat : Int) = c := ⟨_, rfl⟩
      rw [hcc] at hc hr1 hr2 HS HK
      clear hcc HR
      by_cases hcap : 65 ≤ c ∧ c ≤ 90
      · obtain ⟨h1, h2⟩ := hcap
        have HL := Lib.hid (show Tp.lowB c = c + 97 - 65 by unfold Tp.lowB; rw [if_pos ⟨h1, h2⟩]; omega)
        go_wp2
        go_roundw
        case rel => exact ⟨k + 1, by omega, by go_num, HB.out.setCell (Nat.le_refl _) _, HS.out _ HL.out⟩
        case measure => simp [intOf]; omega
      · have HL := Lib.hid (show Tp.lowB c = c by unfold Tp.lowB; rw [if_neg hcap])
        by_cases h1 : 65 ≤ c
        · have h2 : ¬ c ≤ 90 := fun h => hcap ⟨h1, h⟩
          clear hcap
          go_wp2
          go_roundw
          case rel => exact ⟨k + 1, by omega, by go_num, HB.out, HK.out HL.out⟩
          case measure => simp [intOf]; omega
        · clear hcap
          go_wp2
          go_roundw
          case rel => exact ⟨k + 1, by omega, by go_num, HB.out, HK.out HL.out⟩
          case measure => simp [intOf]; omega
    · have hks : k = s.size := by omega
      subst hks
      have hlb := low_back (cap := cap) HR.out
      go_wp2_with (simp only [hlb])
      go_ret
      exact ⟨rfl, HB.out⟩
theorem rtk_lower (s : ByteArray) (w : World) (hs : s.size ≤ 9223372036854775807) :
    Calls Tryd.prog 33 #[.string s] w fun e w' => e = .returned (.string ⟨(Tp.lower s.data.toList).toArray⟩) ∧ Below w.heap.size w w' := by
  have hcv := fun (W : World) (s : ByteArray) => Lib.run_convert_string_bytes (P := Tryd.prog) W 9 26 5 s Tryd.underlying9 Tryd.underlying26 Tryd.underlying5
  go_enter Tryd.func33, Tryd.ntmps33
  go_wp2_with fail
  clear hcv
  have hB : w.heap.size ≤ w.heap.size := Nat.le_refl _
  have hst := Lib.hid (lowRow_start w s w.heap.size rfl)
  have hbw := Lib.hid (below_bytesWorld w.heap.size w 5 s (Nat.le_refl _))
  obtain ⟨cap, hcap⟩ : ∃ c, grownCap w s.size 0 5 = c := ⟨_, rfl⟩
  simp only [hcap]
  go_loopw [4] (fun i wr => ∃ k : Nat, k ≤ s.size ∧ i = .int .i64 k ∧ Below w.heap.size w wr ∧ LowRow wr w.heap.size s.size s.data.toList k) (fun i _ => s.size - (intOf i).toNat)
  case atStart => exact ⟨0, Nat.zero_le _, rfl, hbw.out, hst.out⟩
  case round =>
    clear hst hbw
    obtain ⟨k, hk, rfl, hb, hrow⟩ := hrel
    have HB := Lib.hid hb
    have HR := Lib.hid hrow
    clear hrow hb
    by_cases hlt : k < s.size
    · have hc := (HR.out k hlt).1
      have hf := (HR.out k hlt).2
      have hcur : lowF s.data.toList k k = ((s.data.toList.getD k 0).toNat : Int) := if_neg (Nat.lt_irrefl k)
      rw [hcur] at hc
      clear hcur
      have hr1 : (0 : Int) ≤ ((s.data.toList.getD k 0).toNat : Int) := by omega
      have hr2 : ((s.data.toList.getD k 0).toNat : Int) < 256 := by have := (s.data.toList.getD k 0).toNat_lt; omega
      have HS := Lib.hid (fun x => lowRow_set (x := x) HR.out hlt)
      have HK := Lib.hid (lowRow_keep HR.out)
      obtain ⟨c, hcc⟩ : ∃ c : Int, ((s.data.toList.getD k 0).toNat : Int) = c := ⟨_, rfl⟩
      rw [hcc] at hc hr1 hr2 HS HK
      clear hcc HR
      by_cases hcap : 65 ≤ c ∧ c ≤ 90
      · obtain ⟨h1, h2⟩ := hcap
        have HL := Lib.hid (show Tp.lowB c = c + 32 by unfold Tp.lowB; rw [if_pos ⟨h1, h2⟩])
        go_wp2
        go_roundw
        case rel => exact ⟨k + 1, by omega, by go_num, HB.out.setCell (Nat.le_refl _) _, HS.out _ HL.out⟩
        case measure => simp [intOf]; omega
      · have HL := Lib.hid (show Tp.lowB c = c by unfold Tp.lowB; rw [if_neg hcap])
        by_cases h1 : 65 ≤ c
        · have h2 : ¬ c ≤ 90 := fun h => hcap ⟨h1, h⟩
          clear hcap
          go_wp2
          go_roundw
          case rel => exact ⟨k + 1, by omega, by go_num, HB.out, HK.out HL.out⟩
          case measure => simp [intOf]; omega
        · clear hcap
          go_wp2
          go_roundw
          case rel => exact ⟨k + 1, by omega, by go_num, HB.out, HK.out HL.out⟩
          case measure => simp [intOf]; omega
    · have hks : k = s.size := by omega
      subst hks
      have hlb := low_back (cap := cap) HR.out
      go_wp2_with (simp only [hlb])
      go_ret
      exact ⟨rfl, HB.out⟩
end Go.Proofs.YthfdnlcalefjeaaDoor

/- answer: the statuses; the reason of a status. -/
namespace Go.Proofs.YthfdnlcalefjeaaDoor
set_option linter.unusedVariables false
set_option linter.unusedSimpArgs false
open Go.RowKit Go.Shelf
set_option maxHeartbeats 4000000
set_option maxRecDepth 100000
namespace Hp
def sx (l : List UInt8) : Value := .string ⟨l.toArray⟩
def stCells : List Value := stats.flatMap fun s => [.int .i64 s.1, sx s.2]
def st (j : Nat) : Int × List UInt8 := stats.getD j (0, [])
end Hp
theorem ans_statuses (w : World) : Calls Tryd.prog 25 #[] w fun e w' => e = .returned (.agg Hp.stCells.toArray) ∧ Below w.heap.size w w' := by
  obtain ⟨W1, hW1⟩ : ∃ Z, w.alloc (.cells Hp.stCells.toArray 62) = Z := ⟨_, rfl⟩
  have HB := Lib.hid (show Below w.heap.size w W1 by rw [← hW1]; exact (Below.refl _ _).alloc (Nat.le_refl _) _)
  have hA : W1.heap[w.heap.size]? = some (.cells Hp.stCells.toArray 62 (0, 0)) := by
    rw [← hW1]; exact World.alloc_heap_new _ _
  go_enter Tryd.func25, Tryd.ntmps25
  go_wp2_with fail
  rw [show (#[.int .i64 200, .string ⟨#[79, 75]⟩, .int .i64 400, .string ⟨#[66, 97, 100, 32, 82, 101, 113, 117, 101, 115, 116]⟩, .int .i64 404, .string ⟨#[78, 111, 116, 32, 70, 111, 117, 110, 100]⟩, .int .i64 405, .string ⟨#[77, 101, 116, 104, 111, 100, 32, 78, 111, 116, 32, 65, 108, 108, 111, 119, 101, 100]⟩, .int .i64 406, .string ⟨#[78, 111, 116, 32, 65, 99, 99, 101, 112, 116, 97, 98, 108, 101]⟩, .int .i64 431, .string ⟨#[82, 101, 113, 117, 101, 115, 116, 32, 72, 101, 97, 100, 101, 114, 32, 70, 105, 101, 108, 100, 115, 32, 84, 111, 111, 32, 76, 97, 114, 103, 101]⟩, .int .i64 503, .string ⟨#[83, 101, 114, 118, 105, 99, 101, 32, 85, 110, 97, 118, 97, 105, 108, 97, 98, 108, 101]⟩, .int .i64 505, .string ⟨#[72, 84, 84, 80, 32, 86, 101, 114, 115, 105, 111, 110, 32, 78, 111, 116, 32, 83, 117, 112, 112, 111, 114, 116, 101, 100]⟩] : Array Value) = Hp.stCells.toArray from rfl, hW1]
  have c0 : W1.cell? ⟨w.heap.size, 0, none⟩ = some (.int .i64 200) := by simp [World.cell?, hA]; rfl
  have c1 : W1.cell? ⟨w.heap.size, 1, none⟩ = some (.string ⟨#[79, 75]⟩) := by simp [World.cell?, hA]; rfl
  have c2 : W1.cell? ⟨w.heap.size, 2, none⟩ = some (.int .i64 400) := by simp [World.cell?, hA]; rfl
  have c3 : W1.cell? ⟨w.heap.size, 3, none⟩ = some (.string ⟨#[66, 97, 100, 32, 82, 101, 113, 117, 101, 115, 116]⟩) := by simp [World.cell?, hA]; rfl
  have c4 : W1.cell? ⟨w.heap.size, 4, none⟩ = some (.int .i64 404) := by simp [World.cell?, hA]; rfl
  have c5 : W1.cell? ⟨w.heap.size, 5, none⟩ = some (.string ⟨#[78, 111, 116, 32, 70, 111, 117, 110, 100]⟩) := by simp [World.cell?, hA]; rfl
  have c6 : W1.cell? ⟨w.heap.size, 6, none⟩ = some (.int .i64 405) := by simp [World.cell?, hA]; rfl
  have c7 : W1.cell? ⟨w.heap.size, 7, none⟩ = some (.string ⟨#[77, 101, 116, 104, 111, 100, 32, 78, 111, 116, 32, 65, 108, 108, 111, 119, 101, 100]⟩) := by simp [World.cell?, hA]; rfl
  have c8 : W1.cell? ⟨w.heap.size, 8, none⟩ = some (.int .i64 406) := by simp [World.cell?, hA]; rfl
  have c9 : W1.cell? ⟨w.heap.size, 9, none⟩ = some (.string ⟨#[78, 111, 116, 32, 65, 99, 99, 101, 112, 116, 97, 98, 108, 101]⟩) := by simp [World.cell?, hA]; rfl
  have c10 : W1.cell? ⟨w.heap.size, 10, none⟩ = some (.int .i64 431) := by simp [World.cell?, hA]; rfl
  have c11 : W1.cell? ⟨w.heap.size, 11, none⟩ = some (.string ⟨#[82, 101, 113, 117, 101, 115, 116, 32, 72, 101, 97, 100, 101, 114, 32, 70, 105, 101, 108, 100, 115, 32, 84, 111, 111, 32, 76, 97, 114, 103, 101]⟩) := by simp [World.cell?, hA]; rfl
  have c12 : W1.cell? ⟨w.heap.size, 12, none⟩ = some (.int .i64 503) := by simp [World.cell?, hA]; rfl
  have c13 : W1.cell? ⟨w.heap.size, 13, none⟩ = some (.string ⟨#[83, 101, 114, 118, 105, 99, 101, 32, 85, 110, 97, 118, 97, 105, 108, 97, 98, 108, 101]⟩) := by simp [World.cell?, hA]; rfl
  have c14 : W1.cell? ⟨w.heap.size, 14, none⟩ = some (.int .i64 505) := by simp [World.cell?, hA]; rfl
  have c15 : W1.cell? ⟨w.heap.size, 15, none⟩ = some (.string ⟨#[72, 84, 84, 80, 32, 86, 101, 114, 115, 105, 111, 110, 32, 78, 111, 116, 32, 83, 117, 112, 112, 111, 114, 116, 101, 100]⟩) := by simp [World.cell?, hA]; rfl
  exact bodyPost_ret (by simp [results, Tryd.results25, go_sem, c0, c1, c2, c3, c4, c5, c6, c7, c8, c9, c10, c11, c12, c13, c14, c15]; rfl) rfl ⟨rfl, HB.out⟩
theorem ans_reason1 (a n : Int) (r : ByteArray) (NB : Nat) (w : World) (hn : w.cell? ⟨NB, 0, none⟩ = some (.int .i64 n)) :
    Calls Tryd.prog 27 #[.agg #[.int .i64 a, .string r], .pointer (some ⟨NB, 0, none⟩)] w fun e w' => e = .returned (.bool (a == n)) ∧ Below w.heap.size w w' := by
  have hlt := lt_of_cell hn
  have hn2 : (w.alloc (.cells #[.int .i64 a, .string r] 61)).cell? ⟨NB, 0, none⟩ = some (.int .i64 n) := by
    rw [Below.cell ((Below.refl w.heap.size w).alloc (Nat.le_refl _) _) hlt]; exact hn
  have HB := Lib.hid ((Below.refl w.heap.size w).alloc (Nat.le_refl _) (.cells #[.int .i64 a, .string r] 61))
  go_enter Tryd.func27, Tryd.ntmps27
  go_wp2_with fail
  go_ret
  exact ⟨rfl, HB.out⟩
theorem rea1_enter (args : Array Value) (W : World) : (callFunc 27 args).run Tryd.prog W = .ok (.enter 27 args) W := by
  simp [callFunc, go_sem, Tryd.func27]
  rw [if_neg (by decide), if_neg (by decide)]
namespace Hp
/-- a status is none of the first k -/
def NoS (n : Int) (k : Nat) : Prop := ∀ s ∈ stats.take k, s.1 ≠ n
theorem noS_next {n : Int} {k : Nat} (h : NoS n k) (hk : k < 8) (hn : (st k).1 ≠ n) : NoS n (k + 1) := by
  intro s hs
  rw [List.take_succ_eq_append_getElem (show k < stats.length from hk), List.mem_append, List.mem_singleton] at hs
  rcases hs with hs | rfl
  · exact h s hs
  · have : st k = stats[k]'hk := by unfold st; rw [List.getD_eq_getElem?_getD, List.getElem?_eq_getElem (show k < stats.length from hk)]; rfl
    rw [this] at hn
    exact hn
theorem noS_end {n : Int} (h : NoS n 8) : reason n = none := by
  unfold reason
  rw [List.find?_eq_none.2 (fun s hs => by
    have := h s (by rwa [List.take_of_length_le (by decide)])
    simpa using this)]
  rfl
theorem noS_hit {n : Int} {k : Nat} (h : NoS n k) (hk : k < 8) (hn : (st k).1 = n) : reason n = some (st k).2 := by
  have hk' : k < stats.length := hk
  have e : st k = stats[k]'hk' := by unfold st; rw [List.getD_eq_getElem?_getD, List.getElem?_eq_getElem hk']; rfl
  unfold reason
  rw [List.find?_eq_some_iff_append.2 ⟨by rw [hn]; simp, stats.take k, stats.drop (k + 1), by rw [e, ← List.drop_eq_getElem_cons hk', List.take_append_drop], fun s hs => by simpa using h s hs⟩]
  rfl
end Hp
/-- the statuses in a block -/
def StAt (w : World) (S o : Nat) : Prop := ∀ j, j < 8 → w.cell? ⟨S, o + j * 2, none⟩ = some (.int .i64 (Hp.st j).1) ∧ w.cell? ⟨S, o + j * 2 + 1, none⟩ = some (Hp.sx (Hp.st j).2)
theorem StAt.below {w w' : World} {S o B : Nat} (h : StAt w S o) (hb : Below B w w') (hS : S < B) : StAt w' S o :=
  fun j hj => ⟨(hb.cell (p := ⟨S, o + j * 2, none⟩) hS).trans (h j hj).1, (hb.cell (p := ⟨S, o + j * 2 + 1, none⟩) hS).trans (h j hj).2⟩
theorem ans_index (n : Int) (NB S o c : Nat) (w : World) (hn : w.cell? ⟨NB, 0, none⟩ = some (.int .i64 n)) (hS : StAt w S o) :
    Calls Tryd.prog 39 #[.slice (some ⟨S, o, none⟩) 8 c, .func (.func 27) #[] #[.pointer (some ⟨NB, 0, none⟩)]] w fun e w' =>
      Below w.heap.size w w' ∧ ((∃ k : Nat, k < 8 ∧ e = .returned (.int .i64 k) ∧ Hp.reason n = some (Hp.st k).2) ∨ (e = .returned (.int .i64 (-1)) ∧ Hp.reason n = none)) := by
  have hce := rea1_enter
  have HSS := Lib.hid hS
  have HNB := Lib.hid hn
  have HSL := Lib.hid (lt_of_cell (hS 0 (by omega)).1)
  have HNL := Lib.hid (lt_of_cell hn)
  clear hS hn
  go_enter Tryd.func39, Tryd.ntmps39
  go_wp2_with fail
  go_loopw [8] (fun i wr => ∃ k : Nat, k ≤ 8 ∧ i = .int .i64 k ∧ Hp.NoS n k ∧ Below w.heap.size w wr) (fun i _ => 8 - (intOf i).toNat)
  case atStart => exact ⟨0, Nat.zero_le _, rfl, fun s hs => by simp at hs, Below.refl _ _⟩
  case round =>
    obtain ⟨k, hk, rfl, hall, hbl⟩ := hrel
    have HA := Lib.hid hall
    have HB := Lib.hid hbl
    clear hall hbl
    by_cases hlt : k < 8
    · obtain ⟨hc1, hc2⟩ := HSS.out.below HB.out HSL.out k hlt
      unfold Hp.sx at hc2
      obtain ⟨a, ha⟩ : ∃ a, (Hp.st k).1 = a := ⟨_, rfl⟩
      obtain ⟨r, hr⟩ : ∃ r : ByteArray, (⟨(Hp.st k).2.toArray⟩ : ByteArray) = r := ⟨_, rfl⟩
      rw [ha] at hc1
      rw [hr] at hc2
      have HAA := Lib.hid ha
      have K := Lib.hid (ans_reason1 a n r NB wr ((HB.out.cell (p := ⟨NB, 0, none⟩) HNL.out).trans HNB.out))
      clear ha hr
      by_cases he : a = n
      · have HR := Lib.hid (Hp.noS_hit HA.out hlt (HAA.out.trans he))
        have e1 : (a == n) = true := beq_iff_eq.2 he
        rw [e1] at K
        clear he e1
        go_wp2_with fail
        refine K.out.mono ?_
        rintro e w2 ⟨rfl, hb2⟩
        have HB2 := Lib.hid (HB.out.trans (hb2.mono HB.out.size))
        clear hb2
        go_wp2
        go_ret
        exact ⟨HB2.out, .inl ⟨k, hlt, rfl, HR.out⟩⟩
      · have HN := Lib.hid (Hp.noS_next HA.out hlt (by rw [HAA.out]; exact he))
        have e1 : (a == n) = false := beq_eq_false_iff_ne.2 he
        rw [e1] at K
        clear he e1
        go_wp2_with fail
        refine K.out.mono ?_
        rintro e w2 ⟨rfl, hb2⟩
        have HB2 := Lib.hid (HB.out.trans (hb2.mono HB.out.size))
        clear hb2
        go_wp2
        go_roundw
        case rel => exact ⟨k + 1, by omega, by go_num, HN.out, HB2.out⟩
        case measure => simp [intOf]; omega
    · have HF := Lib.hid (Hp.noS_end (n := n) (by have := HA.out; rwa [show k = 8 by omega] at this))
      go_wp2_with fail
      go_ret
      exact ⟨HB.out, .inr ⟨rfl, HF.out⟩⟩
theorem ans_sought (n : Int) (NB S o c : Nat) (w : World) (hn : w.cell? ⟨NB, 0, none⟩ = some (.int .i64 n)) (hS : StAt w S o) :
    Calls Tryd.prog 26 #[.slice (some ⟨S, o, none⟩) 8 c, .func (.func 27) #[] #[.pointer (some ⟨NB, 0, none⟩)]] w fun e w' =>
      Below w.heap.size w w' ∧ ((∃ r a, Hp.reason n = some r ∧ e = .returned (.tuple #[.agg #[.int .i64 a, Hp.sx r], .bool true])) ∨ (Hp.reason n = none ∧ e = .returned (.tuple #[.agg #[.int .i64 0, .string ⟨#[]⟩], .bool false]))) := by
  have hce := rea1_enter
  have HSL := Lib.hid (lt_of_cell (hS 0 (by omega)).1)
  obtain ⟨B, hB⟩ : ∃ B, w.heap.size = B := ⟨_, rfl⟩
  obtain ⟨W1, hW1⟩ : ∃ Z, w.alloc (.cells #[.int .i64 0, .string ⟨#[]⟩] 61) = Z := ⟨_, rfl⟩
  have HB1 := Lib.hid (show Below B w W1 by rw [← hW1, ← hB]; exact (Below.refl _ _).alloc (Nat.le_refl _) _)
  have HG1 := Lib.hid (show W1.heap[B]? = some (.cells #[.int .i64 0, .string ⟨#[]⟩] 61 (0, 0)) by rw [← hW1, ← hB]; exact World.alloc_heap_new _ _)
  have HZ1 := Lib.hid (show W1.heap.size = B + 1 by rw [← hW1, ← hB]; simp)
  have HS1 := Lib.hid (hS.below HB1.out (by rw [← hB]; exact HSL.out))
  have KI := Lib.hid (ans_index n NB S o c W1 ((HB1.out.cell (p := ⟨NB, 0, none⟩) (by rw [← hB]; exact lt_of_cell hn)).trans hn) HS1.out)
  have HSB := Lib.hid (show S < B by rw [← hB]; exact HSL.out)
  have HW := Lib.hid hW1
  have HBB := Lib.hid hB
  clear hn hS hW1 hB
  go_enter Tryd.func26, Tryd.ntmps26
  go_wp2_with fail
  rw [HW.out, HBB.out]
  refine KI.out.mono ?_
  rintro e w2 ⟨hb2, hout⟩
  have HB2 := Lib.hid hb2
  have hg2 := (HB2.out.block B (by rw [HZ1.out]; omega)).trans HG1.out
  have c0 : w2.cell? ⟨B, 0, none⟩ = some (.int .i64 0) := by simp [World.cell?, hg2]
  have c1 : w2.cell? ⟨B, 1, none⟩ = some (.string ⟨#[]⟩) := by simp [World.cell?, hg2]
  have c2 : ∀ v, (w2.setCell ⟨B, 0, none⟩ v).cell? ⟨B, 1, none⟩ = some (.string ⟨#[]⟩) := fun v => by rw [World.cell?_setCell_other]; exact c1; simp
  have z0 : w2.frozen? ⟨B, 0, none⟩ = false := frozen_of_row _ _ _ _ _ hg2
  have z1 : w2.frozen? ⟨B, 1, none⟩ = false := frozen_of_row _ _ _ _ _ hg2
  have HG2 := Lib.hid hg2
  clear hb2 hg2
  rcases hout with ⟨k, hk, rfl, hr⟩ | ⟨rfl, hr⟩
  · obtain ⟨hc1, hc2⟩ := HS1.out.below HB2.out (by rw [HZ1.out]; have := HSB.out; omega) k hk
    obtain ⟨a, ha⟩ : ∃ a, (Hp.st k).1 = a := ⟨_, rfl⟩
    unfold Hp.sx at hc2
    obtain ⟨r, hr2⟩ : ∃ r : ByteArray, (⟨(Hp.st k).2.toArray⟩ : ByteArray) = r := ⟨_, rfl⟩
    rw [ha] at hc1
    rw [hr2] at hc2
    have HR := Lib.hid hr
    have HR2 := Lib.hid hr2
    clear hr ha hr2
    go_wp2_with fail
    obtain ⟨W3, hW3⟩ : ∃ Z, (w2.setCell ⟨B, 0, none⟩ (.int .i64 a)).setCell ⟨B, 1, none⟩ (.string r) = Z := ⟨_, rfl⟩
    rw [hW3]
    have hg3 : W3.heap[B]? = some (.cells #[.int .i64 a, .string r] 61 (0, 0)) := by
      rw [← hW3]; exact heap_setCell_same _ _ 1 _ _ _ (heap_setCell_same _ _ 0 _ _ _ HG2.out)
    have hb3 : Below B w W3 := by rw [← hW3]; exact ((HB1.out.trans (HB2.out.mono (by rw [HZ1.out]; omega))).setCell (p := ⟨B, 0, none⟩) (Nat.le_refl _) _).setCell (p := ⟨B, 1, none⟩) (Nat.le_refl _) _
    have f0 : W3.cell? ⟨B, 0, none⟩ = some (.int .i64 a) := by simp [World.cell?, hg3]
    have f1 : W3.cell? ⟨B, 1, none⟩ = some (.string r) := by simp [World.cell?, hg3]
    exact bodyPost_ret (v := .tuple #[.agg #[.int .i64 a, .string r], .bool true]) (by simp [results, Tryd.results26, go_sem, f0, f1]) rfl ⟨HBB.out ▸ hb3, .inl ⟨_, a, HR.out, by unfold Hp.sx; rw [HR2.out]⟩⟩
  · have HR := Lib.hid hr
    clear hr
    go_wp2_with fail
    obtain ⟨W3, hW3⟩ : ∃ Z, (w2.setCell ⟨B, 0, none⟩ (.int .i64 0)).setCell ⟨B, 1, none⟩ (.string ⟨#[]⟩) = Z := ⟨_, rfl⟩
    rw [hW3]
    have hg3 : W3.heap[B]? = some (.cells #[.int .i64 0, .string ⟨#[]⟩] 61 (0, 0)) := by
      rw [← hW3]; exact heap_setCell_same _ _ 1 _ _ _ (heap_setCell_same _ _ 0 _ _ _ HG2.out)
    have hb3 : Below B w W3 := by rw [← hW3]; exact ((HB1.out.trans (HB2.out.mono (by rw [HZ1.out]; omega))).setCell (p := ⟨B, 0, none⟩) (Nat.le_refl _) _).setCell (p := ⟨B, 1, none⟩) (Nat.le_refl _) _
    have f0 : W3.cell? ⟨B, 0, none⟩ = some (.int .i64 0) := by simp [World.cell?, hg3]
    have f1 : W3.cell? ⟨B, 1, none⟩ = some (.string ⟨#[]⟩) := by simp [World.cell?, hg3]
    exact bodyPost_ret (v := .tuple #[.agg #[.int .i64 0, .string ⟨#[]⟩], .bool false]) (by simp [results, Tryd.results26, go_sem, f0, f1]) rfl ⟨HBB.out ▸ hb3, .inr ⟨HR.out, rfl⟩⟩
namespace Hp
/-- what Reason answers -/
def reaOut (o : Option (List UInt8)) : Value := match o with
  | some r => .tuple #[sx r, .int .i64 0]
  | none => .tuple #[.string ⟨#[]⟩, .int .i64 2]
theorem stCells_at : ∀ j, j < 8 → stCells[j * 2]? = some (.int .i64 (st j).1) ∧ stCells[j * 2 + 1]? = some (sx (st j).2) := by
  intro j hj
  match j, hj with
  | 0, _ | 1, _ | 2, _ | 3, _ | 4, _ | 5, _ | 6, _ | 7, _ => exact ⟨rfl, rfl⟩
end Hp
theorem ans_Reason (n : Int) (w : World) :
    Calls Tryd.prog 8 #[.int .i64 n] w fun e w' => e = .returned (Hp.reaOut (Hp.reason n)) ∧ Below w.heap.size w w' := by
  have hmf : ∀ (fn : Fn) (first cap : Array Value) (w : World), (Instr.makeFunc fn first cap).run Tryd.prog w = .ok (.func fn first cap) w := fun _ _ _ _ => rfl
  obtain ⟨B, hB⟩ : ∃ B, w.heap.size = B := ⟨_, rfl⟩
  have HBB := Lib.hid hB
  obtain ⟨W1, hW1⟩ : ∃ Z, w.alloc (.cells #[.int .i64 n] 3) = Z := ⟨_, rfl⟩
  have HB1 := Lib.hid (show Below B w W1 by rw [← hW1, ← hB]; exact (Below.refl _ _).alloc (Nat.le_refl _) _)
  have HG1 := Lib.hid (show W1.heap[B]? = some (.cells #[.int .i64 n] 3 (0, 0)) by rw [← hW1, ← hB]; exact World.alloc_heap_new _ _)
  have HZ1 := Lib.hid (show W1.heap.size = B + 1 by rw [← hW1, ← hB]; simp)
  have HW := Lib.hid hW1
  have KS := Lib.hid (ans_statuses W1)
  clear hW1 hB
  go_enter Tryd.func8, Tryd.ntmps8
  go_wp2_with fail
  rw [HW.out, HBB.out]
  refine KS.out.mono ?_
  rintro e w2 ⟨rfl, hb2⟩
  obtain ⟨S, hS⟩ : ∃ z, w2.heap.size = z := ⟨_, rfl⟩
  have HSS := Lib.hid hS
  have HB2 := Lib.hid (show Below B w w2 from HB1.out.trans (hb2.mono (by rw [HZ1.out]; omega)))
  have HG2 := Lib.hid ((hb2.block B (by rw [HZ1.out]; omega)).trans HG1.out)
  have HBS := Lib.hid (show B < S by have := hb2.size; rw [HZ1.out, hS] at this; omega)
  obtain ⟨W3, hW3⟩ : ∃ Z, w2.alloc (.cells Hp.stCells.toArray 62) = Z := ⟨_, rfl⟩
  have HB3 := Lib.hid (show Below S w2 W3 by rw [← hW3, ← hS]; exact (Below.refl _ _).alloc (Nat.le_refl _) _)
  have hg3 : W3.heap[S]? = some (.cells Hp.stCells.toArray 62 (0, 0)) := by rw [← hW3, ← hS]; exact World.alloc_heap_new _ _
  have HZ3 := Lib.hid (show W3.heap.size = S + 1 by rw [← hW3, ← hS]; simp)
  have HST := Lib.hid (show StAt W3 S 0 from fun j hj => by
    obtain ⟨e1, e2⟩ := Hp.stCells_at j hj
    constructor
    · simp only [World.cell?, hg3, Nat.zero_add, List.getElem?_toArray, e1]; rfl
    · simp only [World.cell?, hg3, Nat.zero_add, List.getElem?_toArray, e2]; rfl)
  have KG := Lib.hid (ans_sought n B S 0 8 W3 ((HB3.out.cell (p := ⟨B, 0, none⟩) HBS.out).trans (by simp [World.cell?, HG2.out])) HST.out)
  have HW3 := Lib.hid hW3
  clear hb2 hS hW3 hg3
  rw [show (Hp.stCells.toArray : Array Value) = #[.int .i64 200, .string ⟨#[79, 75]⟩, .int .i64 400, .string ⟨#[66, 97, 100, 32, 82, 101, 113, 117, 101, 115, 116]⟩, .int .i64 404, .string ⟨#[78, 111, 116, 32, 70, 111, 117, 110, 100]⟩, .int .i64 405, .string ⟨#[77, 101, 116, 104, 111, 100, 32, 78, 111, 116, 32, 65, 108, 108, 111, 119, 101, 100]⟩, .int .i64 406, .string ⟨#[78, 111, 116, 32, 65, 99, 99, 101, 112, 116, 97, 98, 108, 101]⟩, .int .i64 431, .string ⟨#[82, 101, 113, 117, 101, 115, 116, 32, 72, 101, 97, 100, 101, 114, 32, 70, 105, 101, 108, 100, 115, 32, 84, 111, 111, 32, 76, 97, 114, 103, 101]⟩, .int .i64 503, .string ⟨#[83, 101, 114, 118, 105, 99, 101, 32, 85, 110, 97, 118, 97, 105, 108, 97, 98, 108, 101]⟩, .int .i64 505, .string ⟨#[72, 84, 84, 80, 32, 86, 101, 114, 115, 105, 111, 110, 32, 78, 111, 116, 32, 83, 117, 112, 112, 111, 114, 116, 101, 100]⟩] from rfl] at HW3 ⊢
  go_wp2_with fail
  rw [HSS.out, HW3.out]
  refine KG.out.mono ?_
  rintro e w4 ⟨hb4, hout⟩
  have HB4 := Lib.hid (show Below B w w4 from HB2.out.trans ((HB3.out.trans (hb4.mono (by rw [HZ3.out]; omega))).mono (Nat.le_of_lt HBS.out)))
  clear hb4
  obtain ⟨V, hV⟩ : ∃ z, w4.heap.size = z := ⟨_, rfl⟩
  have HVB := Lib.hid (show B ≤ V by rw [← hV, ← HBB.out]; exact HB4.out.size)
  have HV := Lib.hid hV
  rcases hout with ⟨r, a, hr, rfl⟩ | ⟨hr, rfl⟩
  · unfold Hp.sx
    obtain ⟨rb, hrb⟩ : ∃ z : ByteArray, (⟨r.toArray⟩ : ByteArray) = z := ⟨_, rfl⟩
    have HRB := Lib.hid hrb
    have HR := Lib.hid hr
    rw [hrb]
    have HB5 := Lib.hid (show Below B w (w4.alloc (.cells #[.int .i64 a, .string rb] 61)) from HB4.out.alloc (by rw [hV]; exact HVB.out) _)
    clear hrb hr hV
    go_wp2_with fail
    go_ret2
    refine ⟨?_, HBB.out ▸ HB5.out⟩
    rw [HR.out, ← HRB.out]; rfl
  · have HR := Lib.hid hr
    have HB5 := Lib.hid (show Below B w (w4.alloc (.cells #[.int .i64 0, .string ⟨#[]⟩] 61)) from HB4.out.alloc (by rw [hV]; exact HVB.out) _)
    clear hr hV
    go_wp2_with fail
    go_ret2
    refine ⟨?_, HBB.out ▸ HB5.out⟩
    rw [HR.out]; rfl
end Go.Proofs.YthfdnlcalefjeaaDoor

/- A region that draws its order, by what holds at each of its stands. -/
namespace Go.Proofs.YthfdnlcalefjeaaDoor
set_option linter.unusedVariables false
set_option linter.unusedSimpArgs false

set_option maxHeartbeats 2000000
def backB (md : Region.Mode) (ops : Array Oper) : Bool := (List.range ops.size).all fun i => ((ops[i]?).map fun o => o.guard.isNone && o.after.all fun e => !Region.binds md e || decide (e.on < i)).getD true
section
variable {P : Program} {ops : Array Oper} {Q : Exit → Act → World → Prop} {md : Region.Mode}
theorem back_of (h : backB md ops = true) {i : Nat} {o : Oper} (ho : ops[i]? = some o) : o.guard = none ∧ ∀ e ∈ o.after, Region.binds md e = true → e.on < i := by
  have hi := (Array.getElem?_eq_some_iff.1 ho).1
  have h1 := List.all_eq_true.1 h i (List.mem_range.2 hi)
  rw [ho] at h1
  simp only [Option.map_some, Option.getD_some, Bool.and_eq_true] at h1
  refine ⟨by simpa using h1.1, fun e he hbd => ?_⟩
  have := (Array.all_eq_true_iff_forall_mem.1 h1.2) e he
  rw [hbd] at this
  simpa using this
theorem ready_mem {listed : Array Bool} (hs : listed.size = ops.size) {i : Nat} (h : i ∈ Region.ready md ops listed) :
    ∃ o, ops[i]? = some o ∧ listed.getD i false = false ∧ i < listed.size ∧ ∀ e ∈ o.after, Region.binds md e = true → listed.getD e.on false = true := by
  unfold Region.ready at h
  obtain ⟨h1, h2⟩ := List.mem_filter.1 h
  have hi := List.mem_range.1 h1
  refine ⟨ops[i], Array.getElem?_eq_getElem hi, ?_, by omega, ?_⟩
  · simp only [Bool.and_eq_true] at h2
    have h3 := h2.1
    have hj : i < listed.size := by omega
    simp only [Array.getD, hj, dite_true] at h3 ⊢
    simpa using h3
  · intro e he hb
    simp only [Bool.and_eq_true, Array.getElem?_eq_getElem hi, Option.map_some, Option.getD_some] at h2
    have h3 := (Array.all_eq_true_iff_forall_mem.1 h2.2) e he
    rw [hb] at h3
    simpa using h3
theorem ready_all (hb : backB md ops = true) {listed : Array Bool} (hs : listed.size = ops.size) (h : Region.ready md ops listed = []) : ∀ i, i < ops.size → listed.getD i false = true := by
  intro i
  induction i using Nat.strongRecOn with
  | _ i ih =>
    intro hi
    by_cases hl : listed.getD i false = true
    · exact hl
    · exfalso
      have hj : i < listed.size := by omega
      have hm : i ∈ Region.ready md ops listed := by
        unfold Region.ready
        refine List.mem_filter.2 ⟨List.mem_range.2 hi, ?_⟩
        simp only [Bool.and_eq_true, Array.getElem?_eq_getElem hi, Option.map_some, Option.getD_some]
        refine ⟨?_, Array.all_eq_true_iff_forall_mem.2 fun e he => ?_⟩
        · simp only [Array.getD, hj, dite_true] at hl ⊢
          simpa using hl
        · cases hbd : Region.binds md e with
          | false => rfl
          | true =>
            have h1 := (back_of hb (Array.getElem?_eq_getElem hi)).2 e he hbd
            rw [ih e.on h1 (by omega)]
            simp
      rw [h] at hm
      cases hm
theorem wpAny_inv (hb : backB md ops = true) (Inv : (Nat → Bool) → Act → World → Prop)
    (hstep : ∀ (f : Nat → Bool) (a : Act) (w : World) (i : Nat) (o : Oper), ops[i]? = some o → f i = false → (∀ e ∈ o.after, Region.binds md e = true → f e.on = true) → Inv f a w →
      o.wp P a w (Inv (fun j => if j = i then true else f j)) Q)
    (hdone : ∀ (f : Nat → Bool) (a : Act) (w : World), (∀ i, i < ops.size → f i = true) → Inv f a w → Q .normal a w) :
    ∀ (fuel : Nat) (listed : Array Bool) (a : Act) (w : World), listed.size = ops.size → listed.toList.count false ≤ fuel → Inv (fun i => listed.getD i false) a w → wpAny P md ops Q fuel listed a w := by
  intro fuel
  induction fuel with
  | zero =>
    intro listed a w hs hc hI
    have hr : Region.ready md ops listed = [] := by
      cases hr : Region.ready md ops listed with
      | nil => rfl
      | cons i r =>
        obtain ⟨o, ho, hl, hi, _⟩ := ready_mem (md := md) hs (i := i) (by rw [hr]; exact List.mem_cons_self)
        have h1 : false ∈ listed.toList := by
          simp only [Array.getD, hi, dite_true] at hl
          have h2 : listed[i] ∈ listed.toList := Array.mem_toList_iff.2 (Array.getElem_mem hi)
          have h3 : listed[i] = false := hl
          rwa [h3] at h2
        have := List.count_pos_iff.2 h1
        omega
    exact ⟨hr, hdone _ a w (ready_all hb hs hr) hI⟩
  | succ fuel ih =>
    intro listed a w hs hc hI
    refine ⟨fun hr => hdone _ a w (ready_all hb hs hr) hI, fun i hi => ?_⟩
    obtain ⟨o, ho, hl, hil, hpre⟩ := ready_mem hs hi
    have hg := (back_of hb ho).1
    have h1 := hstep _ a w i o ho hl hpre hI
    unfold wpOp
    simp only [ho]
    rw [if_pos (by simp [Region.wanted, hg])]
    refine .inl (Oper.wp_mono (fun a' w' hI' => ?_) h1)
    refine ih _ a' w' (by simp [hs]) ?_ ?_
    · have h3 : listed.toList[i]'(by simpa using hil) = false := by
        simp only [Array.getD, hil, dite_true] at hl
        simpa using hl
      rw [Array.toList_setIfInBounds, List.count_set (h := by simpa using hil), h3]
      have h4 : 0 < listed.toList.count false := List.count_pos_iff.2 (by rw [← h3]; exact List.getElem_mem _)
      rw [if_pos (by rfl), if_neg (by decide)]
      omega
    · refine cast (congrArg (fun g => Inv g a' w') (funext fun j => ?_)) hI'
      by_cases hj : j = i
      · subst hj
        simp [Array.getD, hil]
      · rw [if_neg hj]
        simp only [Array.getD, Array.size_setIfInBounds]
        by_cases hjl : j < listed.size
        · simp [hjl, Array.getElem_setIfInBounds, Ne.symm hj]
        · simp [hjl]
theorem region_inv {id : Nat} {a : Act} {w : World} (hm : P.follows .mixedOrders = true) (hb : backB .any ops = true) (Inv : (Nat → Bool) → Act → World → Prop) (h0 : Inv (fun _ => false) a w.drew)
    (hstep : ∀ (f : Nat → Bool) (a : Act) (w : World) (i : Nat) (o : Oper), ops[i]? = some o → f i = false → (∀ e ∈ o.after, Region.binds .any e = true → f e.on = true) → Inv f a w →
      o.wp P a w (Inv (fun j => if j = i then true else f j)) Q)
    (hdone : ∀ (f : Nat → Bool) (a : Act) (w : World), (∀ i, i < ops.size → f i = true) → Inv f a w → Q .normal a w) : (Code.region id ops true).wp P Q a w := by
  refine wp_region_any hm (wpAny_inv hb Inv hstep hdone _ _ a _ (by simp) ?_ ?_)
  · refine Nat.le_trans List.count_le_length ?_
    simp
  · refine cast (congrArg (fun g => Inv g a w.drew) (funext fun j => ?_)) h0
    by_cases hj : j < ops.size <;> simp [Array.getD, hj]
end
end Go.Proofs.YthfdnlcalefjeaaDoor

/- A region that draws its order and fills one slot by each operation: by what each slot holds. -/
namespace Go.Proofs.YthfdnlcalefjeaaDoor
set_option linter.unusedVariables false
set_option linter.unusedSimpArgs false
open Go.RowKit
set_option maxHeartbeats 2000000
def fillN (slot : Nat → Nat) (vs : Nat → Value) (m : Nat) (t : Array Value) : Array Value := (List.range m).foldl (fun t i => t.setIfInBounds (slot i) (vs i)) t
theorem fillN_succ (slot : Nat → Nat) (vs : Nat → Value) (m : Nat) (t : Array Value) : fillN slot vs (m + 1) t = (fillN slot vs m t).setIfInBounds (slot m) (vs m) := by
  simp [fillN, List.range_succ]
theorem fillN_size (slot : Nat → Nat) (vs : Nat → Value) (m : Nat) (t : Array Value) : (fillN slot vs m t).size = t.size := by
  induction m with
  | zero => rfl
  | succ m ih => rw [fillN_succ, Array.size_setIfInBounds, ih]
theorem getD_set (t : Array Value) (d j : Nat) (v : Value) (hd : d < t.size) : (t.setIfInBounds d v).getD j undef = if j = d then v else t.getD j undef := by
  rw [Array.getD_eq_getD_getElem?, Array.getD_eq_getD_getElem?, Array.getElem?_setIfInBounds]
  by_cases h : j = d
  · subst h; simp [hd]
  · rw [if_neg (Ne.symm h), if_neg h]
theorem fillN_get (slot : Nat → Nat) (vs : Nat → Value) (t : Array Value) (hs : ∀ i, slot i < t.size) : ∀ m j, (∀ i, i < m → slot i ≠ j) → (fillN slot vs m t).getD j undef = t.getD j undef
  | 0, j, _ => rfl
  | m + 1, j, h => by
    rw [fillN_succ, getD_set _ _ _ _ (by rw [fillN_size]; exact hs m), if_neg (Ne.symm (h m (by omega))), fillN_get slot vs t hs m j (fun i hi => h i (by omega))]
theorem fillN_at (slot : Nat → Nat) (vs : Nat → Value) (t : Array Value) (hs : ∀ i, slot i < t.size) : ∀ m, (∀ i j, i < m → j < m → slot i = slot j → i = j) → ∀ i, i < m → (fillN slot vs m t).getD (slot i) undef = vs i
  | 0, _, i, hi => absurd hi (by omega)
  | m + 1, hinj, i, hi => by
    rw [fillN_succ, getD_set _ _ _ _ (by rw [fillN_size]; exact hs m)]
    by_cases h : i = m
    · subst h; rw [if_pos rfl]
    · rw [if_neg (fun e => h (hinj i m hi (by omega) e))]
      exact fillN_at slot vs t hs m (fun i j h1 h2 h3 => hinj i j (by omega) (by omega) h3) i (by omega)
theorem ext_getD {s t : Array Value} (hs : s.size = t.size) (h : ∀ j, s.getD j undef = t.getD j undef) : s = t := by
  refine Array.ext hs (fun i h1 h2 => ?_)
  have := h i
  rw [Array.getD_eq_getD_getElem?, Array.getD_eq_getD_getElem?, Array.getElem?_eq_getElem h1, Array.getElem?_eq_getElem h2] at this
  exact this
section
variable {P : Program} {ops : Array Oper} {Q : Exit → Act → World → Prop}
/-- where such a region stands -/
structure Stand (a0 : Act) (w0 : World) (m : Nat) (slot : Nat → Nat) (F : Nat → World → Value → Prop) (f : Nat → Bool) (a : Act) (w : World) : Prop where
  defers : a.defers = a0.defers
  size : a.tmps.size = a0.tmps.size
  rest : ∀ j, (∀ i, i < m → slot i ≠ j) → a.tmps.getD j undef = a0.tmps.getD j undef
  bel : Below w0.heap.size w0 w
  have_ : ∀ i, i < m → f i = true → F i w (a.tmps.getD (slot i) undef)
theorem region_slots {id : Nat} {a0 : Act} {w0 : World} (slot : Nat → Nat) (F : Nat → World → Value → Prop) (hm : P.follows .mixedOrders = true) (hb : backB .any ops = true)
    (hs : ∀ i, slot i < a0.tmps.size) (hinj : ∀ i j, i < ops.size → j < ops.size → slot i = slot j → i = j) (hF : ∀ i w w' v, F i w v → Below w.heap.size w w' → F i w' v)
    (hdst : ∀ i o, ops[i]? = some o → o.dst = some (slot i))
    (hstep : ∀ (f : Nat → Bool) (a : Act) (w : World) (i : Nat) (o : Oper), ops[i]? = some o → (∀ e ∈ o.after, Region.binds .any e = true → F e.on w (a.tmps.getD (slot e.on) undef)) → Below w0.heap.size w0 w →
      (∀ j, (∀ i, i < ops.size → slot i ≠ j) → a.tmps.getD j undef = a0.tmps.getD j undef) → o.wp P a w (fun a' w' => ∃ v, a' = a.put o.dst v ∧ F i w' v ∧ Below w.heap.size w w') Q)
    (hdone : ∀ (vs : Nat → Value) (w : World), Below w0.heap.size w0 w → (∀ i, i < ops.size → F i w (vs i)) → Q .normal { a0 with tmps := fillN slot vs ops.size a0.tmps } w) : (Code.region id ops true).wp P Q a0 w0 := by
  refine region_inv hm hb (Stand a0 w0 ops.size slot F) ⟨rfl, rfl, fun _ _ => rfl, ⟨rfl, rfl, rfl, Nat.le_refl _, fun _ _ => rfl⟩, fun _ _ h => by cases h⟩ ?_ ?_
  · intro f a w i o ho hf hpre hI
    have hi := (Array.getElem?_eq_some_iff.1 ho).1
    refine Oper.wp_mono ?_ (hstep f a w i o ho (fun e he hbd => hI.have_ e.on (by have := (back_of hb ho).2 e he hbd; omega) (hpre e he hbd)) hI.bel hI.rest)
    rintro a' w' ⟨v, rfl, hv, hbw⟩
    rw [hdst i o ho]
    have hsl : slot i < a.tmps.size := by rw [hI.size]; exact hs i
    refine ⟨hI.defers, by rw [← hI.size]; exact Array.size_setIfInBounds .., fun j hj => ?_, hI.bel.trans (hbw.mono hI.bel.size), fun j hj hfj => ?_⟩
    · show (a.tmps.setIfInBounds (slot i) v).getD j undef = _
      rw [getD_set _ _ _ _ hsl, if_neg (Ne.symm (hj i hi))]
      exact hI.rest j hj
    · show F j w' ((a.tmps.setIfInBounds (slot i) v).getD (slot j) undef)
      rw [getD_set _ _ _ _ hsl]
      by_cases hji : j = i
      · subst hji; rw [if_pos rfl]; exact hv
      · rw [if_neg (fun e => hji (hinj j i hj hi e))]
        have h2 : f j = true := by simpa [hji] using hfj
        exact hF j w w' _ (hI.have_ j hj h2) hbw
  · intro f a w hall hI
    have e : a = { a0 with tmps := fillN slot (fun i => a.tmps.getD (slot i) undef) ops.size a0.tmps } := by
      have h1 : a.tmps = fillN slot (fun i => a.tmps.getD (slot i) undef) ops.size a0.tmps := by
        refine ext_getD (by rw [fillN_size, hI.size]) (fun j => ?_)
        by_cases hj : ∃ i, i < ops.size ∧ slot i = j
        · obtain ⟨i, hi, rfl⟩ := hj
          rw [fillN_at slot _ _ hs _ hinj i hi]
        · rw [fillN_get slot _ _ hs _ j (fun i hi e => hj ⟨i, hi, e⟩), hI.rest j (fun i hi e => hj ⟨i, hi, e⟩)]
      obtain ⟨t, d⟩ := a
      have h2 := hI.defers
      simp only at h1 h2
      rw [← h1, h2]
    rw [e]
    exact hdone _ w hI.bel (fun i hi => hI.have_ i hi (hall i hi))
end
end Go.Proofs.YthfdnlcalefjeaaDoor

/- A drawn region by what its slots hold, where the world is told by a relation of its own. -/
namespace Go.Proofs.YthfdnlcalefjeaaDoor
set_option linter.unusedVariables false
set_option linter.unusedSimpArgs false
open Go.RowKit
section
variable {P : Program} {ops : Array Oper} {Q : Exit → Act → World → Prop}
/-- where such a region stands -/
structure Stand2 (a0 : Act) (m : Nat) (slot : Nat → Nat) (F : Nat → World → Value → Prop) (T : (Nat → Bool) → World → Prop) (f : Nat → Bool) (a : Act) (w : World) : Prop where
  defers : a.defers = a0.defers
  size : a.tmps.size = a0.tmps.size
  rest : ∀ j, (∀ i, i < m → slot i ≠ j) → a.tmps.getD j undef = a0.tmps.getD j undef
  yet : ∀ i, i < m → f i = false → a.tmps.getD (slot i) undef = a0.tmps.getD (slot i) undef
  told : T f w
  have_ : ∀ i, i < m → f i = true → F i w (a.tmps.getD (slot i) undef)
theorem region_slots2 {id : Nat} {a0 : Act} {w0 : World} (slot : Nat → Nat) (F : Nat → World → Value → Prop) (T : (Nat → Bool) → World → Prop) (hm : P.follows .mixedOrders = true) (hb : backB .any ops = true)
    (hs : ∀ i, slot i < a0.tmps.size) (hinj : ∀ i j, i < ops.size → j < ops.size → slot i = slot j → i = j) (h0 : T (fun _ => false) w0.drew)
    (hdst : ∀ i o, ops[i]? = some o → o.dst = some (slot i))
    (hstep : ∀ (f : Nat → Bool) (a : Act) (w : World) (i : Nat) (o : Oper), ops[i]? = some o → f i = false → (∀ e ∈ o.after, Region.binds .any e = true → f e.on = true ∧ F e.on w (a.tmps.getD (slot e.on) undef)) → T f w →
      (∀ j, (∀ i, i < ops.size → slot i ≠ j) → a.tmps.getD j undef = a0.tmps.getD j undef) → (∀ i, i < ops.size → f i = false → a.tmps.getD (slot i) undef = a0.tmps.getD (slot i) undef) →
      o.wp P a w (fun a' w' => ∃ v, a' = a.put o.dst v ∧ F i w' v ∧ T (fun j => if j = i then true else f j) w' ∧ ∀ j v', f j = true → F j w v' → F j w' v') Q)
    (hdone : ∀ (f : Nat → Bool) (vs : Nat → Value) (w : World), (∀ i, i < ops.size → f i = true) → T f w → (∀ i, i < ops.size → F i w (vs i)) → Q .normal { a0 with tmps := fillN slot vs ops.size a0.tmps } w) : (Code.region id ops true).wp P Q a0 w0 := by
  refine region_inv hm hb (Stand2 a0 ops.size slot F T) ⟨rfl, rfl, fun _ _ => rfl, fun _ _ _ => rfl, h0, fun _ _ h => by cases h⟩ ?_ ?_
  · intro f a w i o ho hf hpre hI
    have hi := (Array.getElem?_eq_some_iff.1 ho).1
    refine Oper.wp_mono ?_ (hstep f a w i o ho hf (fun e he hbd => ⟨hpre e he hbd, hI.have_ e.on (by have := (back_of hb ho).2 e he hbd; omega) (hpre e he hbd)⟩) hI.told hI.rest hI.yet)
    rintro a' w' ⟨v, rfl, hv, ht, hst⟩
    rw [hdst i o ho]
    have hsl : slot i < a.tmps.size := by rw [hI.size]; exact hs i
    refine ⟨hI.defers, by rw [← hI.size]; exact Array.size_setIfInBounds .., fun j hj => ?_, fun j hj hfj => ?_, ht, fun j hj hfj => ?_⟩
    · show (a.tmps.setIfInBounds (slot i) v).getD j undef = _
      rw [getD_set _ _ _ _ hsl, if_neg (Ne.symm (hj i hi))]
      exact hI.rest j hj
    · show (a.tmps.setIfInBounds (slot i) v).getD (slot j) undef = _
      have hji : j ≠ i := fun e => by simp [e] at hfj
      rw [getD_set _ _ _ _ hsl, if_neg (fun e => hji (hinj j i hj hi e))]
      exact hI.yet j hj (by simpa [hji] using hfj)
    · show F j w' ((a.tmps.setIfInBounds (slot i) v).getD (slot j) undef)
      rw [getD_set _ _ _ _ hsl]
      by_cases hji : j = i
      · subst hji; rw [if_pos rfl]; exact hv
      · rw [if_neg (fun e => hji (hinj j i hj hi e))]
        have h2 : f j = true := by simpa [hji] using hfj
        exact hst j _ h2 (hI.have_ j hj h2)
  · intro f a w hall hI
    have e : a = { a0 with tmps := fillN slot (fun i => a.tmps.getD (slot i) undef) ops.size a0.tmps } := by
      have h1 : a.tmps = fillN slot (fun i => a.tmps.getD (slot i) undef) ops.size a0.tmps := by
        refine ext_getD (by rw [fillN_size, hI.size]) (fun j => ?_)
        by_cases hj : ∃ i, i < ops.size ∧ slot i = j
        · obtain ⟨i, hi, rfl⟩ := hj
          rw [fillN_at slot _ _ hs _ hinj i hi]
        · rw [fillN_get slot _ _ hs _ j (fun i hi e => hj ⟨i, hi, e⟩), hI.rest j (fun i hi e => hj ⟨i, hi, e⟩)]
      obtain ⟨t, d⟩ := a
      have h2 := hI.defers
      simp only at h1 h2
      rw [← h1, h2]
    rw [e]
    exact hdone f _ w hall hI.told (fun i hi => hI.have_ i hi (hall i hi))
end
end Go.Proofs.YthfdnlcalefjeaaDoor

/- A region that draws its order and has guarded operations: by what its slots hold; which operations stand is decided ahead. -/
namespace Go.Proofs.YthfdnlcalefjeaaDoor
set_option linter.unusedVariables false
set_option linter.unusedSimpArgs false
open Go.RowKit
set_option maxHeartbeats 2000000
def backG (md : Region.Mode) (ops : Array Oper) : Bool := (List.range ops.size).all fun i => ((ops[i]?).map fun o => (match o.guard with | none => true | some (g, _) => o.after.any fun e => e.on == g && Region.binds md e) && o.after.all fun e => !Region.binds md e || decide (e.on < i)).getD true
section
variable {P : Program} {ops : Array Oper} {Q : Exit → Act → World → Prop} {md : Region.Mode}
theorem back_ofG (h : backG md ops = true) {i : Nat} {o : Oper} (ho : ops[i]? = some o) : (∀ g b, o.guard = some (g, b) → ∃ e ∈ o.after, e.on = g ∧ Region.binds md e = true) ∧ ∀ e ∈ o.after, Region.binds md e = true → e.on < i := by
  have hi := (Array.getElem?_eq_some_iff.1 ho).1
  have h1 := List.all_eq_true.1 h i (List.mem_range.2 hi)
  rw [ho] at h1
  simp only [Option.map_some, Option.getD_some, Bool.and_eq_true] at h1
  refine ⟨fun g b hgb => ?_, fun e he hbd => ?_⟩
  · have h2 := h1.1
    rw [hgb] at h2
    obtain ⟨k, hk, h3⟩ := Array.any_eq_true.1 h2
    rw [Bool.and_eq_true, beq_iff_eq] at h3
    exact ⟨_, Array.getElem_mem hk, h3.1, h3.2⟩
  · have := (Array.all_eq_true_iff_forall_mem.1 h1.2) e he
    rw [hbd] at this
    simpa using this
theorem ready_allG (hb : backG md ops = true) {listed : Array Bool} (hs : listed.size = ops.size) (h : Region.ready md ops listed = []) : ∀ i, i < ops.size → listed.getD i false = true := by
  intro i
  induction i using Nat.strongRecOn with
  | _ i ih =>
    intro hi
    by_cases hl : listed.getD i false = true
    · exact hl
    · exfalso
      have hj : i < listed.size := by omega
      have hm : i ∈ Region.ready md ops listed := by
        unfold Region.ready
        refine List.mem_filter.2 ⟨List.mem_range.2 hi, ?_⟩
        simp only [Bool.and_eq_true, Array.getElem?_eq_getElem hi, Option.map_some, Option.getD_some]
        refine ⟨?_, Array.all_eq_true_iff_forall_mem.2 fun e he => ?_⟩
        · simp only [Array.getD, hj, dite_true] at hl ⊢
          simpa using hl
        · cases hbd : Region.binds md e with
          | false => rfl
          | true =>
            have h1 := (back_ofG hb (Array.getElem?_eq_getElem hi)).2 e he hbd
            rw [ih e.on h1 (by omega)]
            simp
      rw [h] at hm
      cases hm
theorem wpAny_invG (hb : backG md ops = true) (Inv : (Nat → Bool) → Act → World → Prop)
    (hstep : ∀ (f : Nat → Bool) (a : Act) (w : World) (i : Nat) (o : Oper), ops[i]? = some o → f i = false → (∀ e ∈ o.after, Region.binds md e = true → f e.on = true) → Inv f a w →
      if Region.wanted o (yielded ops a.tmps) then o.wp P a w (Inv (fun j => if j = i then true else f j)) Q else Inv (fun j => if j = i then true else f j) (a.put o.dst undef) w)
    (hdone : ∀ (f : Nat → Bool) (a : Act) (w : World), (∀ i, i < ops.size → f i = true) → Inv f a w → Q .normal a w) :
    ∀ (fuel : Nat) (listed : Array Bool) (a : Act) (w : World), listed.size = ops.size → listed.toList.count false ≤ fuel → Inv (fun i => listed.getD i false) a w → wpAny P md ops Q fuel listed a w := by
  intro fuel
  induction fuel with
  | zero =>
    intro listed a w hs hc hI
    have hr : Region.ready md ops listed = [] := by
      cases hr : Region.ready md ops listed with
      | nil => rfl
      | cons i r =>
        obtain ⟨o, ho, hl, hi, _⟩ := ready_mem (md := md) hs (i := i) (by rw [hr]; exact List.mem_cons_self)
        have h1 : false ∈ listed.toList := by
          simp only [Array.getD, hi, dite_true] at hl
          have h2 : listed[i] ∈ listed.toList := Array.mem_toList_iff.2 (Array.getElem_mem hi)
          have h3 : listed[i] = false := hl
          rwa [h3] at h2
        have := List.count_pos_iff.2 h1
        omega
    exact ⟨hr, hdone _ a w (ready_allG hb hs hr) hI⟩
  | succ fuel ih =>
    intro listed a w hs hc hI
    refine ⟨fun hr => hdone _ a w (ready_allG hb hs hr) hI, fun i hi => ?_⟩
    obtain ⟨o, ho, hl, hil, hpre⟩ := ready_mem hs hi
    have h1 := hstep _ a w i o ho hl hpre hI
    have hnext : ∀ a' w', Inv (fun j => if j = i then true else listed.getD j false) a' w' → wpAny P md ops Q fuel (listed.setIfInBounds i true) a' w' := by
      intro a' w' hI'
      refine ih _ a' w' (by simp [hs]) ?_ ?_
      · have h3 : listed.toList[i]'(by simpa using hil) = false := by
          simp only [Array.getD, hil, dite_true] at hl
          simpa using hl
        rw [Array.toList_setIfInBounds, List.count_set (h := by simpa using hil), h3]
        have h4 : 0 < listed.toList.count false := List.count_pos_iff.2 (by rw [← h3]; exact List.getElem_mem _)
        rw [if_pos (by rfl), if_neg (by decide)]
        omega
      · refine cast (congrArg (fun g => Inv g a' w') (funext fun j => ?_)) hI'
        by_cases hj : j = i
        · subst hj
          simp [Array.getD, hil]
        · rw [if_neg hj]
          simp only [Array.getD, Array.size_setIfInBounds]
          by_cases hjl : j < listed.size
          · simp [hjl, Array.getElem_setIfInBounds, Ne.symm hj]
          · simp [hjl]
    unfold wpOp
    simp only [ho]
    split
    · rename_i hw
      rw [if_pos hw] at h1
      exact .inl (Oper.wp_mono (fun a' w' hI' => hnext a' w' hI') h1)
    · rename_i hw
      rw [if_neg hw] at h1
      exact hnext _ _ h1
theorem region_invG {id : Nat} {a : Act} {w : World} (hm : P.follows .mixedOrders = true) (hb : backG .any ops = true) (Inv : (Nat → Bool) → Act → World → Prop) (h0 : Inv (fun _ => false) a w.drew)
    (hstep : ∀ (f : Nat → Bool) (a : Act) (w : World) (i : Nat) (o : Oper), ops[i]? = some o → f i = false → (∀ e ∈ o.after, Region.binds .any e = true → f e.on = true) → Inv f a w →
      if Region.wanted o (yielded ops a.tmps) then o.wp P a w (Inv (fun j => if j = i then true else f j)) Q else Inv (fun j => if j = i then true else f j) (a.put o.dst undef) w)
    (hdone : ∀ (f : Nat → Bool) (a : Act) (w : World), (∀ i, i < ops.size → f i = true) → Inv f a w → Q .normal a w) : (Code.region id ops true).wp P Q a w := by
  refine wp_region_any hm (wpAny_invG hb Inv hstep hdone _ _ a _ (by simp) ?_ ?_)
  · refine Nat.le_trans List.count_le_length ?_
    simp
  · refine cast (congrArg (fun g => Inv g a w.drew) (funext fun j => ?_)) h0
    by_cases hj : j < ops.size <;> simp [Array.getD, hj]
/-- all slots are filled; sel: which operations stand; an operation that does not stand leaves undef -/
theorem region_slotsG {id : Nat} {a0 : Act} {w0 : World} (slot : Nat → Nat) (F : Nat → World → Value → Prop) (sel : Nat → Bool) (hm : P.follows .mixedOrders = true) (hb : backG .any ops = true)
    (hs : ∀ i, slot i < a0.tmps.size) (hinj : ∀ i j, i < ops.size → j < ops.size → slot i = slot j → i = j) (hF : ∀ i w w' v, F i w v → Below w.heap.size w w' → F i w' v)
    (hdst : ∀ i o, ops[i]? = some o → o.dst = some (slot i))
    (hgu : ∀ i o g b, ops[i]? = some o → o.guard = some (g, b) → ∀ w v, F g w v → v = .bool (if sel i then b else !b))
    (hng : ∀ i o, ops[i]? = some o → o.guard = none → sel i = true)
    (hskip : ∀ i w, i < ops.size → sel i = false → F i w undef)
    (hstep : ∀ (f : Nat → Bool) (a : Act) (w : World) (i : Nat) (o : Oper), ops[i]? = some o → sel i = true → (∀ e ∈ o.after, Region.binds .any e = true → F e.on w (a.tmps.getD (slot e.on) undef)) → Below w0.heap.size w0 w →
      (∀ j, (∀ i, i < ops.size → slot i ≠ j) → a.tmps.getD j undef = a0.tmps.getD j undef) → o.wp P a w (fun a' w' => ∃ v, a' = a.put o.dst v ∧ F i w' v ∧ Below w.heap.size w w') Q)
    (hdone : ∀ (vs : Nat → Value) (w : World), Below w0.heap.size w0 w → (∀ i, i < ops.size → F i w (vs i)) → Q .normal { a0 with tmps := fillN slot vs ops.size a0.tmps } w) : (Code.region id ops true).wp P Q a0 w0 := by
  refine region_invG hm hb (Stand a0 w0 ops.size slot F) ⟨rfl, rfl, fun _ _ => rfl, ⟨rfl, rfl, rfl, Nat.le_refl _, fun _ _ => rfl⟩, fun _ _ h => by cases h⟩ ?_ ?_
  · intro f a w i o ho hf hpre hI
    have hi := (Array.getElem?_eq_some_iff.1 ho).1
    have hsl : slot i < a.tmps.size := by rw [hI.size]; exact hs i
    have hput : ∀ w' v, F i w' v → Below w.heap.size w w' → Stand a0 w0 ops.size slot F (fun j => if j = i then true else f j) (a.put o.dst v) w' := by
      intro w' v hv hbw
      rw [hdst i o ho]
      refine ⟨hI.defers, by rw [← hI.size]; exact Array.size_setIfInBounds .., fun j hj => ?_, hI.bel.trans (hbw.mono hI.bel.size), fun j hj hfj => ?_⟩
      · show (a.tmps.setIfInBounds (slot i) v).getD j undef = _
        rw [getD_set _ _ _ _ hsl, if_neg (Ne.symm (hj i hi))]
        exact hI.rest j hj
      · show F j w' ((a.tmps.setIfInBounds (slot i) v).getD (slot j) undef)
        rw [getD_set _ _ _ _ hsl]
        by_cases hji : j = i
        · subst hji; rw [if_pos rfl]; exact hv
        · rw [if_neg (fun e => hji (hinj j i hj hi e))]
          have h2 : f j = true := by simpa [hji] using hfj
          exact hF j w w' _ (hI.have_ j hj h2) hbw
    have hwant : Region.wanted o (yielded ops a.tmps) = sel i := by
      unfold Region.wanted
      cases hg : o.guard with
      | none => exact (hng i o ho hg).symm
      | some gb =>
        obtain ⟨g, b⟩ := gb
        obtain ⟨e, he, heg, hbd⟩ := (back_ofG hb ho).1 g b hg
        have hgi : g < i := by rw [← heg]; exact (back_ofG hb ho).2 e he hbd
        have hfg : f g = true := by rw [← heg]; exact hpre e he hbd
        have hv := hgu i o g b ho hg w _ (hI.have_ g (by omega) hfg)
        have hsg : slot g < a.tmps.size := by rw [hI.size]; exact hs g
        have hy : yielded ops a.tmps g = some (if sel i then b else !b) := by
          unfold yielded
          rw [Array.getElem?_eq_getElem (show g < ops.size by omega), Option.bind_some, hdst g _ (Array.getElem?_eq_getElem (by omega)), Option.bind_some, Array.getElem?_eq_getElem hsg]
          rw [Array.getD_eq_getD_getElem?, Array.getElem?_eq_getElem hsg, Option.getD_some] at hv
          rw [hv]
        show (yielded ops a.tmps g == some b) = sel i
        rw [hy]
        cases sel i <;> cases b <;> rfl
    rw [hwant]
    cases hsel : sel i with
    | true =>
      rw [if_pos rfl]
      refine Oper.wp_mono ?_ (hstep f a w i o ho hsel (fun e he hbd => hI.have_ e.on (by have := (back_ofG hb ho).2 e he hbd; omega) (hpre e he hbd)) hI.bel hI.rest)
      rintro a' w' ⟨v, rfl, hv, hbw⟩
      exact hput w' v hv hbw
    | false =>
      rw [if_neg (by decide)]
      exact hput w undef (hskip i w hi hsel) (Below.refl _ _)
  · intro f a w hall hI
    have e : a = { a0 with tmps := fillN slot (fun i => a.tmps.getD (slot i) undef) ops.size a0.tmps } := by
      have h1 : a.tmps = fillN slot (fun i => a.tmps.getD (slot i) undef) ops.size a0.tmps := by
        refine ext_getD (by rw [fillN_size, hI.size]) (fun j => ?_)
        by_cases hj : ∃ i, i < ops.size ∧ slot i = j
        · obtain ⟨i, hi, rfl⟩ := hj
          rw [fillN_at slot _ _ hs _ hinj i hi]
        · rw [fillN_get slot _ _ hs _ j (fun i hi e => hj ⟨i, hi, e⟩), hI.rest j (fun i hi e => hj ⟨i, hi, e⟩)]
      obtain ⟨t, d⟩ := a
      have h2 := hI.defers
      simp only at h1 h2
      rw [← h1, h2]
    rw [e]
    exact hdone _ w hI.bel (fun i hi => hI.have_ i hi (hall i hi))
end
end Go.Proofs.YthfdnlcalefjeaaDoor

/- A range over a function, by one law: the iterator may turn one block of its own between two rounds. No condition but those that each lemma states. -/
namespace Go.Proofs.YthfdnlcalefjeaaDoor
set_option linter.unusedVariables false
set_option linter.unusedSimpArgs false
open Go.RowKit
/-- what turns beside the body: the blocks that the iterator owns; from B on, blocks that are no cells -/
structure Turn (B : Nat) (own : Nat → Prop) (W W' : World) : Prop where
  os : W'.os = W.os
  tape : W'.tape = W.tape
  output : W'.output = W.output
  size : W.heap.size ≤ W'.heap.size
  block : ∀ k, k < W.heap.size → ¬ own k → (B ≤ k → ∀ o, W.heap[k]? = some o → o.isCells = true) → W'.heap[k]? = W.heap[k]?
theorem Turn.refl (B : Nat) (own : Nat → Prop) (W : World) : Turn B own W W := ⟨rfl, rfl, rfl, Nat.le_refl _, fun _ _ _ _ => rfl⟩
theorem Turn.trans {B : Nat} {own : Nat → Prop} {X Y Z : World} (h : Turn B own X Y) (k : Turn B own Y Z) : Turn B own X Z :=
  ⟨k.os.trans h.os, k.tape.trans h.tape, k.output.trans h.output, Nat.le_trans h.size k.size, fun i hi hr hc => by
    have e := h.block i hi hr hc
    exact (k.block i (Nat.lt_of_lt_of_le hi h.size) hr (fun hb o ho => hc hb o (by rw [← e]; exact ho))).trans e⟩
theorem Turn.grown {B : Nat} {own : Nat → Prop} {row : Option Nat} {W W' : World} (h : W.grownBy W' row) (hr : ∀ b, row = some b → own b) : Turn B own W W' :=
  ⟨h.os, h.tape, h.output, h.size, fun k hk ho _ => h.block k hk (fun e => ho (hr k e.symm))⟩
theorem Turn.alloc {B : Nat} {own : Nat → Prop} (W : World) (o : Obj) : Turn B own W (W.alloc o) := .grown (World.grownBy_alloc W o none) (fun _ h => by cases h)
theorem Turn.drew {B : Nat} {own : Nat → Prop} (W : World) : Turn B own W W.drew := ⟨rfl, rfl, rfl, Nat.le_refl _, fun _ _ _ _ => rfl⟩
theorem Turn.setCell {B : Nat} {own : Nat → Prop} (W : World) (b i : Nat) (v : Value) (h : own b) : Turn B own W (W.setCell ⟨b, i, none⟩ v) :=
  ⟨rfl, rfl, rfl, (KeepsWalks.setCell W _ v).size, fun k _ ho _ => Below.heap_setCell _ _ _ k (fun e => ho (by rw [e]; exact h))⟩
theorem Turn.putObj {B l : Nat} {own : Nat → Prop} {W : World} {o : Obj} (o' : Obj) (hl : B ≤ l) (h : W.heap[l]? = some o) (hc : o.isCells = false) : Turn B own W (W.putObj l o') :=
  ⟨rfl, rfl, rfl, by simp, fun k hk hr hb => World.putObj_heap_other (fun e => by subst e; rw [hb hl o h] at hc; cases hc)⟩
theorem Turn.cells {B k : Nat} {own : Nat → Prop} {W W' : World} {o : Obj} (h : Turn B own W W') (hk : W.heap[k]? = some o) (hc : o.isCells = true) (hr : ¬ own k) : W'.heap[k]? = some o :=
  (h.block k (Array.getElem?_eq_some_iff.1 hk).1 hr (fun _ o' ho => by rw [hk] at ho; cases ho; exact hc)).trans hk
theorem Turn.boxed {B k : Nat} {own : Nat → Prop} {W W' : World} {t : TypeId} {v : Value} (h : Turn B own W W') (hk : Boxed W k t v) (hr : ¬ own k) : Boxed W' k t v := h.cells hk rfl hr
theorem Turn.low {B k : Nat} {own : Nat → Prop} {W W' : World} {o : Obj} (h : Turn B own W W') (hk : W.heap[k]? = some o) (hb : k < B) (hr : ¬ own k) : W'.heap[k]? = some o :=
  (h.block k (Array.getElem?_eq_some_iff.1 hk).1 hr (fun _ => by omega)).trans hk
theorem Turn.below {B N : Nat} {own : Nat → Prop} {W W' : World} (h : Turn B own W W') (hN : N ≤ B) (hs : N ≤ W.heap.size) (hr : ∀ b, own b → N ≤ b) : Below N W W' :=
  ⟨h.os, h.tape, h.output, h.size, fun k hk => h.block k (by omega) (fun e => by have := hr k e; omega) (fun hb => by omega)⟩
theorem Turn.mono {B B' : Nat} {own own' : Nat → Prop} {W W' : World} (h : Turn B own W W') (hb : B' ≤ B) (ho : ∀ k, own k → own' k) : Turn B' own' W W' :=
  ⟨h.os, h.tape, h.output, h.size, fun k hk hr hc => h.block k hk (fun e => hr (ho k e)) (fun hB => hc (by omega))⟩
/-- what an iterator at W does: N calls of yield at most, one behind the other -/
def IterAt (F : Fence) (n : Nat) (P : Program) (gf : Nat) (lb : Array Value) (encs : Nat → Array Value) (N : Nat) (own : Nat → Prop) (Kp : World → World → Prop) (W : World) : Prop :=
  ∀ (l : Nat) (J : Nat → World → Prop) (Jx : World → Prop),
    (∀ k X Y, J k X → Turn W.heap.size own X Y → J k Y) → (∀ X Y, Jx X → Turn W.heap.size own X Y → Jx Y) →
    (∀ k X, k < N → J k X → YieldAt F (n - 1) P l (encs k) X fun e Y => (e = .returned (.bool true) ∧ J (k + 1) Y ∧ Kp X Y ∧ KeepsFrom W.heap.size X Y) ∨ (e = .returned (.bool false) ∧ Jx Y ∧ KeepsFrom W.heap.size X Y)) →
    J 0 W → CallsIn F n P gf (#[.func (.yield l) #[] #[]] ++ lb) W fun e Y => (∃ v, e = .returned v) ∧ (J N Y ∨ Jx Y)
theorem IterAt.inRound {F : Fence} {n : Nat} {P : Program} {gf : Nat} {lb : Array Value} {encs : Nat → Array Value} {N : Nat} {own : Nat → Prop} {Kp : World → World → Prop} {W : World} (l : Nat) (h : IterAt F n P gf lb encs N own Kp W) : IterAt (F.inRound l) n P gf lb encs N own Kp W := h
/-- the blocks of the iterator's own lie as they lay -/
def Keep (own : Nat → Prop) (X Y : World) : Prop := ∀ b, own b → Y.heap[b]? = X.heap[b]?
theorem Keep.trans {own : Nat → Prop} {X Y Z : World} (h : Keep own X Y) (k : Keep own Y Z) : Keep own X Z := fun b hb => (k b hb).trans (h b hb)
theorem Keep.putObj {own : Nat → Prop} (W : World) (l : Nat) (o : Obj) (h : ¬ own l) : Keep own W (W.putObj l o) := fun b hb => World.putObj_heap_other (fun e => h (e ▸ hb))
theorem Keep.below {own : Nat → Prop} {N : Nat} {X Y : World} (h : Below N X Y) (ho : ∀ b, own b → b < N) : Keep own X Y := fun b hb => h.block b (ho b hb)
/-- how a round's body may be left -/
def rfPost (B : Nat) (Kp : World → World → Prop) (I : World → Prop) (Ix : Code → World → Prop) (W : World) : Exit → Act → World → Prop
  | .normal, _, W' => KeepsFrom B W W' ∧ Kp W W' ∧ I W'
  | .ret, _, W' => KeepsFrom B W W' ∧ Ix .ret W'
  | .exit id, _, W' => KeepsFrom B W W' ∧ Ix (.exit id) W'
  | .goto t, _, W' => KeepsFrom B W W' ∧ Ix (.goto t) W'
  | .panic _, _, _ => False
  | .outgrown, _, _ => False
variable {F : Fence} {n : Nat} {P : Program}
/-- the loop's one call, its record laid -/
theorem rf_core {fn : FuncId} {tmps : Array Value} {dfr : Nat} {ps : Array Tmp} {assign body : Code} {Q : Exit → Act → World → Prop} {a' : Act} {B l : Nat} {W1 : World} {rec : LoopState → Option Code → Loop}
    (hrec : rec = fun st pe => { state := st, pending := pe, fn, tmps, params := ps, assign, body, defers := dfr }) (hfn : F.fn fn)
    {gf : Nat} {lb : Array Value} {encs : Nat → Array Value} {N : Nat} {own : Nat → Prop} {Kp : World → World → Prop} (hps : ∀ k, (encs k).size = ps.size)
    (hBl : B ≤ l) (hrow : ¬ own l) (hL1 : W1.heap[l]? = some (.loop (rec .ready none)))
    (hit : IterAt F (n - 1) P gf lb encs N own Kp W1)
    (hKt : ∀ {A B C : World}, Kp A B → Kp B C → Kp A C) (hKb : ∀ (W : World) (o o' : Obj), W.heap[l]? = some o → o.isCells = false → Kp W (W.putObj l o'))
    (I : Nat → World → Prop) (Ix : Code → World → Prop) (hIg : ∀ k X Y, I k X → Turn W1.heap.size own X Y → I k Y) (hIp : ∀ k X r o, I k X → X.heap[l]? = some (.loop r) → I k (X.putObj l o))
    (hXg : ∀ c X Y, Ix c X → Turn W1.heap.size own X Y → Ix c Y) (hXp : ∀ c X r o, Ix c X → X.heap[l]? = some (.loop r) → Ix c (X.putObj l o)) (h0 : I 0 W1)
    (Ax : Nat → Act → World → Prop) (hAp : ∀ k b X r o, Ax k b X → X.heap[l]? = some (.loop r) → Ax k b (X.putObj l o))
    (hassign : ∀ (k : Nat) (W : World) (K : Act → World → Prop), k < N → I k W → (∀ b W', KeepsFrom B W W' → Kp W W' → I k W' → Ax k b W' → K b W') →
      assign.wpIn (F.inRound l) (n - 1 - 1) P (Exit.then K (fun _ _ _ => False)) { tmps := (ps.zip (encs k)).foldl (fun t (p, v) => t.setIfInBounds p v) tmps, defers := [] } W)
    (hbody : ∀ (k : Nat) (b : Act) (W : World), (∃ r, W.heap[l]? = some (.loop r)) → k < N → I k W → Ax k b W → body.wpIn (F.inRound l) (n - 1 - 1) P (rfPost B Kp (I (k + 1)) Ix W) b W)
    (hdone : ∀ (W : World), I N W → Q .normal a' W) (hstop : ∀ (c : Code) (W : World), Ix c W → c.wpIn F n P Q a' W) :
    CallsIn F (n - 1) P gf (#[.func (.yield l) #[] #[]] ++ lb) W1 (rangePost F n P l Q a') := by
  refine (hit l (fun k W => I k W ∧ W.heap[l]? = some (.loop (rec .ready none))) (fun W => ∃ c, Ix c W ∧ W.heap[l]? = some (.loop (rec .done (some c))))
    (fun k X Y hs hg => ⟨hIg k X Y hs.1 hg, hg.low hs.2 (Array.getElem?_eq_some_iff.1 hL1).1 hrow⟩)
    (fun X Y hs hg => by obtain ⟨c, hc, hl⟩ := hs; exact ⟨c, hXg c X Y hc hg, hg.low hl (Array.getElem?_eq_some_iff.1 hL1).1 hrow⟩) ?_ ⟨h0, hL1⟩).mono ?_
  · rintro k W hkN ⟨hi, hl⟩
    have hy := run_yield (P := P) (args := encs k) hl (by rw [hrec]; exact hps k)
    rw [hrec] at hy
    refine ⟨fn, _, assign, body, hy, roundIn_of_wpIn hfn (hassign k W _ hkN hi ?_)⟩
    clear hy
    intro b Wa hkfa hkpa hia hax
    have hla := hkfa.same _ _ hBl hl rfl
    have hlt : l < Wa.heap.size := (Array.getElem?_eq_some_iff.1 hla).1
    refine ⟨_, run_beginRound hla (by rw [hrec]), ?_⟩
    have hl2 : (Wa.putObj l (.loop { rec .ready none with state := .busy })).heap[l]? = some (.loop { rec .ready none with state := .busy }) := World.putObj_heap_same hlt
    have hw2 : Kp Wa (Wa.putObj l (.loop { rec .ready none with state := .busy })) := hKb _ _ _ hla rfl
    refine wpIn_mono (hbody k b _ ⟨_, hl2⟩ hkN (hIp k _ _ _ hia hla) (hAp k b _ _ _ hax hla)) ?_
    have fin : ∀ (jump : Option Code) (W3 : World), KeepsFrom B (Wa.putObj l (.loop { rec .ready none with state := .busy })) W3 →
        (Instr.endRound l jump).run P W3 = .ok (.bool jump.isNone) (W3.putObj l (.loop (rec (if jump.isNone then .ready else .done) jump))) ∧
        W3.heap[l]? = some (.loop { rec .ready none with state := .busy }) ∧
        (W3.putObj l (.loop (rec (if jump.isNone then .ready else .done) jump))).heap[l]? = some (.loop (rec (if jump.isNone then .ready else .done) jump)) := fun jump W3 hk3 => by
      have hl3 := hk3.same _ _ hBl hl2 rfl
      have := run_endRound (P := P) jump hl3
      rw [hrec] at this ⊢
      exact ⟨this, by rw [hrec] at hl3; exact hl3, World.putObj_heap_same (Array.getElem?_eq_some_iff.1 hl3).1⟩
    have hsl : l < W1.heap.size := (Array.getElem?_eq_some_iff.1 hL1).1
    have kp : ∀ (X : World) (o : Obj), KeepsFrom W1.heap.size X (X.putObj l o) := fun X o => ⟨by simp, fun k o' hk h1 _ => (World.putObj_heap_other (by omega)).trans h1⟩
    have hBW : B ≤ W1.heap.size := by omega
    have up : ∀ {X Y : World}, KeepsFrom B X Y → KeepsFrom W1.heap.size X Y := fun h => ⟨h.size, fun k o hk h1 h2 => h.same k o (by omega) h1 h2⟩
    have kall : ∀ {W3 : World} (o : Obj), KeepsFrom B (Wa.putObj l (.loop { rec .ready none with state := .busy })) W3 → KeepsFrom W1.heap.size W (W3.putObj l o) := fun o h => (up hkfa).trans ((kp _ _).trans ((up h).trans (kp _ _)))
    rintro e a3 W3 hp
    cases e with
    | normal =>
      obtain ⟨hk3, hkp3, hi3⟩ := hp
      obtain ⟨hr, hl3, hl4⟩ := fin none W3 hk3
      exact ⟨_, _, hr, .inl ⟨rfl, ⟨hIp _ _ _ _ hi3 hl3, hl4⟩, hKt hkpa (hKt (hKt hw2 hkp3) (hKb _ _ _ hl3 rfl)), kall _ hk3⟩⟩
    | ret =>
      obtain ⟨hk3, hi3⟩ := hp
      obtain ⟨hr, hl3, hl4⟩ := fin (some .ret) W3 hk3
      exact ⟨_, _, hr, .inr ⟨rfl, ⟨.ret, hXp _ _ _ _ hi3 hl3, hl4⟩, kall _ hk3⟩⟩
    | exit id =>
      obtain ⟨hk3, hi3⟩ := hp
      obtain ⟨hr, hl3, hl4⟩ := fin (some (.exit id)) W3 hk3
      exact ⟨_, _, hr, .inr ⟨rfl, ⟨.exit id, hXp _ _ _ _ hi3 hl3, hl4⟩, kall _ hk3⟩⟩
    | goto t =>
      obtain ⟨hk3, hi3⟩ := hp
      obtain ⟨hr, hl3, hl4⟩ := fin (some (.goto t)) W3 hk3
      exact ⟨_, _, hr, .inr ⟨rfl, ⟨.goto t, hXp _ _ _ _ hi3 hl3, hl4⟩, kall _ hk3⟩⟩
    | panic ch => exact hp.elim
    | outgrown => exact hp.elim
  · rintro e W2 ⟨⟨v, rfl⟩, (⟨hi, hl⟩ | ⟨c, hi, hl⟩)⟩
    · exact ⟨none, _, by have := run_endLoop (P := P) hl (by rw [hrec]; simp); rw [hrec] at this; exact this, hdone _ (hIp _ _ _ _ hi hl)⟩
    · exact ⟨some c, _, by have := run_endLoop (P := P) hl (by rw [hrec]; simp); rw [hrec] at this; exact this, hstop c _ (hXp _ _ _ _ hi hl)⟩
/-- the statement, where no loop over an iterator is round it -/
theorem rf_outer {g : Operand} {ps : Array Tmp} {assign body : Code} {Q : Exit → Act → World → Prop} {a : Act} {w : World}
    (hro : F.round = none) (h1 : 1 ≤ n) {gf : Nat} {lb : Array Value} (hg : a.eval g = .func (.func gf) #[] lb) (hFg : F.fn gf) (eg : ∀ args w, (callFunc gf args).run P w = .ok (.enter gf args) w)
    {encs : Nat → Array Value} {N : Nat} {own : Nat → Prop} {Kp : World → World → Prop} (hps : ∀ k, (encs k).size = ps.size) (hrow : ∀ b, own b → b ≠ w.heap.size ∧ b ≠ w.heap.size + 1)
    (hit : ∀ W, Below w.heap.size w W → W.heap.size = w.heap.size + 2 → IterAt F (n - 1) P gf lb encs N own Kp W)
    (hKt : ∀ {A B C : World}, Kp A B → Kp B C → Kp A C) (hKb : ∀ (W : World) (o o' : Obj), W.heap[w.heap.size + 1]? = some o → o.isCells = false → Kp W (W.putObj (w.heap.size + 1) o'))
    (I : Nat → World → Prop) (Ix : Code → World → Prop) (hI : ∀ k X Y, I k X → Turn w.heap.size own X Y → I k Y) (hIx : ∀ c X Y, Ix c X → Turn w.heap.size own X Y → Ix c Y) (h0 : I 0 w)
    (Ax : Nat → Act → World → Prop) (hAx : ∀ k b X Y, Ax k b X → Turn w.heap.size own X Y → Ax k b Y)
    (hassign : ∀ (l k : Nat) (W : World) (K : Act → World → Prop), k < N → I k W → (∀ b W', KeepsFrom w.heap.size W W' → Kp W W' → I k W' → Ax k b W' → K b W') →
      assign.wpIn (F.inRound l) (n - 1 - 1) P (Exit.then K (fun _ _ _ => False)) { tmps := (ps.zip (encs k)).foldl (fun t (p, v) => t.setIfInBounds p v) a.tmps, defers := [] } W)
    (hbody : ∀ (l k : Nat) (b : Act) (W : World), w.heap.size ≤ l → (∃ r, W.heap[l]? = some (.loop r)) → k < N → I k W → Ax k b W → body.wpIn (F.inRound l) (n - 1 - 1) P (rfPost w.heap.size Kp (I (k + 1)) Ix W) b W)
    (hdone : ∀ (D : Nat) (W : World), w.heap.size ≤ D → I N W → W.heap[D]? = some (.deferred (some [])) → Q .normal { a with defers := { target := .collected D, args := #[] } :: a.defers } W)
    (hstop : ∀ (D : Nat) (c : Code) (W : World), w.heap.size ≤ D → Ix c W → W.heap[D]? = some (.deferred (some [])) → c.wpIn F n P Q { a with defers := { target := .collected D, args := #[] } :: a.defers } W) :
    (Code.rangeFunc g ps assign body).wpIn F n P Q a w := by
  refine wpIn_rangeFunc ?_
  intro fn hfn
  rw [hro]
  obtain ⟨rec, hrec⟩ : ∃ rec : LoopState → Option Code → Loop, rec = fun st pe => { state := st, pending := pe, fn, tmps := a.tmps, params := ps, assign, body, defers := w.heap.size } := ⟨_, rfl⟩
  obtain ⟨W1, hW1⟩ : ∃ W1, (w.alloc (.deferred (some []))).alloc (.loop (rec .ready none)) = W1 := ⟨_, rfl⟩
  have hL1 : W1.heap[w.heap.size + 1]? = some (.loop (rec .ready none)) := by
    rw [← hW1]; have := World.alloc_heap_new (w.alloc (.deferred (some []))) (.loop (rec .ready none)); rwa [World.size_alloc] at this
  have hK1 : W1.heap[w.heap.size]? = some (.deferred (some [])) := by
    rw [← hW1]; exact (Below.heap_alloc _ _ _ (by simp)).trans (World.alloc_heap_new w _)
  have hI1 : I 0 W1 := by rw [← hW1]; exact hI _ _ _ (hI _ _ _ h0 (.alloc _ _)) (.alloc _ _)
  have hb1 : Below w.heap.size w W1 := by
    rw [← hW1]; exact ((Below.refl _ w).alloc (Nat.le_refl _) _).alloc (by simp) _
  have hs1 : W1.heap.size = w.heap.size + 2 := by rw [← hW1]; simp
  have hr0 : ¬ own w.heap.size := fun e => (hrow _ e).1 rfl
  have hr1 : ¬ own (w.heap.size + 1) := fun e => (hrow _ e).2 rfl
  refine ⟨w.heap.size + 1, [{ target := .collected w.heap.size, args := #[] }], W1, { target := .fn (.func gf) lb, args := #[.func (.yield (w.heap.size + 1)) #[] #[]] }, W1, gf,
    #[.func (.yield (w.heap.size + 1)) #[] #[]] ++ lb, W1, ?_, ?_, ?_, ?_, fun _ => h1, ?_⟩
  · rw [← hW1, hrec]; exact run_enterLoop_outer _ _ _ _ _
  · simp only [resolve, hg]
    simp [go_sem]
  · intro f' hf'; simp [Target.leads] at hf'; subst hf'; exact hFg
  · simp [invoke, go_sem, eg]
  · have hne : w.heap.size ≠ w.heap.size + 1 := by omega
    refine rf_core hrec hfn (B := w.heap.size) hps (by omega) hr1 hL1 (hit W1 hb1 hs1) hKt hKb
      (fun k W => I k W ∧ W.heap[w.heap.size]? = some (.deferred (some []))) (fun c W => Ix c W ∧ W.heap[w.heap.size]? = some (.deferred (some [])))
      (fun k X Y hs hg => ⟨hI _ _ _ hs.1 (hg.mono (by omega) fun _ h => h), hg.low hs.2 (by omega) hr0⟩)
      (fun k X r o hs hl => ⟨hI _ _ _ hs.1 (.putObj _ (by omega) hl rfl), (World.putObj_heap_other hne).trans hs.2⟩)
      (fun c X Y hs hg => ⟨hIx _ _ _ hs.1 (hg.mono (by omega) fun _ h => h), hg.low hs.2 (by omega) hr0⟩)
      (fun c X r o hs hl => ⟨hIx _ _ _ hs.1 (.putObj _ (by omega) hl rfl), (World.putObj_heap_other hne).trans hs.2⟩)
      ⟨hI1, hK1⟩ Ax (fun k b X r o hs hl => hAx _ _ _ _ hs (.putObj _ (by omega) hl rfl)) ?_ ?_ ?_ ?_
    · intro k W K hk hi hK
      exact hassign _ k W K hk hi.1 (fun b W' h1 h2 h3 h4 => hK b W' h1 h2 ⟨h3, h1.same _ _ (Nat.le_refl _) hi.2 rfl⟩ h4)
    · intro k b W hr hk hi ha
      refine wpIn_mono (hbody _ k b W (by omega) hr hk hi.1 ha) ?_
      intro e a3 W3 hp
      cases e with
      | normal => exact ⟨hp.1, hp.2.1, hp.2.2, hp.1.same _ _ (Nat.le_refl _) hi.2 rfl⟩
      | ret => exact ⟨hp.1, hp.2, hp.1.same _ _ (Nat.le_refl _) hi.2 rfl⟩
      | exit id => exact ⟨hp.1, hp.2, hp.1.same _ _ (Nat.le_refl _) hi.2 rfl⟩
      | goto t => exact ⟨hp.1, hp.2, hp.1.same _ _ (Nat.le_refl _) hi.2 rfl⟩
      | panic ch => exact hp
      | outgrown => exact hp
    · exact fun W hi => hdone _ W (Nat.le_refl _) hi.1 hi.2
    · exact fun c W hi => hstop _ c W (Nat.le_refl _) hi.1 hi.2
/-- the statement within a round of another such loop -/
theorem rf_inner {g : Operand} {ps : Array Tmp} {assign body : Code} {Q : Exit → Act → World → Prop} {a : Act} {w : World} {l₀ : Nat} {r₀ : Loop}
    (hro : F.round = some l₀) (hr₀ : w.heap[l₀]? = some (.loop r₀)) (h1 : 1 ≤ n) {gf : Nat} {lb : Array Value} (hg : a.eval g = .func (.func gf) #[] lb) (hFg : F.fn gf) (eg : ∀ args w, (callFunc gf args).run P w = .ok (.enter gf args) w)
    {encs : Nat → Array Value} {N : Nat} {own : Nat → Prop} {Kp : World → World → Prop} (hps : ∀ k, (encs k).size = ps.size) (hrow : ∀ b, own b → b ≠ w.heap.size)
    (hit : ∀ W, Below w.heap.size w W → W.heap.size = w.heap.size + 1 → IterAt F (n - 1) P gf lb encs N own Kp W)
    (hKt : ∀ {A B C : World}, Kp A B → Kp B C → Kp A C) (hKb : ∀ (W : World) (o o' : Obj), W.heap[w.heap.size]? = some o → o.isCells = false → Kp W (W.putObj w.heap.size o'))
    (I : Nat → World → Prop) (Ix : Code → World → Prop) (hI : ∀ k X Y, I k X → Turn w.heap.size own X Y → I k Y) (hIx : ∀ c X Y, Ix c X → Turn w.heap.size own X Y → Ix c Y) (h0 : I 0 w)
    (Ax : Nat → Act → World → Prop) (hAx : ∀ k b X Y, Ax k b X → Turn w.heap.size own X Y → Ax k b Y)
    (hassign : ∀ (l k : Nat) (W : World) (K : Act → World → Prop), k < N → I k W → (∀ b W', KeepsFrom w.heap.size W W' → Kp W W' → I k W' → Ax k b W' → K b W') →
      assign.wpIn (F.inRound l) (n - 1 - 1) P (Exit.then K (fun _ _ _ => False)) { tmps := (ps.zip (encs k)).foldl (fun t (p, v) => t.setIfInBounds p v) a.tmps, defers := [] } W)
    (hbody : ∀ (l k : Nat) (b : Act) (W : World), w.heap.size ≤ l → (∃ r, W.heap[l]? = some (.loop r)) → k < N → I k W → Ax k b W → body.wpIn (F.inRound l) (n - 1 - 1) P (rfPost w.heap.size Kp (I (k + 1)) Ix W) b W)
    (hdone : ∀ (W : World), I N W → Q .normal a W)
    (hstop : ∀ (c : Code) (W : World), Ix c W → c.wpIn F n P Q a W) :
    (Code.rangeFunc g ps assign body).wpIn F n P Q a w := by
  refine wpIn_rangeFunc ?_
  intro fn hfn
  rw [hro]
  obtain ⟨rec, hrec⟩ : ∃ rec : LoopState → Option Code → Loop, rec = fun st pe => { state := st, pending := pe, fn, tmps := a.tmps, params := ps, assign, body, defers := r₀.defers } := ⟨_, rfl⟩
  obtain ⟨W1, hW1⟩ : ∃ W1, w.alloc (.loop (rec .ready none)) = W1 := ⟨_, rfl⟩
  have hL1 : W1.heap[w.heap.size]? = some (.loop (rec .ready none)) := by
    rw [← hW1]; exact World.alloc_heap_new _ _
  have hI1 : I 0 W1 := by rw [← hW1]; exact hI _ _ _ h0 (.alloc _ _)
  have hb1 : Below w.heap.size w W1 := by
    rw [← hW1]; exact (Below.refl _ w).alloc (Nat.le_refl _) _
  have hs1 : W1.heap.size = w.heap.size + 1 := by rw [← hW1]; simp
  have hr1 : ¬ own w.heap.size := fun e => hrow _ e rfl
  refine ⟨w.heap.size, [], W1, { target := .fn (.func gf) lb, args := #[.func (.yield w.heap.size) #[] #[]] }, W1, gf,
    #[.func (.yield w.heap.size) #[] #[]] ++ lb, W1, ?_, ?_, ?_, ?_, fun _ => h1, ?_⟩
  · rw [← hW1, hrec]; exact run_enterLoop_inner hr₀ _ _ _ _ _
  · simp only [resolve, hg]
    simp [go_sem]
  · intro f' hf'; simp [Target.leads] at hf'; subst hf'; exact hFg
  · simp [invoke, go_sem, eg]
  · exact rf_core hrec hfn (B := w.heap.size) hps (Nat.le_refl _) hr1 hL1 (hit W1 hb1 hs1) hKt hKb I Ix
      (fun k X Y hs hg => hI _ _ _ hs (hg.mono (by omega) fun _ h => h)) (fun k X r o hs hl => hI _ _ _ hs (.putObj _ (Nat.le_refl _) hl rfl))
      (fun c X Y hs hg => hIx _ _ _ hs (hg.mono (by omega) fun _ h => h)) (fun c X r o hs hl => hIx _ _ _ hs (.putObj _ (Nat.le_refl _) hl rfl))
      hI1 Ax (fun k b X r o hs hl => hAx _ _ _ _ hs (.putObj _ (Nat.le_refl _) hl rfl)) (fun k W K hk hi hK => hassign _ k W K hk hi hK) (fun k b W hr hk hi ha => hbody _ k b W (Nat.le_refl _) hr hk hi ha) (fun W hi => hdone W hi) (fun c W hi => hstop c W hi)
/-- the statement, its body left by a break alone -/
theorem rf_break {g : Operand} {ps : Array Tmp} {assign body : Code} {Q : Exit → Act → World → Prop} {id : Nat} {a : Act} {w : World}
    (hro : F.round = none) (h1 : 1 ≤ n) {gf : Nat} {lb : Array Value} (hg : a.eval g = .func (.func gf) #[] lb) (hFg : F.fn gf) (eg : ∀ args w, (callFunc gf args).run P w = .ok (.enter gf args) w)
    {encs : Nat → Array Value} {N : Nat} {own : Nat → Prop} {Kp : World → World → Prop} (hps : ∀ k, (encs k).size = ps.size) (hrow : ∀ b, own b → b ≠ w.heap.size ∧ b ≠ w.heap.size + 1)
    (hit : ∀ W, Below w.heap.size w W → W.heap.size = w.heap.size + 2 → IterAt F (n - 1) P gf lb encs N own Kp W)
    (hKt : ∀ {A B C : World}, Kp A B → Kp B C → Kp A C) (hKb : ∀ (W : World) (o o' : Obj), W.heap[w.heap.size + 1]? = some o → o.isCells = false → Kp W (W.putObj (w.heap.size + 1) o'))
    (I : Nat → World → Prop) (IE : World → Prop) (hI : ∀ k X Y, I k X → Turn w.heap.size own X Y → I k Y) (hIE : ∀ X Y, IE X → Turn w.heap.size own X Y → IE Y) (h0 : I 0 w)
    (Ax : Nat → Act → World → Prop) (hAx : ∀ k b X Y, Ax k b X → Turn w.heap.size own X Y → Ax k b Y)
    (hassign : ∀ (l k : Nat) (W : World) (K : Act → World → Prop), k < N → I k W → (∀ b W', KeepsFrom w.heap.size W W' → Kp W W' → I k W' → Ax k b W' → K b W') →
      assign.wpIn (F.inRound l) (n - 1 - 1) P (Exit.then K (fun _ _ _ => False)) { tmps := (ps.zip (encs k)).foldl (fun t (p, v) => t.setIfInBounds p v) a.tmps, defers := [] } W)
    (hbody : ∀ (l k : Nat) (b : Act) (W : World), w.heap.size ≤ l → (∃ r, W.heap[l]? = some (.loop r)) → k < N → I k W → Ax k b W → body.wpIn (F.inRound l) (n - 1 - 1) P (rfPost w.heap.size Kp (I (k + 1)) (fun c X => c = .exit id ∧ IE X) W) b W)
    (hall : ∀ W, I N W → IE W) (hend : ∀ (D : Nat) (W : World), w.heap.size ≤ D → IE W → W.heap[D]? = some (.deferred (some [])) → Q .normal { a with defers := { target := .collected D, args := #[] } :: a.defers } W) :
    (Code.rangeFunc g ps assign body).wpIn F n P (Exit.inBlock id Q) a w :=
  rf_outer hro h1 hg hFg eg hps hrow hit hKt hKb I (fun c X => c = .exit id ∧ IE X) hI (fun c X Y hs ht => ⟨hs.1, hIE X Y hs.2 ht⟩) h0 Ax hAx hassign hbody
    (fun D W h1 hi h2 => hend D W h1 (hall W hi) h2) (fun D c W h1 hi h2 => by obtain ⟨rfl, hi⟩ := hi; exact wpIn_exit (by simp only [Exit.inBlock, ↓reduceIte]; exact hend D W h1 hi h2))
/-- likewise, within a round of another such loop -/
theorem rf_break_inner {g : Operand} {ps : Array Tmp} {assign body : Code} {Q : Exit → Act → World → Prop} {id : Nat} {a : Act} {w : World} {l₀ : Nat} {r₀ : Loop}
    (hro : F.round = some l₀) (hr₀ : w.heap[l₀]? = some (.loop r₀)) (h1 : 1 ≤ n) {gf : Nat} {lb : Array Value} (hg : a.eval g = .func (.func gf) #[] lb) (hFg : F.fn gf) (eg : ∀ args w, (callFunc gf args).run P w = .ok (.enter gf args) w)
    {encs : Nat → Array Value} {N : Nat} {own : Nat → Prop} {Kp : World → World → Prop} (hps : ∀ k, (encs k).size = ps.size) (hrow : ∀ b, own b → b ≠ w.heap.size)
    (hit : ∀ W, Below w.heap.size w W → W.heap.size = w.heap.size + 1 → IterAt F (n - 1) P gf lb encs N own Kp W)
    (hKt : ∀ {A B C : World}, Kp A B → Kp B C → Kp A C) (hKb : ∀ (W : World) (o o' : Obj), W.heap[w.heap.size]? = some o → o.isCells = false → Kp W (W.putObj w.heap.size o'))
    (I : Nat → World → Prop) (IE : World → Prop) (hI : ∀ k X Y, I k X → Turn w.heap.size own X Y → I k Y) (hIE : ∀ X Y, IE X → Turn w.heap.size own X Y → IE Y) (h0 : I 0 w)
    (Ax : Nat → Act → World → Prop) (hAx : ∀ k b X Y, Ax k b X → Turn w.heap.size own X Y → Ax k b Y)
    (hassign : ∀ (l k : Nat) (W : World) (K : Act → World → Prop), k < N → I k W → (∀ b W', KeepsFrom w.heap.size W W' → Kp W W' → I k W' → Ax k b W' → K b W') →
      assign.wpIn (F.inRound l) (n - 1 - 1) P (Exit.then K (fun _ _ _ => False)) { tmps := (ps.zip (encs k)).foldl (fun t (p, v) => t.setIfInBounds p v) a.tmps, defers := [] } W)
    (hbody : ∀ (l k : Nat) (b : Act) (W : World), w.heap.size ≤ l → (∃ r, W.heap[l]? = some (.loop r)) → k < N → I k W → Ax k b W → body.wpIn (F.inRound l) (n - 1 - 1) P (rfPost w.heap.size Kp (I (k + 1)) (fun c X => c = .exit id ∧ IE X) W) b W)
    (hall : ∀ W, I N W → IE W) (hend : ∀ (W : World), IE W → Q .normal a W) :
    (Code.rangeFunc g ps assign body).wpIn F n P (Exit.inBlock id Q) a w :=
  rf_inner hro hr₀ h1 hg hFg eg hps hrow hit hKt hKb I (fun c X => c = .exit id ∧ IE X) hI (fun c X Y hs ht => ⟨hs.1, hIE X Y hs.2 ht⟩) h0 Ax hAx hassign hbody
    (fun W hi => hend W (hall W hi)) (fun c W hi => by obtain ⟨rfl, hi⟩ := hi; exact wpIn_exit (by simp only [Exit.inBlock, ↓reduceIte]; exact hend W hi))
/-! where no depth is asked, the figures are all one -/
theorem roundIn_any {m : Nat} (m' : Nat) {l : Nat} {f : FuncId} {tmps : Array Value} {assign body : Code} {w : World} {R : Ending → World → Prop}
    (h : RoundIn Fence.wide m P l f tmps assign body w R) : RoundIn Fence.wide m' P l f tmps assign body w R := ⟨h.1, fun c cs _ => h.2 c cs (fun d h => by cases h)⟩
theorem yieldAt_any {m : Nat} (m' : Nat) {l : Nat} {args : Array Value} {W : World} {R : Ending → World → Prop} (h : YieldAt Fence.wide m P l args W R) : YieldAt Fence.wide m' P l args W R := by
  obtain ⟨fn, tmps, assign, body, hy, hR⟩ := h
  exact ⟨fn, tmps, assign, body, hy, roundIn_any m' hR⟩
theorem IterAt.any {m : Nat} (m' : Nat) {gf : Nat} {lb : Array Value} {encs : Nat → Array Value} {N : Nat} {own : Nat → Prop} {Kp : World → World → Prop} {W : World} (h : IterAt Fence.wide m P gf lb encs N own Kp W) : IterAt Fence.wide m' P gf lb encs N own Kp W :=
  fun l J Jx hJ hJx hY h0 => callsIn_wide.2 (callsIn_wide.1 (h l J Jx hJ hJx (fun k X hk hj => yieldAt_any _ (hY k X hk hj)) h0))
theorem wpW_scope {c : Code} {Q : Exit → Act → World → Prop} {a : Act} {w : World} {m : Nat} (h : c.wpIn Fence.wide m P (Exit.noGoto Q) a w) : (Code.scope c).wpIn Fence.wide m P Q a w := wpIn_wide.2 (wp_scope_straight (wpIn_wide.1 h))
end Go.Proofs.YthfdnlcalefjeaaDoor
