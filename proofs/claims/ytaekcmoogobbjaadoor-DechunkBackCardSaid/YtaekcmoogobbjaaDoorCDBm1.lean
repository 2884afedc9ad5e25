/- Texts of this claim, one behind the other: Tp, Tq, Dp, Dq, Dh, N1, Kit, Tw1, Tw2, Shelf, Tw3, Tw4, Dw1, Dr1, Dr2, Dr3, Dr4, Ck0, CkC, CkE, CkJ, Rv, Rf. -/
import Derived.Below
import Derived.Lib.Hide
import Derived.Lib.SlTrimSet
import Derived.Lib.Bytealg
import Derived.Lib.ItoaNum
import Derived.Test.YtaekcmoogobbjaaDoorRows
import Derived.WalkKit
import Derived.WalkLawsBesides
import Derived.WalkSpells
import Derived.Outline
import Derived.OneCell
import Derived.Laws.EntriesVeiled
import Derived.WalkMore
import Derived.Lib.ConvBytes
import Derived.Shelf.Abstract
import Derived.Lib.IndexBytes
import Derived.Shelf.Strings.Trim
import Derived.Shelf.Small.Utf8
import Derived.Shelf.Small.Strs
import Derived.Shelf.Strconv.Itoa0
import Derived.Shelf.Strconv.Itoa1
import Derived.Shelf.LaysM
import Derived.Shelf.Strconv.Itoa2
import Derived.Shelf.Strings.Search1
import Derived.Shelf.Strings.Search2
import Derived.Shelf.Strings.Cut
import Derived.Shelf.Strings.Shaped
import Derived.Shelf.Unicode.Decode
import Derived.Shelf.Strings.Runes
import Derived.Shelf.Strings.AsciiSet
import Derived.Shelf.Unicode.DecodeSlow
import Derived.Shelf.Unicode.DecodeAny
import Derived.Shelf.Unicode.DecodeLast
import Derived.Test.YtaekcmoogobbjaaDoorProg
import Derived.Shelf.Strings.SlTrimAscii
import Derived.Lib.ItoaMem
import Derived.Laws.AppendOwn
import Derived.Laws.AppendOwnNone
import Derived.Laws.OwnMore
import Derived.ProofKit
import Derived.Orders
import Derived.RangeFuncNested
import Derived.RangeFuncBound
import Derived.RangeFuncCalls
import Derived.RangeFuncLeaves
import Derived.Scope
/- What layer 9 (token) tells of bytes and texts, as plain functions: no program in sight. -/
namespace Go.Proofs.YtaekcmoogobbjaaDoor
set_option linter.unusedVariables false
set_option linter.unusedSimpArgs false
namespace Tp
/-- the signs of a token that are no letters and no digits -/
def SG : ByteArray := ⟨#[33, 35, 36, 37, 38, 39, 42, 43, 45, 46, 94, 95, 96, 124, 126]⟩
def signB (c : Int) : Bool := SG.data.toList.any fun x => decide ((x.toNat : Int) = c)
/-- a token's byte -/
def tokB (c : Int) : Bool := decide (97 ≤ c ∧ c ≤ 122) || decide (65 ≤ c ∧ c ≤ 90) || decide (48 ≤ c ∧ c ≤ 57) || signB c
/-- a value's byte -/
def valB (c : Int) : Bool := decide (c = 9) || (decide (32 ≤ c) && decide (c ≠ 127))
def lowB (c : Int) : Int := if 65 ≤ c ∧ c ≤ 90 then c + 32 else c
def blank (c : Int) : Bool := decide (c = 9) || decide (c = 32)
def allT (f : Int → Bool) (l : List UInt8) : Bool := l.all fun c => f c.toNat
theorem allT_no {f : Int → Bool} {l : List UInt8} {k : Nat} (hk : k < l.length) (h : f (l[k].toNat : Int) = false) : allT f l = false := by
  unfold allT
  rw [List.all_eq_false]
  exact ⟨l[k], List.getElem_mem hk, by simpa using h⟩
theorem allT_snoc {f : Int → Bool} {l : List UInt8} {c : UInt8} (h : allT f l = true) (hc : f (c.toNat : Int) = true) : allT f (l ++ [c]) = true := by
  unfold allT at *
  rw [List.all_append, h]
  simpa using hc
def SGx (j : Nat) : Int := (SG.data.toList.getD j 0).toNat
theorem SG_size : SG.size = 15 := by decide
theorem SG_at (j : Nat) (h : j < SG.size) : ((SG[j]'h).toNat : Int) = SGx j := by
  unfold SGx
  rw [List.getD_eq_getElem?_getD, List.getElem?_eq_getElem (by simpa using h)]
  rfl
theorem SG_ascii (j : Nat) (h : j < SG.size) : (SG[j]'h).toNat < 128 := by
  have : ∀ x ∈ SG.data.toList, x.toNat < 128 := by decide
  exact this _ (by exact List.getElem_mem (l := SG.data.toList) (by simpa using h))
theorem signB_yes {c : Int} {j : Nat} (h : j < 15) (hc : SGx j = c) : signB c = true := by
  unfold signB
  rw [List.any_eq_true]
  exact ⟨SG.data.toList.getD j 0, by rw [List.getD_eq_getElem?_getD, List.getElem?_eq_getElem (by exact h)]; exact List.getElem_mem _, decide_eq_true hc⟩
theorem signB_no {c : Int} (h : ∀ j, j < 15 → SGx j ≠ c) : signB c = false := by
  unfold signB
  rw [List.any_eq_false]
  intro x hx
  obtain ⟨j, hj, rfl⟩ := List.mem_iff_getElem.1 hx
  have := h j (by exact hj)
  unfold SGx at this
  rw [List.getD_eq_getElem?_getD, List.getElem?_eq_getElem hj] at this
  simpa using this
end Tp
end Go.Proofs.YtaekcmoogobbjaaDoor

/- How layer 9 (token) trims texts and makes their letters small, as plain functions: no program in sight. -/
namespace Go.Proofs.YtaekcmoogobbjaaDoor
set_option linter.unusedVariables false
set_option linter.unusedSimpArgs false
namespace Tp
def blankB (c : UInt8) : Bool := blank (c.toNat : Int)
def trimL (l : List UInt8) : List UInt8 := l.dropWhile blankB
def trimR (l : List UInt8) : List UInt8 := (l.reverse.dropWhile blankB).reverse
/-- a text without the blanks at its ends -/
def trim (l : List UInt8) : List UInt8 := trimR (trimL l)
theorem blankB_is (c : UInt8) : blankB c = ([32, 9] : List UInt8).contains c := by
  have : ∀ c : Fin 256, blankB (UInt8.ofNat c.val) = ([32, 9] : List UInt8).contains (UInt8.ofNat c.val) := by decide +kernel
  have h := this ⟨c.toNat, c.toNat_lt⟩
  simpa using h
theorem trimL_nil : trimL [] = [] := rfl
theorem trimL_cons (c : UInt8) (l : List UInt8) : trimL (c :: l) = if blankB c then trimL l else c :: l := by unfold trimL; rw [List.dropWhile_cons]
theorem trimR_nil : trimR [] = [] := rfl
theorem trimR_snoc (l : List UInt8) (c : UInt8) : trimR (l ++ [c]) = if blankB c then trimR l else l ++ [c] := by
  unfold trimR
  rw [List.reverse_append]
  show ((c :: l.reverse).dropWhile blankB).reverse = _
  rw [List.dropWhile_cons]
  split
  · rfl
  · simp
theorem trimR_append (x y : List UInt8) (h : trimR y ≠ []) : trimR (x ++ y) = x ++ trimR y := by
  unfold trimR at *
  have hne : y.reverse.dropWhile blankB ≠ [] := fun e => h (by rw [e]; rfl)
  rw [List.reverse_append, List.dropWhile_append]
  have : (y.reverse.dropWhile blankB).isEmpty = false := by cases hd : y.reverse.dropWhile blankB with
    | nil => exact absurd hd hne
    | cons _ _ => rfl
  rw [this]
  simp
theorem trimR_head (c : UInt8) (l : List UInt8) (h : blankB c = false) : ∃ m, trimR (c :: l) = c :: m := by
  unfold trimR
  rw [List.reverse_cons, List.dropWhile_append]
  split
  · exact ⟨[], by rw [List.dropWhile_cons]; simp [h]⟩
  · exact ⟨_, by rw [List.reverse_append]; rfl⟩
theorem trimS_is (l : List UInt8) : Lib.trimS l [32, 9] = trim l := by
  have hp : (([32, 9] : List UInt8).contains ·) = blankB := by funext c; exact (blankB_is c).symm
  have e1 : ∀ l, Lib.trimLeftS l [32, 9] = trimL l := fun l => by unfold Lib.trimLeftS trimL; rw [hp]
  have e2 : ∀ l, Lib.trimRightS l [32, 9] = trimR l := fun l => by unfold Lib.trimRightS trimR; rw [hp]
  unfold Lib.trimS trim
  rw [e1, e2]
  induction l with
  | nil => rfl
  | cons c l ih =>
    rw [trimL_cons]
    by_cases hc : blankB c = true
    · rw [if_pos hc]
      by_cases hr : trimR l = []
      · have h1 : trimR (c :: l) = [] := by
          have : c :: l = [c] ++ l := rfl
          unfold trimR at hr ⊢
          have hd : l.reverse.dropWhile blankB = [] := by simpa using hr
          rw [this, List.reverse_append, List.dropWhile_append, hd]
          simp [hc]
        rw [h1, ← ih, hr]
      · have h1 := trimR_append [c] l hr
        rw [List.singleton_append] at h1
        rw [h1, List.singleton_append, trimL_cons, if_pos hc, ih]
    · have hc' : blankB c = false := by simpa using hc
      rw [if_neg hc]
      obtain ⟨m, hm⟩ := trimR_head c l hc'
      rw [hm, trimL_cons, if_neg hc]
/-- small letters -/
def lower (l : List UInt8) : List UInt8 := l.map fun c => UInt8.ofNat (lowB c.toNat).toNat
theorem lower_at (c : UInt8) : (((UInt8.ofNat (lowB c.toNat).toNat).toNat : Nat) : Int) = lowB c.toNat := by
  have h := c.toNat_lt
  have : 0 ≤ lowB c.toNat ∧ lowB c.toNat < 256 := by unfold lowB; split <;> omega
  rw [UInt8.toNat_ofNat_of_lt' (by show (lowB (c.toNat : Int)).toNat < 256; omega)]
  omega
def isTok (l : List UInt8) : Bool := !l.isEmpty && allT tokB l
def isVal (l : List UInt8) : Bool := (trim l == l) && allT valB l
end Tp
end Go.Proofs.YtaekcmoogobbjaaDoor

/- What the functions of layer 1 (decimal) compute, as plain functions on whole numbers, and laws of these: no program in sight. No conditions but those that each law states. -/
namespace Go.Proofs.YtaekcmoogobbjaaDoor
set_option linter.unusedVariables false
set_option linter.unusedSimpArgs false
namespace Dp
/-- a number of 64 bits -/
def U (a : Int) : Prop := 0 ≤ a ∧ a < 18446744073709551616
def addN (a b : Int) : Int := if a + b < 18446744073709551616 then a + b else 0
def addE (a b : Int) : Int := if a + b < 18446744073709551616 then 0 else 111
def subN (a b : Int) : Int := if a < b then 0 else a - b
def subE (a b : Int) : Int := if a < b then 112 else 0
def mulN (a b : Int) : Int := if a * b < 18446744073709551616 then a * b else 0
def mulE (a b : Int) : Int := if a * b < 18446744073709551616 then 0 else 111
def nextN (a b : Int) : Int := if b ≤ a then 0 else a + 1
def nextE (a b : Int) : Int := if b ≤ a then 111 else 0
def clampN (n a b : Int) : Int := if b < a then 0 else if n < a then a else if b < n then b else n
def clampE (a b : Int) : Int := if b < a then 2 else 0
theorem addN_U {a b : Int} (ha : U a) (hb : U b) : U (addN a b) := by unfold U addN at *; split <;> omega
theorem subN_U {a b : Int} (ha : U a) (hb : U b) : U (subN a b) := by unfold U subN at *; split <;> omega
theorem mulN_U {a b : Int} (ha : U a) (hb : U b) : U (mulN a b) := by
  unfold U mulN at *
  have h : 0 ≤ a * b := Int.mul_nonneg ha.1 hb.1
  split <;> omega
/-- Go's own test whether a product is too great: by wrapping and dividing. -/
theorem mul_div {a b : Int} (ha : U a) (hb : U b) (h0 : a ≠ 0) : (((a * b) % 18446744073709551616) / a = b) ↔ a * b < 18446744073709551616 := by
  unfold U at *
  have hp : 0 ≤ a * b := Int.mul_nonneg ha.1 hb.1
  constructor
  · intro h
    have h1 : a * (((a * b) % 18446744073709551616) / a) ≤ (a * b) % 18446744073709551616 := by
      rw [Int.mul_comm]; exact Int.ediv_mul_le _ h0
    rw [h] at h1
    omega
  · intro h
    rw [Int.emod_eq_of_lt hp h, Int.mul_comm, Int.mul_ediv_cancel _ h0]
theorem mul_most {a b : Int} (ha : U a) (hb : U b) (h0 : a ≠ 0) : (18446744073709551615 / a < b) ↔ ¬ a * b < 18446744073709551616 := by
  unfold U at *
  have hpos : 0 < a := by omega
  rw [Int.ediv_lt_iff_lt_mul hpos, Int.mul_comm]
  omega
end Dp
end Go.Proofs.YtaekcmoogobbjaaDoor

/- How digits are read to a base of ten or of sixteen, as plain functions: no program in sight. -/
namespace Go.Proofs.YtaekcmoogobbjaaDoor
set_option linter.unusedVariables false
set_option linter.unusedSimpArgs false
namespace Dp
/-- a digit's value to the base 16; 16: it is none -/
def digV (c : Int) : Int := if 48 ≤ c ∧ c ≤ 57 then c - 48 else if 97 ≤ c ∧ c ≤ 102 then c - 87 else if 65 ≤ c ∧ c ≤ 70 then c - 55 else 16
/-- a digit's value to a base, -1: it is none -/
def valV (b c : Int) : Int := if digV c < b then digV c else -1
theorem digV_lo (c : Int) : 0 ≤ digV c ∧ digV c ≤ 16 := by
  unfold digV
  repeat' split
  all_goals omega
/-- digits, one behind the other, behind a number -/
def rd (b : Int) : List UInt8 → Int → Int × Int
  | [], n => (n, 0)
  | c :: l, n => if mulE n b ≠ 0 then (0, 111) else if addE (mulN n b) (digV c.toNat) ≠ 0 then (0, 111) else rd b l (addN (mulN n b) (digV c.toNat))
/-- are all of them digits? -/
def allD (b : Int) (l : List UInt8) : Bool := l.all fun c => decide (digV c.toNat < b)
theorem allD_no {b : Int} {l : List UInt8} {k : Nat} (hk : k < l.length) (h : decide (digV (l[k].toNat : Int) < b) = false) : allD b l = false := by
  unfold allD
  rw [List.all_eq_false]
  exact ⟨l[k], List.getElem_mem hk, by simpa using h⟩
def numN (b : Int) (l : List UInt8) : Int := if l = [] ∨ allD b l = false then 0 else (rd b l 0).1
def numE (b : Int) (l : List UInt8) : Int := if l = [] ∨ allD b l = false then 110 else (rd b l 0).2
def parN (l : List UInt8) : Int := if 1 < l.length ∧ l.head? = some 48 then 0 else numN 10 l
def parE (l : List UInt8) : Int := if 1 < l.length ∧ l.head? = some 48 then 110 else numE 10 l
theorem digit_U (c : Int) : U (digV c) := by have := digV_lo c; unfold U; omega
theorem rd_err (b : Int) (l : List UInt8) (n : Int) : (rd b l n).2 = 0 ∨ ((rd b l n).1 = 0 ∧ (rd b l n).2 = 111) := by
  induction l generalizing n with
  | nil => exact .inl rfl
  | cons c l ih => simp only [rd]; split; exact .inr ⟨rfl, rfl⟩; split; exact .inr ⟨rfl, rfl⟩; exact ih _
def known (b : Int) : List UInt8 := if b = 10 then [48, 49, 50, 51, 52, 53, 54, 55, 56, 57] else [48, 49, 50, 51, 52, 53, 54, 55, 56, 57, 97, 98, 99, 100, 101, 102]
theorem index_ten : ∀ c : Fin 256, Lib.indexByte [48, 49, 50, 51, 52, 53, 54, 55, 56, 57] (UInt8.ofNat c.val) = valV 10 c.val := by decide +kernel
theorem index_hex : ∀ c : Fin 256, Lib.indexByte [48, 49, 50, 51, 52, 53, 54, 55, 56, 57, 97, 98, 99, 100, 101, 102] (UInt8.ofNat (if 65 ≤ c.val ∧ c.val ≤ 70 then c.val + 32 else c.val)) = valV 16 c.val := by decide +kernel
end Dp
end Go.Proofs.YtaekcmoogobbjaaDoor

/- The digits of a number to a base, as a plain function, and its laws: no program in sight. -/
namespace Go.Proofs.YtaekcmoogobbjaaDoor
set_option linter.unusedVariables false
set_option linter.unusedSimpArgs false
namespace Dp
/-- the sign of a digit -/
def dg (i : Nat) : UInt8 := [48, 49, 50, 51, 52, 53, 54, 55, 56, 57, 97, 98, 99, 100, 101, 102].getD i 0
/-- a number's digits -/
def digs (b n : Nat) : List UInt8 := if h : n < b ∨ b < 2 then [dg n] else digs b (n / b) ++ [dg (n % b)]
termination_by n
decreasing_by exact Nat.div_lt_self (by omega) (by omega)
theorem digs_lt {b n : Nat} (h : n < b) : digs b n = [dg n] := by rw [digs, dif_pos (.inl h)]
theorem digs_ge {b n : Nat} (hb : 2 ≤ b) (h : ¬ n < b) : digs b n = digs b (n / b) ++ [dg (n % b)] := by rw [digs, dif_neg (by omega)]
theorem digs_ne (b n : Nat) : digs b n ≠ [] := by
  rw [digs]; split <;> simp
theorem dec_digs (n : Nat) : Lib.decDigits n = digs 10 n := by
  induction n using Nat.strongRecOn with
  | _ n ih =>
    rw [Lib.decDigits]
    split
    · rename_i h
      rw [digs_lt h]
      congr 1
      have : n = 0 ∨ n = 1 ∨ n = 2 ∨ n = 3 ∨ n = 4 ∨ n = 5 ∨ n = 6 ∨ n = 7 ∨ n = 8 ∨ n = 9 := by omega
      rcases this with rfl | rfl | rfl | rfl | rfl | rfl | rfl | rfl | rfl | rfl <;> rfl
    · rename_i h
      rw [digs_ge (by omega) h, ih (n / 10) (by omega)]
      congr 2
      have : n % 10 < 10 := Nat.mod_lt _ (by omega)
      generalize n % 10 = m at *
      have : m = 0 ∨ m = 1 ∨ m = 2 ∨ m = 3 ∨ m = 4 ∨ m = 5 ∨ m = 6 ∨ m = 7 ∨ m = 8 ∨ m = 9 := by omega
      rcases this with rfl | rfl | rfl | rfl | rfl | rfl | rfl | rfl | rfl | rfl <;> rfl
/-- of a number below 16 to the k there are at most k digits -/
theorem hex_room {u len : Nat} (h : u * 16 ^ len < 16 ^ 16) (h0 : 1 ≤ u) : len < 16 := by
  rcases Nat.lt_or_ge len 16 with h' | h'
  · exact h'
  · have h1 : 16 ^ 16 ≤ 16 ^ len := Nat.pow_le_pow_right (by omega) h'
    have h2 : 16 ^ len ≤ u * 16 ^ len := Nat.le_mul_of_pos_left _ h0
    omega
theorem hex_less {u len : Nat} (h : u * 16 ^ len < 16 ^ 16) : (u / 16) * 16 ^ (len + 1) < 16 ^ 16 := by
  have h1 : (u / 16) * 16 ^ (len + 1) ≤ u * 16 ^ len := by
    rw [Nat.pow_succ, Nat.mul_comm (16 ^ len) 16, ← Nat.mul_assoc]
    exact Nat.mul_le_mul_right _ (Nat.div_mul_le_self _ _)
  omega
end Dp
end Go.Proofs.YtaekcmoogobbjaaDoor

/- The decoder of chunks, plain. -/
namespace Go.Proofs.YtaekcmoogobbjaaDoor
set_option linter.unusedVariables false
set_option linter.unusedSimpArgs false
namespace Dp
theorem rd_nn : ∀ (l : List UInt8) (n : Int), 0 ≤ n → 0 ≤ (rd 16 l n).1
  | [], n, h => h
  | c :: l, n, h => by
    have hd := digV_lo (c.toNat : Int)
    rw [rd]
    split
    · simp
    · split
      · simp
      · refine rd_nn l _ ?_
        unfold addN mulN
        repeat' split
        all_goals omega
theorem numN_nn (l : List UInt8) : 0 ≤ numN 16 l := by
  unfold numN
  split
  · exact Int.le_refl 0
  · exact rd_nn l 0 (Int.le_refl 0)
end Dp
namespace Dn
structure St where
  line : List UInt8
  cr : Bool
  pt : Nat
  left : Nat
  many : Nat
  out : List UInt8
  ended : List (List UInt8)
  under : List UInt8
  why : Nat
def start : St := ⟨[], false, 0, 0, 0, [], [], [], 0⟩
/-- the digits of sizes -/
def hx : List UInt8 := [48, 49, 50, 51, 52, 53, 54, 55, 56, 57, 97, 98, 99, 100, 101, 102, 65, 66, 67, 68, 69, 70]
inductive Put where
  | bad (e : Nat)
  | more (line : List UInt8) (cr : Bool)
  | full
def put (cap : Nat) (c : UInt8) (line : List UInt8) (cr : Bool) : Put :=
  if cr = true then (if c = 10 then .full else .bad 270)
  else if c = 13 then .more line true
  else if Tp.valB (c.toNat : Int) = false then .bad 270
  else if cap ≤ line.length then .bad 201
  else .more (line ++ [c]) false
def restS (l : List UInt8) : List UInt8 := Lib.trimLeftS l hx
def digS (l : List UInt8) : List UInt8 := l.take (l.length - (restS l).length)
/-- may such a size's line be? -/
def sizeOk (l : List UInt8) : Prop := digS l ≠ [] ∧ (Tp.trim (restS l) = [] ∨ (Tp.trim (restS l)).headD 0 = 59)
instance (l : List UInt8) : Decidable (sizeOk l) := by unfold sizeOk; infer_instance
def fits (l : List UInt8) : Prop := Dp.numE 16 (digS l) = 0 ∧ Dp.numN 16 (digS l) ≤ 16777216
instance (l : List UInt8) : Decidable (fits l) := by unfold fits; infer_instance
def sz (l : List UInt8) (s : St) : St :=
  if sizeOk l then (if fits l then { s with left := (Dp.numN 16 (digS l)).toNat, pt := if Dp.numN 16 (digS l) = 0 then 4 else 1 } else { s with why := 201 })
  else { s with why := 270 }
def told (s : St) : St := { s with line := [], cr := false }
def sizes (cap : Nat) (c : UInt8) (s : St) : St := match put cap c s.line s.cr with
  | .bad e => { s with why := e }
  | .more l b => { s with line := l, cr := b }
  | .full => sz s.line (told s)
def takes (c : UInt8) (s : St) : St := { s with out := s.out ++ [c], under := s.under ++ [c], many := s.many + 1, left := s.left - 1, pt := if s.left = 1 then 2 else s.pt }
def crs (c : UInt8) (s : St) : St := if c = 13 then { s with pt := 3 } else { s with why := 270 }
def lfs (c : UInt8) (s : St) : St := if c = 10 then { s with pt := 0, ended := s.ended ++ [s.under], under := [] } else { s with why := 270 }
def lastOk (l : List UInt8) : Prop := 58 ∈ l ∧ Tp.isTok (l.takeWhile fun c => c != 58) = true
instance (l : List UInt8) : Decidable (lastOk l) := by unfold lastOk; infer_instance
def ls (l : List UInt8) (s : St) : St := if l = [] then { s with pt := 5 } else if lastOk l then s else { s with why := 270 }
def lasts (cap : Nat) (c : UInt8) (s : St) : St := match put cap c s.line s.cr with
  | .bad e => { s with why := e }
  | .more l b => { s with line := l, cr := b }
  | .full => ls s.line (told s)
def step (cap : Nat) (c : UInt8) (s : St) : St := match s.pt with
  | 0 => sizes cap c s
  | 1 => takes c s
  | 2 => crs c s
  | 3 => lfs c s
  | _ => lasts cap c s
def write (cap : Nat) : List UInt8 → St → Nat → St × Nat
  | [], s, i => (s, i)
  | c :: l, s, i => if s.pt = 5 ∨ s.why ≠ 0 then (s, i) else write cap l (step cap c s) (i + 1)
/-- what holds of a decoder -/
structure Ok (cap m : Nat) (s : St) : Prop where
  pt : s.pt ≤ 5
  lft : s.pt = 1 → 1 ≤ s.left
  left : s.left ≤ 16777216
  line : s.line.length ≤ cap
  quiet : s.pt = 1 ∨ s.pt = 2 ∨ s.pt = 3 → s.line = [] ∧ s.cr = false
  und : s.pt = 0 ∨ 4 ≤ s.pt → s.under = []
  many : s.many ≤ m
  out : s.out.length ≤ m
  under : s.under.length ≤ m
  ended : s.ended.length ≤ m
  why : s.why ≤ 300
  fin : s.pt = 5 → s.why = 0
def Put.ok (cap : Nat) : Put → Prop
  | .bad e => e ≤ 300
  | .more l _ => l.length ≤ cap
  | .full => True
theorem put_ok {cap : Nat} {c : UInt8} {line : List UInt8} {cr : Bool} (h : line.length ≤ cap) : (put cap c line cr).ok cap := by
  unfold put
  split
  · split
    · trivial
    · show 270 ≤ 300; omega
  · split
    · exact h
    · split
      · show 270 ≤ 300; omega
      · split
        · show 201 ≤ 300; omega
        · show (line ++ [c]).length ≤ cap
          simp only [List.length_append, List.length_cons, List.length_nil]
          omega
theorem step_ok {cap m : Nat} {s : St} (c : UInt8) (h : Ok cap m s) (h5 : s.pt ≠ 5) (hw : s.why = 0) : Ok cap (m + 1) (step cap c s) := by
  obtain ⟨line, cr, pt, left, many, out, ended, under, why⟩ := s
  obtain ⟨h1, h2, h3, h4, hq, hu, h6, h7, h8, h9, h10, h11⟩ := h
  simp only at h1 h2 h3 h4 hq hu h6 h7 h8 h9 h10 h11 h5 hw
  subst hw
  have hp := put_ok (c := c) (cr := cr) h4
  unfold step
  match pt, h1 with
  | 0, _ =>
    show Ok cap (m + 1) (sizes cap c _)
    have hu0 := hu (.inl rfl)
    unfold sizes
    simp only
    split
    · rename_i e he
      rw [he] at hp
      exact ⟨by simp, by simp, h3, h4, by simp, fun _ => hu0, by simp only; omega, by simp only; omega, by simp only; omega, by simp only; omega, hp, by simp⟩
    · rename_i l b he
      rw [he] at hp
      exact ⟨by simp, by simp, h3, hp, by simp, fun _ => hu0, by simp only; omega, by simp only; omega, by simp only; omega, by simp only; omega, by simp, by simp⟩
    · unfold sz told
      split
      · split
        · rename_i hf
          obtain ⟨_, hf2⟩ := hf
          by_cases h0 : Dp.numN 16 (digS line) = 0
          · rw [if_pos h0]
            exact ⟨by simp, by simp, by simp only; omega, by simp, fun _ => ⟨rfl, rfl⟩, fun _ => hu0, by simp only; omega, by simp only; omega, by simp only; omega, by simp only; omega, by simp, by simp⟩
          · rw [if_neg h0]
            have hpos : 0 ≤ Dp.numN 16 (digS line) := Dp.numN_nn _
            exact ⟨by simp, fun _ => by simp only; omega, by simp only; omega, by simp, fun _ => ⟨rfl, rfl⟩, fun _ => hu0, by simp only; omega, by simp only; omega, by simp only; omega, by simp only; omega, by simp, by simp⟩
        · exact ⟨by simp, by simp, h3, by simp, by simp, fun _ => hu0, by simp only; omega, by simp only; omega, by simp only; omega, by simp only; omega, by simp, by simp⟩
      · exact ⟨by simp, by simp, h3, by simp, by simp, fun _ => hu0, by simp only; omega, by simp only; omega, by simp only; omega, by simp only; omega, by simp, by simp⟩
  | 1, _ =>
    show Ok cap (m + 1) (takes c _)
    have hq0 := hq (.inl rfl)
    have h20 := h2 rfl
    unfold takes
    by_cases hl : left = 1
    · simp only [hl, if_true]
      exact ⟨by simp, by simp, by simp, h4, fun _ => hq0, by simp, by simp only; omega, by simp; omega, by simp; omega, by simp only; omega, by simp, by simp⟩
    · simp only [hl, if_false]
      exact ⟨by simp, fun _ => by simp only; omega, by simp only; omega, h4, fun _ => hq0, by simp, by simp only; omega, by simp; omega, by simp; omega, by simp only; omega, by simp, by simp⟩
  | 2, _ =>
    show Ok cap (m + 1) (crs c _)
    have hq0 := hq (.inr (.inl rfl))
    unfold crs
    split
    · exact ⟨by simp, by simp, h3, h4, fun _ => hq0, by simp, by simp only; omega, by simp only; omega, by simp only; omega, by simp only; omega, by simp, by simp⟩
    · exact ⟨by simp, by simp, h3, h4, fun _ => hq0, by simp, by simp only; omega, by simp only; omega, by simp only; omega, by simp only; omega, by simp, by simp⟩
  | 3, _ =>
    show Ok cap (m + 1) (lfs c _)
    have hq0 := hq (.inr (.inr rfl))
    unfold lfs
    split
    · exact ⟨by simp, by simp, h3, h4, by simp, fun _ => rfl, by simp only; omega, by simp only; omega, by simp, by simp; omega, by simp, by simp⟩
    · exact ⟨by simp, by simp, h3, h4, fun _ => hq0, by simp, by simp only; omega, by simp only; omega, by simp only; omega, by simp only; omega, by simp, by simp⟩
  | 4, _ =>
    show Ok cap (m + 1) (lasts cap c _)
    have hu0 := hu (.inr (Nat.le_refl _))
    unfold lasts
    simp only
    split
    · rename_i e he
      rw [he] at hp
      exact ⟨by simp, by simp, h3, h4, by simp, fun _ => hu0, by simp only; omega, by simp only; omega, by simp only; omega, by simp only; omega, hp, by simp⟩
    · rename_i l b he
      rw [he] at hp
      exact ⟨by simp, by simp, h3, hp, by simp, fun _ => hu0, by simp only; omega, by simp only; omega, by simp only; omega, by simp only; omega, by simp, by simp⟩
    · unfold ls told
      split
      · exact ⟨by simp, by simp, h3, by simp, by simp, fun _ => hu0, by simp only; omega, by simp only; omega, by simp only; omega, by simp only; omega, by simp, by simp⟩
      · split
        · exact ⟨by simp, by simp, h3, by simp, by simp, fun _ => hu0, by simp only; omega, by simp only; omega, by simp only; omega, by simp only; omega, by simp, by simp⟩
        · exact ⟨by simp, by simp, h3, by simp, by simp, fun _ => hu0, by simp only; omega, by simp only; omega, by simp only; omega, by simp only; omega, by simp, by simp⟩
  | 5, _ => exact absurd rfl h5
  | n + 6, h => omega
end Dn
end Go.Proofs.YtaekcmoogobbjaaDoor

/- Small lemmas that the walks of this claim use: how an ending is closed, how worlds go on. No conditions but those that each lemma states. -/
namespace Go.Proofs.YtaekcmoogobbjaaDoor
set_option linter.unusedVariables false
set_option linter.unusedSimpArgs false
open Go.RowKit
theorem ret_int {k : IntKind} {a b : Int} (h : a = b) : Ending.returned (.int k a) = Ending.returned (.int k b) := by rw [h]
theorem ret_bool {a b : Bool} (h : a = b) : Ending.returned (.bool a) = Ending.returned (.bool b) := by rw [h]
theorem ret_str {a b : ByteArray} (h : a = b) : Ending.returned (.string a) = Ending.returned (.string b) := by rw [h]
theorem ret_pair {k k' : IntKind} {a b c d : Int} (h : a = c) (h' : b = d) : Ending.returned (.tuple #[.int k a, .int k' b]) = Ending.returned (.tuple #[.int k c, .int k' d]) := by rw [h, h']
/-- below a heap's size: all old cells and marks read as before -/
theorem bcell {W w1 : World} (hb : Below W.heap.size W w1) : (∀ b o, b < W.heap.size → w1.cell? ⟨b, o, none⟩ = W.cell? ⟨b, o, none⟩) ∧ (∀ b o, b < W.heap.size → w1.frozen? ⟨b, o, none⟩ = W.frozen? ⟨b, o, none⟩) :=
  ⟨fun b o h => hb.cell (p := ⟨b, o, none⟩) h, fun b o h => hb.frozen (p := ⟨b, o, none⟩) h⟩
/-- a cell that holds something lies in the heap -/
theorem lt_of_cell {w : World} {b o : Nat} {v : Value} (h : w.cell? ⟨b, o, none⟩ = some v) : b < w.heap.size := by
  rcases Nat.lt_or_ge b w.heap.size with h' | h'
  · exact h'
  · simp [World.cell?, Array.getElem?_eq_none h'] at h
theorem cell_below {W w1 : World} (hb : Below W.heap.size W w1) {b o : Nat} {v : Value} (h : W.cell? ⟨b, o, none⟩ = some v) : w1.cell? ⟨b, o, none⟩ = some v :=
  (hb.cell (p := ⟨b, o, none⟩) (lt_of_cell h)).trans h
theorem take_snoc (s : ByteArray) (k : Nat) (h : k < s.size) : s.data.toList.take (k + 1) = s.data.toList.take k ++ [s[k]] := by
  rw [List.take_succ_eq_append_getElem (by simpa using h)]; rfl
theorem below_freeze (B : Nat) (w : World) (a : Addr) (n : Nat) (h : B ≤ a.block) : Below B w (w.freeze a n) := by
  unfold World.freeze
  split
  · exact Below.refl _ _
  · refine ⟨rfl, rfl, rfl, by simp, fun k hk => ?_⟩
    simp only [Array.getElem?_modify]
    rw [if_neg (by omega)]
theorem below_bytesWorld (B : Nat) (w : World) (e : TypeId) (s : ByteArray) (h : B ≤ w.heap.size) : Below B w (Lib.bytesWorld w e s) := by
  unfold Lib.bytesWorld
  exact ((Below.refl B w).drew.alloc h _).trans (below_freeze _ _ _ _ h)
/-- a row of bytes in memory -/
def Bytes (w : World) (B off : Nat) (l : List UInt8) : Prop := ∀ i, i < l.length → w.cell? ⟨B, off + i, none⟩ = some (.int .u8 (l.getD i 0).toNat)
theorem bytes_bytesWorld (w : World) (e : TypeId) (s : ByteArray) : Bytes (Lib.bytesWorld w e s) w.heap.size 0 s.data.toList := by
  intro i hi
  rw [Nat.zero_add]
  exact Lib.bytesWorld_cell w e s i (by simpa using hi)
theorem bytes_bytesWorld_at (w : World) (e : TypeId) (s : ByteArray) (B : Nat) (hB : B = w.heap.size) : Bytes (Lib.bytesWorld w e s) B 0 s.data.toList := by
  subst hB
  exact bytes_bytesWorld w e s
theorem Bytes.below {w w' : World} {B off : Nat} {l : List UInt8} (h : Bytes w B off l) (hb : Below w.heap.size w w') : Bytes w' B off l :=
  fun i hi => cell_below hb (h i hi)
/-- a jump forward to the label of the scope around it -/
def onGoto (l : Nat) (K : Act → World → Prop) (Q : Exit → Act → World → Prop) : Exit → Act → World → Prop
  | .goto l', a, w => l' = l ∧ K a w
  | e, a, w => Q e a w
section
variable {l : Nat} {K : Act → World → Prop} {Q : Exit → Act → World → Prop} {a : Act} {w : World}
@[go_sem] theorem onGoto_normal : onGoto l K Q .normal a w = Q .normal a w := rfl
@[go_sem] theorem onGoto_exit (id : Nat) : onGoto l K Q (.exit id) a w = Q (.exit id) a w := rfl
@[go_sem] theorem onGoto_ret : onGoto l K Q .ret a w = Q .ret a w := rfl
@[go_sem] theorem onGoto_panic (ch : List PanicEntry) : onGoto l K Q (.panic ch) a w = Q (.panic ch) a w := rfl
theorem onGoto_goto (h : K a w) : onGoto l K Q (.goto l) a w := ⟨rfl, h⟩
theorem wp_scope_fwd {P : Program} {c rest : Code} (l : Nat) (hl : findLabel c l = some rest) (h : c.wp P (onGoto l (fun a w => rest.wp P (Exit.noGoto Q) a w) Q) a w) : (Code.scope c).wp P Q a w := by
  intro b k cs
  obtain ⟨e, a₁, w₁, hq, harr⟩ := h b (.inScope c :: k) cs
  cases e with
  | normal => exact ⟨.normal, a₁, w₁, hq, .head step_scope (Steps.trans harr (.one step_inScope))⟩
  | exit id => exact ⟨.exit id, a₁, w₁, hq, fun k' hk => .head step_scope (harr k' (by simp [exitTo, hk]))⟩
  | goto l' =>
    obtain ⟨rfl, hK⟩ := hq
    have hs := harr (.code rest :: .inScope c :: k) (by simp [gotoIn, hl])
    obtain ⟨e, a₂, w₂, hq₂, harr₂⟩ := hK b (.inScope c :: k) cs
    cases e with
    | normal => exact ⟨.normal, a₂, w₂, hq₂, .head step_scope (Steps.trans hs (Steps.trans harr₂ (.one step_inScope)))⟩
    | exit id => exact ⟨.exit id, a₂, w₂, hq₂, fun k' hk => .head step_scope (Steps.trans hs (harr₂ k' (by simp [exitTo, hk])))⟩
    | goto _ => exact hq₂.elim
    | ret => exact ⟨_, a₂, w₂, hq₂, .of_steps (.head step_scope hs) harr₂⟩
    | panic ch => exact ⟨_, a₂, w₂, hq₂, .of_steps (.head step_scope hs) harr₂⟩
    | outgrown => exact ⟨_, a₂, w₂, hq₂, .of_steps (.head step_scope hs) harr₂⟩
  | ret => exact ⟨_, a₁, w₁, hq, .of_steps (.one step_scope) harr⟩
  | panic ch => exact ⟨_, a₁, w₁, hq, .of_steps (.one step_scope) harr⟩
  | outgrown => exact ⟨_, a₁, w₁, hq, .of_steps (.one step_scope) harr⟩
end
end Go.Proofs.YtaekcmoogobbjaaDoor

/- The bytes of tokens and values, the program's and the reference's, are those of the text Tp. Bytes are from 0 to 255. -/
namespace Go.Proofs.YtaekcmoogobbjaaDoor
set_option linter.unusedVariables false
set_option linter.unusedSimpArgs false
open Go.RowKit Go.Shelf
set_option maxHeartbeats 1000000
theorem tok_sign (c : Int) (w : World) (h0 : 0 ≤ c) (h1 : c < 256) :
    Calls Tryd.prog 79 #[.int .u8 c] w fun e w' => e = .returned (.bool (Tp.signB c)) ∧ Below w.heap.size w w' := by
  go_enter Tryd.func79, Tryd.ntmps79
  go_wp2_with fail
  go_loopw [4] (fun _ wr => ∃ pos : Nat, wr = w.iter Tp.SG pos ∧ pos ≤ 15 ∧ ∀ j, j < pos → Tp.SGx j ≠ c) (fun _ wr => 15 - wr.iterPos w.heap.size)
  case atStart => exact ⟨0, rfl, by omega, fun j hj => absurd hj (by omega)⟩
  case round =>
    obtain ⟨pos, rfl, hp, hno⟩ := hrel
    have HN := Lib.hid hno
    clear hno
    by_cases hlt : pos < 15
    · have hsz : pos < Tp.SG.size := by rw [Tp.SG_size]; exact hlt
      have hnx : ∀ ty, (Instr.next (.pointer (some ⟨w.heap.size, 0, none⟩)) true ty).run Tryd.prog (w.iter Tp.SG pos) = .ok (.tuple #[.bool true, .int .i64 pos, .int .i32 (Tp.SGx pos)]) (w.iter Tp.SG (pos + 1)) := fun ty => by
        rw [run_next_ascii w Tp.SG pos ty hsz (Tp.SG_ascii pos hsz), Tp.SG_at pos hsz]
      clear hsz
      obtain ⟨x, hx⟩ : ∃ x, Tp.SGx pos = x := ⟨_, rfl⟩
      rw [hx] at hnx
      have HX := Lib.hid hx
      clear hx
      by_cases hc : x = c
      · have hc1 : (x == c) = true := beq_iff_eq.2 hc
        have HC := Lib.hid (Tp.signB_yes hlt (HX.out.trans hc))
        clear hc
        go_wp2
        go_ret
        exact ⟨ret_bool HC.out.symm, (Below.refl _ _).alloc (Nat.le_refl _) _⟩
      · have hc1 : (x == c) = false := beq_eq_false_iff_ne.2 hc
        have HC := Lib.hid hc
        clear hc
        go_wp2
        go_roundw
        case rel =>
          refine ⟨pos + 1, rfl, by omega, fun j hj => ?_⟩
          by_cases hjp : j = pos
          · rw [hjp, HX.out]; exact HC.out
          · exact HN.out j (by omega)
        case measure => simp; omega
    · have hsz : ¬ pos < Tp.SG.size := by rw [Tp.SG_size]; exact hlt
      have hnx : ∀ ty, (Instr.next (.pointer (some ⟨w.heap.size, 0, none⟩)) true ty).run Tryd.prog (w.iter Tp.SG pos) = _ := fun ty => run_next_end w Tp.SG pos ty hsz
      go_wp2
      go_ret
      exact ⟨ret_bool (Tp.signB_no (fun j hj => HN.out j (by omega))).symm, (Below.refl _ _).alloc (Nat.le_refl _) _⟩
theorem tok_class0 (c : Int) (w : World) (h0 : 0 ≤ c) (h1 : c < 256) :
    Calls Tryd.prog 78 #[.int .u8 c] w fun e w' => e = .returned (.bool (Tp.tokB c)) ∧ Below w.heap.size w w' := by
  have K := Lib.hid (tok_sign c w h0 h1)
  go_enter Tryd.func78, Tryd.ntmps78
  go_wp2_with (go_at_call 79; refine K.out.mono ?_; rintro e w' ⟨rfl, hb⟩)
  all_goals go_ret
  all_goals refine ⟨ret_bool ?_, by first | exact Below.refl _ _ | assumption⟩
  all_goals (unfold Tp.tokB; generalize Tp.signB c = s; cases s <;> rw [Bool.eq_iff_iff] <;> simp <;> omega)
theorem tok_class1 (c : Int) (w : World) (h0 : 0 ≤ c) (h1 : c < 256) :
    Calls Tryd.prog 80 #[.int .u8 c] w fun e w' => e = .returned (.bool (Tp.valB c)) ∧ w = w' := by
  go_enter Tryd.func80, Tryd.ntmps80
  go_wp2
  all_goals go_ret
  all_goals refine ⟨ret_bool ?_, rfl⟩
  all_goals (unfold Tp.valB; rw [Bool.eq_iff_iff]; simp; omega)
/-- a class of bytes, handed on as a function value -/
def ClsAt (g : Nat) (f : Int → Bool) : Prop := ∀ (c : Int) (w : World), 0 ≤ c → c < 256 → Calls Tryd.prog g #[.int .u8 c] w fun e w' => e = .returned (.bool (f c)) ∧ Below w.heap.size w w'
theorem cls0 : ClsAt 78 Tp.tokB := fun c w h0 h1 => tok_class0 c w h0 h1
theorem cls1 : ClsAt 80 Tp.valB := fun c w h0 h1 => (tok_class1 c w h0 h1).mono fun _ _ h => ⟨h.1, h.2 ▸ Below.refl _ _⟩
theorem tok_all (g : Nat) (f : Int → Bool) (hg : g = 78 ∨ g = 80) (hf : ClsAt g f) (s : ByteArray) (w : World) (hs : s.size ≤ 9223372036854775807) :
    Calls Tryd.prog 60 #[.agg #[.string s], .func (.func g) #[] #[]] w fun e w' => e = .returned (.bool (Tp.allT f s.data.toList)) ∧ Below w.heap.size w w' := by
  have HF := Lib.hid hf
  have en : ∀ args w, (callFunc g args).run Tryd.prog w = .ok (.enter g args) w := by
    rcases hg with rfl | rfl
    · exact enters_of Tryd.func78 (by kernel_rfl) rfl
    · exact enters_of Tryd.func80 (by kernel_rfl) rfl
  clear hf hg
  go_enter Tryd.func60, Tryd.ntmps60
  go_wp2_with fail
  go_loopw [5, 9] (fun _ i wr => ∃ k : Nat, k ≤ s.size ∧ i = .int .i64 k ∧ Tp.allT f (s.data.toList.take k) = true ∧ Below (w.heap.size + 1) (w.alloc (.cells #[.string s] 110)) wr) (fun _ i _ => s.size - (intOf i).toNat)
  case atStart => exact ⟨0, Nat.zero_le _, rfl, rfl, Below.refl _ _⟩
  case round =>
    obtain ⟨k, hk, rfl, hall, hB⟩ := hrel
    have HA := Lib.hid hall
    have HB := Lib.hid hB
    have hc : wr.cell? ⟨w.heap.size, 0, none⟩ = some (.string s) := (hB.cell (p := ⟨w.heap.size, 0, none⟩) (by simp)).trans (by simp)
    clear hall hB
    by_cases hlt : k < s.size
    · have K := Lib.hid (HF.out ((s[k]).toNat : Int) wr (by omega) (by have := (s[k]).toNat_lt; omega))
      have HT := Lib.hid (take_snoc s k hlt)
      go_wp2_with fail
      refine K.out.mono ?_
      rintro e w' ⟨rfl, hb⟩
      have hB2 : Below (w.heap.size + 1) (w.alloc (.cells #[.string s] 110)) w' := HB.out.trans (hb.mono (by have := HB.out.size; simpa using this))
      have hc2 : w'.cell? ⟨w.heap.size, 0, none⟩ = some (.string s) := (hB2.cell (p := ⟨w.heap.size, 0, none⟩) (by simp)).trans (by simp)
      have HB2 := Lib.hid hB2
      clear hb hB2
      obtain ⟨d, hd⟩ : ∃ d, f ((s[k]).toNat : Int) = d := ⟨_, rfl⟩
      rw [hd]
      have HD := Lib.hid hd
      clear hd
      cases d
      · go_wp2
        go_ret
        have hn := Tp.allT_no (f := f) (l := s.data.toList) (k := k) (by simpa using hlt) (by exact HD.out)
        exact ⟨ret_bool hn.symm, ((Below.refl _ _).alloc (Nat.le_refl _) _).trans (HB2.out.mono (by omega))⟩
      · go_wp2
        go_roundw
        case rel => exact ⟨k + 1, by omega, by go_num, by rw [HT.out]; exact Tp.allT_snoc HA.out HD.out, HB2.out⟩
        case measure => simp [intOf]; omega
    · go_wp2
      go_ret
      have h1 : s.data.toList.take k = s.data.toList := List.take_of_length_le (by simp; omega)
      have h2 := HA.out
      rw [h1] at h2
      exact ⟨ret_bool h2.symm, ((Below.refl _ _).alloc (Nat.le_refl _) _).trans (HB.out.mono (by omega))⟩
end Go.Proofs.YtaekcmoogobbjaaDoor

/- The reference's bytes of tokens and values, and its trimming, are those of the texts Tp and Tq. Texts have a length that Go knows. -/
namespace Go.Proofs.YtaekcmoogobbjaaDoor
set_option linter.unusedVariables false
set_option linter.unusedSimpArgs false
open Go.RowKit Go.Shelf
set_option maxHeartbeats 1000000
theorem isEmpty_size (s : ByteArray) : s.data.toList.isEmpty = decide (s.size = 0) := by
  by_cases h : s.size = 0
  · rw [decide_eq_true h]; exact List.isEmpty_iff_length_eq_zero.2 (by simpa using h)
  · rw [decide_eq_false h]
    cases he : s.data.toList.isEmpty with
    | false => rfl
    | true => exact absurd (by simpa using List.isEmpty_iff_length_eq_zero.1 he) h
theorem sg_index (k : Nat) (h : k < 15) (w : World) : (Instr.index 9 (.string ⟨#[33, 35, 36, 37, 38, 39, 42, 43, 45, 46, 94, 95, 96, 124, 126]⟩) (.int .i64 (k : Int))).run Tryd.prog w = .ok (.int .u8 (Tp.SGx k)) w :=
  match k, h with
  | 0, _ => by kernel_rfl
  | 1, _ => by kernel_rfl
  | 2, _ => by kernel_rfl
  | 3, _ => by kernel_rfl
  | 4, _ => by kernel_rfl
  | 5, _ => by kernel_rfl
  | 6, _ => by kernel_rfl
  | 7, _ => by kernel_rfl
  | 8, _ => by kernel_rfl
  | 9, _ => by kernel_rfl
  | 10, _ => by kernel_rfl
  | 11, _ => by kernel_rfl
  | 12, _ => by kernel_rfl
  | 13, _ => by kernel_rfl
  | 14, _ => by kernel_rfl
  | n + 15, h => absurd h (by omega)
end Go.Proofs.YtaekcmoogobbjaaDoor

/-
  DERIVED: THE SHELF's CONTRACTS AT THIS DUMP, IN PLAIN WORDS (tools/lay-plain.mjs out of 'TrydShelf.lean', which tools/lay-shelf.mjs wrote): THE SAME DECLARATIONS UNDER THE SAME NAMES: 'import', 'namespace', 'open', 'def', 'theorem' AND NOTHING ELSE: no command of the shelf's: FOR A HAND-IN. Each laying: the table of numbers ('.._ren') and one theorem, a field a fact of the dump's own or the kernel's comparison; each contract: ONE APPLICATION.
-/
namespace Go.Proofs
open Go.Shelf
def Tryd.lays231_ren : Go.Shelf.Ren := ⟨fun | 231 => 53 | n => n, fun | 9 => 9 | 5 => 5 | 3 => 3 | 4 => 4 | n => n, fun | n => n⟩
theorem Tryd.lays231 : Go.Proofs.Lays.n231 Tryd.prog Tryd.lays231_ren := {
  mixed := by kernel_rfl
  f231 := Tryd.func53.trans (congrArg some (by kernel_rfl))
  t3 := Tryd.underlying3
  a3 := Tryd.isAgg3
  z3 := Tryd.sizeOf3
  v3 := Tryd.zeroValue3
  t4 := Tryd.underlying4
  a4 := Tryd.isAgg4
  z4 := Tryd.sizeOf4
  v4 := Tryd.zeroValue4
  t5 := Tryd.underlying5
  a5 := Tryd.isAgg5
  z5 := Tryd.sizeOf5
  v5 := Tryd.zeroValue5
  t9 := Tryd.underlying9
  a9 := Tryd.isAgg9
  z9 := Tryd.sizeOf9
  v9 := Tryd.zeroValue9 }
open Go.RowKit in
/-- strings.trimLeftByte (no doc; what TrimLeft and Trim call at a cutset of one ASCII byte): the leading bytes that are c are cut off. The world is as it was. (LAID: no walk: one application.) -/
theorem Tryd.strings_trimLeftByte (s : ByteArray) (c : UInt8) (w : World) :
    Calls Tryd.prog 53 #[.string s, .int .u8 c.toNat] w fun e w' => e = .returned (.string ⟨(Lib.trimLeftB s.data.toList c).toArray⟩) ∧ w' = w := Any.strings_trimLeftByte Tryd.lays231 s c w
def Tryd.lays232_ren : Go.Shelf.Ren := ⟨fun | 232 => 66 | n => n, fun | 9 => 9 | 5 => 5 | 3 => 3 | 4 => 4 | n => n, fun | n => n⟩
theorem Tryd.lays232 : Go.Proofs.Lays.n232 Tryd.prog Tryd.lays232_ren := {
  mixed := by kernel_rfl
  f232 := Tryd.func66.trans (congrArg some (by kernel_rfl))
  t3 := Tryd.underlying3
  a3 := Tryd.isAgg3
  z3 := Tryd.sizeOf3
  v3 := Tryd.zeroValue3
  t4 := Tryd.underlying4
  a4 := Tryd.isAgg4
  z4 := Tryd.sizeOf4
  v4 := Tryd.zeroValue4
  t5 := Tryd.underlying5
  a5 := Tryd.isAgg5
  z5 := Tryd.sizeOf5
  v5 := Tryd.zeroValue5
  t9 := Tryd.underlying9
  a9 := Tryd.isAgg9
  z9 := Tryd.sizeOf9
  v9 := Tryd.zeroValue9 }
open Go.RowKit in
/-- strings.trimRightByte (no doc; what TrimRight and Trim call at a cutset of one ASCII byte): the trailing bytes that are c are cut off. The world is as it was. ('hs': a string's length is a number that an int holds.) (LAID: no walk: one application.) -/
theorem Tryd.strings_trimRightByte (s : ByteArray) (c : UInt8) (w : World) (hs : s.size ≤ 9223372036854775807) :
    Calls Tryd.prog 66 #[.string s, .int .u8 c.toNat] w fun e w' => e = .returned (.string ⟨(Lib.trimRightB s.data.toList c).toArray⟩) ∧ w' = w := Any.strings_trimRightByte Tryd.lays232 s c w hs
def Tryd.lays161_ren : Go.Shelf.Ren := ⟨fun | 161 => 43 | 231 => 53 | 227 => 54 | 233 => 55 | 235 => 56 | 228 => 63 | 197 => 64 | 151 => 65 | 260 => 85 | 152 => 86 | 137 => 70 | 119 => 97 | 224 => 90 | 225 => 89 | 217 => 88 | 266 => 99 | n => n, fun | 9 => 9 | 4 => 4 | 3 => 3 | 5 => 5 | 117 => 100 | 116 => 99 | 0 => 0 | 124 => 103 | 105 => 115 | 21 => 21 | 119 => 140 | 46 => 133 | 139 => 143 | 138 => 142 | n => n, fun | 3 => 2 | 4 => 3 | n => n⟩
theorem Tryd.lays161 : Go.Proofs.Lays.n161 Tryd.prog Tryd.lays161_ren := {
  mixed := by kernel_rfl
  f119 := Tryd.func97.trans (congrArg some (by kernel_rfl))
  f137 := Tryd.func70.trans (congrArg some (by kernel_rfl))
  f151 := Tryd.func65.trans (congrArg some (by kernel_rfl))
  f152 := Tryd.func86.trans (congrArg some (by kernel_rfl))
  f161 := Tryd.func43.trans (congrArg some (by kernel_rfl))
  f197 := Tryd.func64.trans (congrArg some (by kernel_rfl))
  f217 := Tryd.func88.trans (congrArg some (by kernel_rfl))
  f224 := Tryd.func90.trans (congrArg some (by kernel_rfl))
  f225 := Tryd.func89.trans (congrArg some (by kernel_rfl))
  f227 := Tryd.func54.trans (congrArg some (by kernel_rfl))
  f228 := Tryd.func63.trans (congrArg some (by kernel_rfl))
  f231 := Tryd.func53.trans (congrArg some (by kernel_rfl))
  f233 := Tryd.func55.trans (congrArg some (by kernel_rfl))
  f235 := Tryd.func56.trans (congrArg some (by kernel_rfl))
  f260 := Tryd.func85.trans (congrArg some (by kernel_rfl))
  f266 := Tryd.func99.trans (congrArg some (by kernel_rfl))
  t0 := Tryd.underlying0
  a0 := Tryd.isAgg0
  z0 := Tryd.sizeOf0
  v0 := Tryd.zeroValue0
  t3 := Tryd.underlying3
  a3 := Tryd.isAgg3
  z3 := Tryd.sizeOf3
  v3 := Tryd.zeroValue3
  t4 := Tryd.underlying4
  a4 := Tryd.isAgg4
  z4 := Tryd.sizeOf4
  v4 := Tryd.zeroValue4
  t5 := Tryd.underlying5
  a5 := Tryd.isAgg5
  z5 := Tryd.sizeOf5
  v5 := Tryd.zeroValue5
  t9 := Tryd.underlying9
  a9 := Tryd.isAgg9
  z9 := Tryd.sizeOf9
  v9 := Tryd.zeroValue9
  t21 := Tryd.underlying21
  a21 := Tryd.isAgg21
  z21 := Tryd.sizeOf21
  v21 := Tryd.zeroValue21
  t46 := Tryd.underlying133
  a46 := Tryd.isAgg133
  z46 := Tryd.sizeOf133
  v46 := Tryd.zeroValue133
  t105 := Tryd.underlying115
  a105 := Tryd.isAgg115
  z105 := Tryd.sizeOf115
  v105 := Tryd.zeroValue115
  t116 := Tryd.underlying99
  a116 := Tryd.isAgg99
  z116 := Tryd.sizeOf99
  t117 := Tryd.underlying100
  a117 := Tryd.isAgg100
  z117 := Tryd.sizeOf100
  v117 := Tryd.zeroValue100
  t119 := Tryd.underlying140
  a119 := Tryd.isAgg140
  z119 := Tryd.sizeOf140
  t124 := Tryd.underlying103
  a124 := Tryd.isAgg103
  z124 := Tryd.sizeOf103
  v124 := Tryd.zeroValue103
  t138 := Tryd.underlying142
  a138 := Tryd.isAgg142
  z138 := Tryd.sizeOf142
  v138 := Tryd.zeroValue142
  t139 := Tryd.underlying143
  a139 := Tryd.isAgg143
  z139 := Tryd.sizeOf143
  v139 := Tryd.zeroValue143
  g3 := by kernel_rfl
  g4 := by kernel_rfl }
open Go.RowKit in
/-- strings.TrimLeft: "TrimLeft returns a slice of the string s with all leading Unicode code points contained in cutset removed.": AT A cutset OF ONE ASCII BYTE. The world is as it was. (LAID: no walk: one application.) -/
theorem Tryd.strings_TrimLeft_one (s : ByteArray) (c : UInt8) (hc : c.toNat < 128) (w : World) :
    Calls Tryd.prog 43 #[.string s, .string ⟨#[c]⟩] w fun e w' => e = .returned (.string ⟨(Lib.trimLeftB s.data.toList c).toArray⟩) ∧ w' = w := Any.strings_TrimLeft_one Tryd.lays161 s c hc w
def Tryd.lays160_ren : Go.Shelf.Ren := ⟨fun | 160 => 57 | 232 => 66 | 231 => 53 | 227 => 54 | 234 => 67 | 233 => 55 | 236 => 68 | 235 => 56 | 228 => 63 | 271 => 87 | 151 => 65 | 197 => 64 | 120 => 98 | 152 => 86 | 260 => 85 | 137 => 70 | 119 => 97 | 224 => 90 | 225 => 89 | 217 => 88 | 266 => 99 | n => n, fun | 9 => 9 | 4 => 4 | 3 => 3 | 5 => 5 | 117 => 100 | 116 => 99 | 0 => 0 | 124 => 103 | 21 => 21 | 105 => 115 | 46 => 133 | 119 => 140 | 139 => 143 | 138 => 142 | n => n, fun | 3 => 2 | 4 => 3 | n => n⟩
theorem Tryd.lays160 : Go.Proofs.Lays.n160 Tryd.prog Tryd.lays160_ren := {
  mixed := by kernel_rfl
  f119 := Tryd.func97.trans (congrArg some (by kernel_rfl))
  f120 := Tryd.func98.trans (congrArg some (by kernel_rfl))
  f137 := Tryd.func70.trans (congrArg some (by kernel_rfl))
  f151 := Tryd.func65.trans (congrArg some (by kernel_rfl))
  f152 := Tryd.func86.trans (congrArg some (by kernel_rfl))
  f160 := Tryd.func57.trans (congrArg some (by kernel_rfl))
  f197 := Tryd.func64.trans (congrArg some (by kernel_rfl))
  f217 := Tryd.func88.trans (congrArg some (by kernel_rfl))
  f224 := Tryd.func90.trans (congrArg some (by kernel_rfl))
  f225 := Tryd.func89.trans (congrArg some (by kernel_rfl))
  f227 := Tryd.func54.trans (congrArg some (by kernel_rfl))
  f228 := Tryd.func63.trans (congrArg some (by kernel_rfl))
  f231 := Tryd.func53.trans (congrArg some (by kernel_rfl))
  f232 := Tryd.func66.trans (congrArg some (by kernel_rfl))
  f233 := Tryd.func55.trans (congrArg some (by kernel_rfl))
  f234 := Tryd.func67.trans (congrArg some (by kernel_rfl))
  f235 := Tryd.func56.trans (congrArg some (by kernel_rfl))
  f236 := Tryd.func68.trans (congrArg some (by kernel_rfl))
  f260 := Tryd.func85.trans (congrArg some (by kernel_rfl))
  f266 := Tryd.func99.trans (congrArg some (by kernel_rfl))
  f271 := Tryd.func87.trans (congrArg some (by kernel_rfl))
  t0 := Tryd.underlying0
  a0 := Tryd.isAgg0
  z0 := Tryd.sizeOf0
  v0 := Tryd.zeroValue0
  t3 := Tryd.underlying3
  a3 := Tryd.isAgg3
  z3 := Tryd.sizeOf3
  v3 := Tryd.zeroValue3
  t4 := Tryd.underlying4
  a4 := Tryd.isAgg4
  z4 := Tryd.sizeOf4
  v4 := Tryd.zeroValue4
  t5 := Tryd.underlying5
  a5 := Tryd.isAgg5
  z5 := Tryd.sizeOf5
  v5 := Tryd.zeroValue5
  t9 := Tryd.underlying9
  a9 := Tryd.isAgg9
  z9 := Tryd.sizeOf9
  v9 := Tryd.zeroValue9
  t21 := Tryd.underlying21
  a21 := Tryd.isAgg21
  z21 := Tryd.sizeOf21
  v21 := Tryd.zeroValue21
  t46 := Tryd.underlying133
  a46 := Tryd.isAgg133
  z46 := Tryd.sizeOf133
  v46 := Tryd.zeroValue133
  t105 := Tryd.underlying115
  a105 := Tryd.isAgg115
  z105 := Tryd.sizeOf115
  v105 := Tryd.zeroValue115
  t116 := Tryd.underlying99
  a116 := Tryd.isAgg99
  z116 := Tryd.sizeOf99
  t117 := Tryd.underlying100
  a117 := Tryd.isAgg100
  z117 := Tryd.sizeOf100
  v117 := Tryd.zeroValue100
  t119 := Tryd.underlying140
  a119 := Tryd.isAgg140
  z119 := Tryd.sizeOf140
  t124 := Tryd.underlying103
  a124 := Tryd.isAgg103
  z124 := Tryd.sizeOf103
  v124 := Tryd.zeroValue103
  t138 := Tryd.underlying142
  a138 := Tryd.isAgg142
  z138 := Tryd.sizeOf142
  v138 := Tryd.zeroValue142
  t139 := Tryd.underlying143
  a139 := Tryd.isAgg143
  z139 := Tryd.sizeOf143
  v139 := Tryd.zeroValue143
  g3 := by kernel_rfl
  g4 := by kernel_rfl }
open Go.RowKit in
/-- strings.Trim: "Trim returns a slice of the string s with all leading and trailing Unicode code points contained in cutset removed.": AT A cutset OF ONE ASCII BYTE. THE WORLD BEHIND IT: as it was, or (where s is not empty) with ONE DRAW MORE off the tape: the statement 'return trimLeftByte(trimRightByte(s, c), c)' draws its order of evaluation. (LAID: no walk: one application.) -/
theorem Tryd.strings_Trim_one (s : ByteArray) (c : UInt8) (hc : c.toNat < 128) (w : World) (hs : s.size ≤ 9223372036854775807) :
    Calls Tryd.prog 57 #[.string s, .string ⟨#[c]⟩] w fun e w' => e = .returned (.string ⟨(Lib.trimB s.data.toList c).toArray⟩) ∧ (w' = w ∨ w' = w.drew) := Any.strings_Trim_one Tryd.lays160 s c hc w hs
def Tryd.lays119_ren : Go.Shelf.Ren := ⟨fun | 119 => 97 | n => n, fun | 21 => 21 | 4 => 4 | n => n, fun | n => n⟩
theorem Tryd.lays119 : Go.Proofs.Lays.n119 Tryd.prog Tryd.lays119_ren := {
  mixed := by kernel_rfl
  f119 := Tryd.func97.trans (congrArg some (by kernel_rfl))
  t4 := Tryd.underlying4
  a4 := Tryd.isAgg4
  z4 := Tryd.sizeOf4
  v4 := Tryd.zeroValue4
  t21 := Tryd.underlying21
  a21 := Tryd.isAgg21
  z21 := Tryd.sizeOf21
  v21 := Tryd.zeroValue21 }
/-- utf8.ValidRune: "ValidRune reports whether r can be legally encoded as UTF-8. Code points that are out of range or a surrogate half are illegal.": IT RETURNS 'Lib.validRune r'; the world is as it was. (LAID: no walk: one application.) -/
theorem Tryd.utf8_ValidRune (r : Int) (w : World) :
    Calls Tryd.prog 97 #[.int .i32 r] w fun e w' => e = .returned (.bool (Lib.validRune r)) ∧ w' = w := Any.utf8_ValidRune Tryd.lays119 r w
def Tryd.lays120_ren : Go.Shelf.Ren := ⟨fun | 120 => 98 | n => n, fun | 5 => 5 | 4 => 4 | n => n, fun | n => n⟩
theorem Tryd.lays120 : Go.Proofs.Lays.n120 Tryd.prog Tryd.lays120_ren := {
  mixed := by kernel_rfl
  f120 := Tryd.func98.trans (congrArg some (by kernel_rfl))
  t4 := Tryd.underlying4
  a4 := Tryd.isAgg4
  z4 := Tryd.sizeOf4
  v4 := Tryd.zeroValue4
  t5 := Tryd.underlying5
  a5 := Tryd.isAgg5
  z5 := Tryd.sizeOf5
  v5 := Tryd.zeroValue5 }
/-- utf8.RuneStart: "RuneStart reports whether the byte could be the first byte of an encoded, possibly invalid rune. Second and subsequent bytes always have the top two bits set to 10.": IT RETURNS 'Lib.runeStart b'; the world is as it was. ('h0', 'h1': b is a byte: a caller has it of every byte that it was handed.) (LAID: no walk: one application.) -/
theorem Tryd.utf8_RuneStart (b : Int) (w : World) (h0 : 0 ≤ b) (h1 : b < 256) :
    Calls Tryd.prog 98 #[.int .u8 b] w fun e w' => e = .returned (.bool (Lib.runeStart b)) ∧ w' = w := Any.utf8_RuneStart Tryd.lays120 b w h0 h1
def Tryd.lays137_ren : Go.Shelf.Ren := ⟨fun | 137 => 70 | 217 => 88 | 266 => 99 | n => n, fun | 9 => 9 | 5 => 5 | 3 => 3 | n => n, fun | n => n⟩
theorem Tryd.lays137 : Go.Proofs.Lays.n137 Tryd.prog Tryd.lays137_ren := {
  mixed := by kernel_rfl
  f137 := Tryd.func70.trans (congrArg some (by kernel_rfl))
  f217 := Tryd.func88.trans (congrArg some (by kernel_rfl))
  f266 := Tryd.func99.trans (congrArg some (by kernel_rfl))
  t3 := Tryd.underlying3
  a3 := Tryd.isAgg3
  z3 := Tryd.sizeOf3
  v3 := Tryd.zeroValue3
  t5 := Tryd.underlying5
  a5 := Tryd.isAgg5
  z5 := Tryd.sizeOf5
  v5 := Tryd.zeroValue5
  t9 := Tryd.underlying9
  a9 := Tryd.isAgg9
  z9 := Tryd.sizeOf9
  v9 := Tryd.zeroValue9 }
open Go.RowKit in
/-- strings.IndexByte: "IndexByte returns the index of the first instance of c in s, or -1 if c is not present in s.": IT RETURNS 'Lib.indexByte s c'; the world is as it was. (LAID: no walk: one application.) -/
theorem Tryd.strings_IndexByte (s : ByteArray) (c : Int) (w : World) :
    Calls Tryd.prog 70 #[.string s, .int .u8 c] w fun e w' => e = .returned (.int .i64 (Lib.indexByte s.data.toList c.toNat.toUInt8)) ∧ w' = w := Any.strings_IndexByte Tryd.lays137 s c w
def Tryd.lays129_ren : Go.Shelf.Ren := ⟨fun | 129 => 93 | n => n, fun | 53 => 78 | 3 => 3 | 4 => 4 | 46 => 133 | 5 => 5 | 9 => 9 | n => n, fun | n => n⟩
theorem Tryd.lays129 : Go.Proofs.Lays.n129 Tryd.prog Tryd.lays129_ren := {
  mixed := by kernel_rfl
  f129 := Tryd.func93.trans (congrArg some (by kernel_rfl))
  t3 := Tryd.underlying3
  a3 := Tryd.isAgg3
  z3 := Tryd.sizeOf3
  v3 := Tryd.zeroValue3
  t4 := Tryd.underlying4
  a4 := Tryd.isAgg4
  z4 := Tryd.sizeOf4
  v4 := Tryd.zeroValue4
  t5 := Tryd.underlying5
  a5 := Tryd.isAgg5
  z5 := Tryd.sizeOf5
  v5 := Tryd.zeroValue5
  t9 := Tryd.underlying9
  a9 := Tryd.isAgg9
  z9 := Tryd.sizeOf9
  v9 := Tryd.zeroValue9
  t46 := Tryd.underlying133
  a46 := Tryd.isAgg133
  z46 := Tryd.sizeOf133
  v46 := Tryd.zeroValue133
  t53 := Tryd.underlying78
  a53 := Tryd.isAgg78
  z53 := Tryd.sizeOf78
  v53 := Tryd.zeroValue78 }
/-- bits.Len64: "Len64 returns the minimum number of bits required to represent x; the result is 0 for x == 0.": IT RETURNS 'Lib.bitLen x'; the world is as it was. ('h0', 'h1': x is a uint64.) (LAID: no walk: one application.) -/
theorem Tryd.bits_Len64 (x : Int) (w : World) (h0 : 0 ≤ x) (h1 : x ≤ 18446744073709551615) :
    Calls Tryd.prog 93 #[.int .u64 x] w fun e w' => e = .returned (.int .i64 (Lib.bitLen x.toNat)) ∧ w' = w := Any.bits_Len64 Tryd.lays129 x w h0 h1
def Tryd.lays317_ren : Go.Shelf.Ren := ⟨fun | 317 => 92 | n => n, fun | 3 => 3 | 46 => 133 | n => n, fun | n => n⟩
theorem Tryd.lays317 : Go.Proofs.Lays.n317 Tryd.prog Tryd.lays317_ren := {
  mixed := by kernel_rfl
  f317 := Tryd.func92.trans (congrArg some (by kernel_rfl))
  t3 := Tryd.underlying3
  a3 := Tryd.isAgg3
  z3 := Tryd.sizeOf3
  v3 := Tryd.zeroValue3
  t46 := Tryd.underlying133
  a46 := Tryd.isAgg133
  z46 := Tryd.sizeOf133
  v46 := Tryd.zeroValue133 }
open Go.Lib in
/-- internal/strconv.log10Pow2: "log10Pow2(x) returns ⌊log₁₀ 2**x⌋ = ⌊x * log₁₀ 2⌋.": '(x * 78913) >> 18', at an x up to 64 (a length in bits). The world is as it was. (LAID: no walk: one application.) -/
theorem Tryd.internal_strconv_log10Pow2 (x : Nat) (h : x ≤ 64) (w : World) :
    Calls Tryd.prog 92 #[.int .i64 x] w fun e w' => e = .returned (.int .i64 (Lib.l10 x)) ∧ w' = w := Any.internal_strconv_log10Pow2 Tryd.lays317 x h w
def Tryd.lays318_ren : Go.Shelf.Ren := ⟨fun | 318 => 94 | n => n, fun | 3 => 3 | 4 => 4 | n => n, fun | n => n⟩
theorem Tryd.lays318 : Go.Proofs.Lays.n318 Tryd.prog Tryd.lays318_ren := {
  mixed := by kernel_rfl
  f318 := Tryd.func94.trans (congrArg some (by kernel_rfl))
  t3 := Tryd.underlying3
  a3 := Tryd.isAgg3
  z3 := Tryd.sizeOf3
  v3 := Tryd.zeroValue3
  t4 := Tryd.underlying4
  a4 := Tryd.isAgg4
  z4 := Tryd.sizeOf4
  v4 := Tryd.zeroValue4 }
open Go.Lib in
/-- internal/strconv.bool2: "bool2 converts b to an integer: 1 for true, 0 for false." The world is as it was. (LAID: no walk: one application.) -/
theorem Tryd.internal_strconv_bool2_int (b : Bool) (w : World) :
    Calls Tryd.prog 94 #[.bool b] w fun e w' => e = .returned (.int .i64 (if b then 1 else 0)) ∧ w' = w := Any.internal_strconv_bool2_int Tryd.lays318 b w
def Tryd.lays283_ren : Go.Shelf.Ren := ⟨fun | 283 => 81 | n => n, fun | 3 => 3 | 9 => 9 | 4 => 4 | n => n, fun | n => n⟩
theorem Tryd.lays283 : Go.Proofs.Lays.n283 Tryd.prog Tryd.lays283_ren := {
  mixed := by kernel_rfl
  f283 := Tryd.func81.trans (congrArg some (by kernel_rfl))
  t3 := Tryd.underlying3
  a3 := Tryd.isAgg3
  z3 := Tryd.sizeOf3
  v3 := Tryd.zeroValue3
  t4 := Tryd.underlying4
  a4 := Tryd.isAgg4
  z4 := Tryd.sizeOf4
  v4 := Tryd.zeroValue4
  t9 := Tryd.underlying9
  a9 := Tryd.isAgg9
  z9 := Tryd.sizeOf9
  v9 := Tryd.zeroValue9 }
open Go.Lib in
/-- internal/strconv.small: "small returns the string for an i with 0 <= i < nSmalls.": i's decimal numeral. The world is as it was. (LAID: no walk: one application.) -/
theorem Tryd.internal_strconv_small (i : Nat) (h : i < 100) (w : World) :
    Calls Tryd.prog 81 #[.int .i64 i] w fun e w' => e = .returned (.string ⟨(Lib.decDigits i).toArray⟩) ∧ w' = w := Any.internal_strconv_small Tryd.lays283 i h w
def Tryd.laysM284_ren : Go.Shelf.Ren := ⟨fun | 284 => 82 | 129 => 93 | 317 => 92 | 318 => 94 | n => n, fun | 53 => 78 | 3 => 3 | 212 => 135 | 0 => 0 | 4 => 4 | 46 => 133 | 5 => 5 | 9 => 9 | n => n, fun | 17 => 1 | n => n⟩
theorem Tryd.laysM284 : Go.Proofs.LaysM.n284 Tryd.prog Tryd.laysM284_ren := {
  mixed := by kernel_rfl
  f129 := Tryd.func93.trans (congrArg some (by kernel_rfl))
  f284 := Tryd.func82.trans (congrArg some (by kernel_rfl))
  f317 := Tryd.func92.trans (congrArg some (by kernel_rfl))
  f318 := Tryd.func94.trans (congrArg some (by kernel_rfl))
  t0 := Tryd.underlying0
  a0 := Tryd.isAgg0
  z0 := Tryd.sizeOf0
  v0 := Tryd.zeroValue0
  t3 := Tryd.underlying3
  a3 := Tryd.isAgg3
  z3 := Tryd.sizeOf3
  v3 := Tryd.zeroValue3
  t4 := Tryd.underlying4
  a4 := Tryd.isAgg4
  z4 := Tryd.sizeOf4
  v4 := Tryd.zeroValue4
  t5 := Tryd.underlying5
  a5 := Tryd.isAgg5
  z5 := Tryd.sizeOf5
  v5 := Tryd.zeroValue5
  t9 := Tryd.underlying9
  a9 := Tryd.isAgg9
  z9 := Tryd.sizeOf9
  v9 := Tryd.zeroValue9
  t46 := Tryd.underlying133
  a46 := Tryd.isAgg133
  z46 := Tryd.sizeOf133
  v46 := Tryd.zeroValue133
  t53 := Tryd.underlying78
  a53 := Tryd.isAgg78
  z53 := Tryd.sizeOf78
  v53 := Tryd.zeroValue78
  t212 := Tryd.underlying135
  a212 := Tryd.isAgg135
  z212 := Tryd.sizeOf135
  v212 := Tryd.zeroValue135
  g17 := by kernel_rfl
  i0 := by kernel_rfl
  i3 := by kernel_rfl
  i4 := by kernel_rfl
  i5 := by kernel_rfl
  i9 := by kernel_rfl
  i46 := by kernel_rfl
  i53 := by kernel_rfl
  i212 := by kernel_rfl
  m17 := by kernel_rfl }
open Go.Lib in
/-- internal/strconv.numDigits, at a d that is not 0: THE NUMBER OF d's DECIMAL DIGITS. The world is as it was. (LAID: no walk: one application.) -/
theorem Tryd.internal_strconv_numDigits (u : Nat) (h1 : 1 ≤ u) (h2 : u < 18446744073709551616) (w : World) (htab : Lib.TabIs Tryd.prog w "internal/strconv.uint64pow10" .u64 Lib.pow10Tab) :
    Calls Tryd.prog 82 #[.int .u64 u] w fun e w' => e = .returned (.int .i64 (Lib.nDigits u)) ∧ w' = w := Any.internal_strconv_numDigits Tryd.laysM284 u h1 h2 w htab
def Tryd.lays285_ren : Go.Shelf.Ren := ⟨fun | 285 => 83 | n => n, fun | 37 => 22 | 53 => 78 | 3 => 3 | 4 => 4 | 51 => 136 | 9 => 9 | 5 => 5 | 0 => 0 | n => n, fun | n => n⟩
theorem Tryd.lays285 : Go.Proofs.Lays.n285 Tryd.prog Tryd.lays285_ren := {
  mixed := by kernel_rfl
  f285 := Tryd.func83.trans (congrArg some (by kernel_rfl))
  t0 := Tryd.underlying0
  a0 := Tryd.isAgg0
  z0 := Tryd.sizeOf0
  v0 := Tryd.zeroValue0
  t3 := Tryd.underlying3
  a3 := Tryd.isAgg3
  z3 := Tryd.sizeOf3
  v3 := Tryd.zeroValue3
  t4 := Tryd.underlying4
  a4 := Tryd.isAgg4
  z4 := Tryd.sizeOf4
  v4 := Tryd.zeroValue4
  t5 := Tryd.underlying5
  a5 := Tryd.isAgg5
  z5 := Tryd.sizeOf5
  v5 := Tryd.zeroValue5
  t9 := Tryd.underlying9
  a9 := Tryd.isAgg9
  z9 := Tryd.sizeOf9
  v9 := Tryd.zeroValue9
  t37 := Tryd.underlying22
  a37 := Tryd.isAgg22
  z37 := Tryd.sizeOf22
  v37 := Tryd.zeroValue22
  t51 := Tryd.underlying136
  a51 := Tryd.isAgg136
  z51 := Tryd.sizeOf136
  v51 := Tryd.zeroValue136
  t53 := Tryd.underlying78
  a53 := Tryd.isAgg78
  z53 := Tryd.sizeOf78
  v53 := Tryd.zeroValue78 }
open Go.RowKit Go.Sort Go.Lib in
/-- internal/strconv.formatBase10: "formatBase10 formats the decimal representation of u into a. The caller is responsible for ensuring that a is big enough to hold u. If a is too big, leading zeros will be filled in as needed.": THE ROW HOLDS u's DIGITS ('FmtInv .. 0 ..': every place t holds 'dg u (len - 1 - t)'); all else is as it was but for the count of draws. (LAID: no walk: one application.) -/
theorem Tryd.internal_strconv_formatBase10 (blk off cap : Nat) (u : Nat) (d : Array UInt8) (w : World) (hH : Holds (fun (b : UInt8) => Value.int .u8 (b.toNat : Int)) w blk off d) (hu : u < 10 ^ d.size) (hu64 : u < 18446744073709551616) (hsz : d.size < 4611686018427387904) :
    Calls Tryd.prog 83 #[.slice (some ⟨blk, off, none⟩) d.size cap, .int .u64 u] w fun e w' =>
      e = .returned (.tuple #[]) ∧ ∃ (n v' : Nat) (dk : Array UInt8), w' = (putRow (fun (b : UInt8) => Value.int .u8 (b.toNat : Int)) w blk off dk).drewN n ∧ FmtInv d.size u 0 v' dk := Any.internal_strconv_formatBase10 Tryd.lays285 blk off cap u d w hH hu hu64 hsz
def Tryd.lays217_ren : Go.Shelf.Ren := ⟨fun | 217 => 88 | 266 => 99 | n => n, fun | 9 => 9 | 5 => 5 | 3 => 3 | n => n, fun | n => n⟩
theorem Tryd.lays217 : Go.Proofs.Lays.n217 Tryd.prog Tryd.lays217_ren := {
  mixed := by kernel_rfl
  f217 := Tryd.func88.trans (congrArg some (by kernel_rfl))
  f266 := Tryd.func99.trans (congrArg some (by kernel_rfl))
  t3 := Tryd.underlying3
  a3 := Tryd.isAgg3
  z3 := Tryd.sizeOf3
  v3 := Tryd.zeroValue3
  t5 := Tryd.underlying5
  a5 := Tryd.isAgg5
  z5 := Tryd.sizeOf5
  v5 := Tryd.zeroValue5
  t9 := Tryd.underlying9
  a9 := Tryd.isAgg9
  z9 := Tryd.sizeOf9
  v9 := Tryd.zeroValue9 }
open Go.RowKit Go.Lib in
/-- internal/stringslite.IndexByte (what strings.IndexByte calls): IT RETURNS 'Lib.indexByte s c'; the world is as it was. (LAID: no walk: one application.) -/
theorem Tryd.stringslite_IndexByte (s : ByteArray) (c : Int) (w : World) :
    Calls Tryd.prog 88 #[.string s, .int .u8 c] w fun e w' => e = .returned (.int .i64 (Lib.indexByte s.data.toList c.toNat.toUInt8)) ∧ w' = w := Any.stringslite_IndexByte Tryd.lays217 s c w
def Tryd.lays224_ren : Go.Shelf.Ren := ⟨fun | 224 => 90 | n => n, fun | 3 => 3 | n => n, fun | n => n⟩
theorem Tryd.lays224 : Go.Proofs.Lays.n224 Tryd.prog Tryd.lays224_ren := {
  mixed := by kernel_rfl
  f224 := Tryd.func90.trans (congrArg some (by kernel_rfl))
  t3 := Tryd.underlying3
  a3 := Tryd.isAgg3
  z3 := Tryd.sizeOf3
  v3 := Tryd.zeroValue3 }
open Go.RowKit Go.Lib in
/-- internal/bytealg.Cutover: "Cutover reports the number of failures of IndexByte we should tolerate before switching over to Index. n is the number of bytes processed so far.": on amd64: (n + 16) / 8. (LAID: no walk: one application.) -/
theorem Tryd.bytealg_Cutover (n : Int) (h0 : 0 ≤ n) (h1 : n < 4611686018427387904) (w : World) :
    Calls Tryd.prog 90 #[.int .i64 n] w fun e w' => e = .returned (.int .i64 ((n + 16) / 8)) ∧ w' = w := Any.bytealg_Cutover Tryd.lays224 n h0 h1 w
def Tryd.lays314_ren : Go.Shelf.Ren := ⟨fun | 314 => 100 | n => n, fun | 9 => 9 | 51 => 136 | 3 => 3 | 4 => 4 | 5 => 5 | 46 => 133 | n => n, fun | n => n⟩
theorem Tryd.lays314 : Go.Proofs.Lays.n314 Tryd.prog Tryd.lays314_ren := {
  mixed := by kernel_rfl
  f314 := Tryd.func100.trans (congrArg some (by kernel_rfl))
  t3 := Tryd.underlying3
  a3 := Tryd.isAgg3
  z3 := Tryd.sizeOf3
  v3 := Tryd.zeroValue3
  t4 := Tryd.underlying4
  a4 := Tryd.isAgg4
  z4 := Tryd.sizeOf4
  v4 := Tryd.zeroValue4
  t5 := Tryd.underlying5
  a5 := Tryd.isAgg5
  z5 := Tryd.sizeOf5
  v5 := Tryd.zeroValue5
  t9 := Tryd.underlying9
  a9 := Tryd.isAgg9
  z9 := Tryd.sizeOf9
  v9 := Tryd.zeroValue9
  t46 := Tryd.underlying133
  a46 := Tryd.isAgg133
  z46 := Tryd.sizeOf133
  v46 := Tryd.zeroValue133
  t51 := Tryd.underlying136
  a51 := Tryd.isAgg136
  z51 := Tryd.sizeOf136
  v51 := Tryd.zeroValue136 }
open Go.RowKit Go.Lib in
/-- hashStr: "returns the hash and the appropriate multiplicative factor for use in Rabin-Karp algorithm": THE HASH OF ALL OF sep, AND 16777619 ^ len(sep), both in uint32. (LAID: no walk: one application.) -/
theorem Tryd.bytealg_hashStr (sep : ByteArray) (hs : sep.size < 4294967281) (w : World) :
    Calls Tryd.prog 100 #[.string sep] w fun e w' => e = .returned (.tuple #[.int .u32 (RK.H sep.data.toList % 4294967296), .int .u32 (16777619 ^ sep.size % 4294967296)]) ∧ w' = w := Any.bytealg_hashStr Tryd.lays314 sep hs w
def Tryd.lays267_ren : Go.Shelf.Ren := ⟨fun | 267 => 91 | 314 => 100 | n => n, fun | 9 => 9 | 3 => 3 | 146 => 145 | 51 => 136 | 4 => 4 | 5 => 5 | 46 => 133 | n => n, fun | n => n⟩
theorem Tryd.lays267 : Go.Proofs.Lays.n267 Tryd.prog Tryd.lays267_ren := {
  mixed := by kernel_rfl
  f267 := Tryd.func91.trans (congrArg some (by kernel_rfl))
  f314 := Tryd.func100.trans (congrArg some (by kernel_rfl))
  t3 := Tryd.underlying3
  a3 := Tryd.isAgg3
  z3 := Tryd.sizeOf3
  v3 := Tryd.zeroValue3
  t4 := Tryd.underlying4
  a4 := Tryd.isAgg4
  z4 := Tryd.sizeOf4
  v4 := Tryd.zeroValue4
  t5 := Tryd.underlying5
  a5 := Tryd.isAgg5
  z5 := Tryd.sizeOf5
  v5 := Tryd.zeroValue5
  t9 := Tryd.underlying9
  a9 := Tryd.isAgg9
  z9 := Tryd.sizeOf9
  v9 := Tryd.zeroValue9
  t46 := Tryd.underlying133
  a46 := Tryd.isAgg133
  z46 := Tryd.sizeOf133
  v46 := Tryd.zeroValue133
  t51 := Tryd.underlying136
  a51 := Tryd.isAgg136
  z51 := Tryd.sizeOf136
  v51 := Tryd.zeroValue136
  t146 := Tryd.underlying145
  a146 := Tryd.isAgg145
  z146 := Tryd.sizeOf145
  v146 := Tryd.zeroValue145 }
open Go.RowKit Go.Lib in
theorem Tryd.bytealg_IndexRabinKarp (s sep : ByteArray) (h1 : 1 ≤ sep.size) (h2 : sep.size ≤ s.size) (hs : s.size < 4294967281) (w : World) :
    Calls Tryd.prog 91 #[.string s, .string sep] w fun e w' => e = .returned (.int .i64 (Lib.index s.data.toList sep.data.toList)) ∧ w' = w := Any.bytealg_IndexRabinKarp Tryd.lays267 s sep h1 h2 hs w
def Tryd.lays219_ren : Go.Shelf.Ren := ⟨fun | 219 => 77 | 217 => 88 | 225 => 89 | 224 => 90 | 267 => 91 | 266 => 99 | 314 => 100 | n => n, fun | 9 => 9 | 3 => 3 | 4 => 4 | 5 => 5 | 46 => 133 | 146 => 145 | 51 => 136 | n => n, fun | 1 => 0 | n => n⟩
theorem Tryd.lays219 : Go.Proofs.Lays.n219 Tryd.prog Tryd.lays219_ren := {
  mixed := by kernel_rfl
  f217 := Tryd.func88.trans (congrArg some (by kernel_rfl))
  f219 := Tryd.func77.trans (congrArg some (by kernel_rfl))
  f224 := Tryd.func90.trans (congrArg some (by kernel_rfl))
  f225 := Tryd.func89.trans (congrArg some (by kernel_rfl))
  f266 := Tryd.func99.trans (congrArg some (by kernel_rfl))
  f267 := Tryd.func91.trans (congrArg some (by kernel_rfl))
  f314 := Tryd.func100.trans (congrArg some (by kernel_rfl))
  t3 := Tryd.underlying3
  a3 := Tryd.isAgg3
  z3 := Tryd.sizeOf3
  v3 := Tryd.zeroValue3
  t4 := Tryd.underlying4
  a4 := Tryd.isAgg4
  z4 := Tryd.sizeOf4
  v4 := Tryd.zeroValue4
  t5 := Tryd.underlying5
  a5 := Tryd.isAgg5
  z5 := Tryd.sizeOf5
  v5 := Tryd.zeroValue5
  t9 := Tryd.underlying9
  a9 := Tryd.isAgg9
  z9 := Tryd.sizeOf9
  v9 := Tryd.zeroValue9
  t46 := Tryd.underlying133
  a46 := Tryd.isAgg133
  z46 := Tryd.sizeOf133
  v46 := Tryd.zeroValue133
  t51 := Tryd.underlying136
  a51 := Tryd.isAgg136
  z51 := Tryd.sizeOf136
  v51 := Tryd.zeroValue136
  t146 := Tryd.underlying145
  a146 := Tryd.isAgg145
  z146 := Tryd.sizeOf145
  v146 := Tryd.zeroValue145
  g1 := by kernel_rfl }
open Go.RowKit Go.Lib in
/-- internal/stringslite.Index (what strings.Index calls) AT A substr OF ONE BYTE c: IT RETURNS 'Lib.indexByte s c'; the world is as it was. (LAID: no walk: one application.) -/
theorem Tryd.stringslite_Index_one (s : ByteArray) (c : UInt8) (w : World) :
    Calls Tryd.prog 77 #[.string s, .string ⟨#[c]⟩] w fun e w' => e = .returned (.int .i64 (Lib.indexByte s.data.toList c)) ∧ w' = w := Any.stringslite_Index_one Tryd.lays219 s c w
open Go.RowKit Go.Lib in
/-- internal/stringslite.Index (what strings.Index calls) AT A substr OF WHATEVER LENGTH: IT RETURNS 'Lib.index s substr'; the world is as it was. 'm': what internal/bytealg.MaxLen holds: whatever. (LAID: no walk: one application.) -/
theorem Tryd.stringslite_Index (s sub : ByteArray) (m : Int) (w : World) (hs : s.size < 4294967281) (hm : w.cell? ⟨0, 0, none⟩ = some (.int .i64 m)) :
    Calls Tryd.prog 77 #[.string s, .string sub] w fun e w' => e = .returned (.int .i64 (Lib.index s.data.toList sub.data.toList)) ∧ w' = w := Any.stringslite_Index Tryd.lays219 s sub m w hs hm
def Tryd.lays220_ren : Go.Shelf.Ren := ⟨fun | 220 => 59 | 219 => 77 | 217 => 88 | 225 => 89 | 224 => 90 | 267 => 91 | 266 => 99 | 314 => 100 | n => n, fun | 9 => 9 | 4 => 4 | 3 => 3 | 5 => 5 | 46 => 133 | 146 => 145 | 51 => 136 | n => n, fun | 1 => 0 | n => n⟩
theorem Tryd.lays220 : Go.Proofs.Lays.n220 Tryd.prog Tryd.lays220_ren := {
  mixed := by kernel_rfl
  f217 := Tryd.func88.trans (congrArg some (by kernel_rfl))
  f219 := Tryd.func77.trans (congrArg some (by kernel_rfl))
  f220 := Tryd.func59.trans (congrArg some (by kernel_rfl))
  f224 := Tryd.func90.trans (congrArg some (by kernel_rfl))
  f225 := Tryd.func89.trans (congrArg some (by kernel_rfl))
  f266 := Tryd.func99.trans (congrArg some (by kernel_rfl))
  f267 := Tryd.func91.trans (congrArg some (by kernel_rfl))
  f314 := Tryd.func100.trans (congrArg some (by kernel_rfl))
  t3 := Tryd.underlying3
  a3 := Tryd.isAgg3
  z3 := Tryd.sizeOf3
  v3 := Tryd.zeroValue3
  t4 := Tryd.underlying4
  a4 := Tryd.isAgg4
  z4 := Tryd.sizeOf4
  v4 := Tryd.zeroValue4
  t5 := Tryd.underlying5
  a5 := Tryd.isAgg5
  z5 := Tryd.sizeOf5
  v5 := Tryd.zeroValue5
  t9 := Tryd.underlying9
  a9 := Tryd.isAgg9
  z9 := Tryd.sizeOf9
  v9 := Tryd.zeroValue9
  t46 := Tryd.underlying133
  a46 := Tryd.isAgg133
  z46 := Tryd.sizeOf133
  v46 := Tryd.zeroValue133
  t51 := Tryd.underlying136
  a51 := Tryd.isAgg136
  z51 := Tryd.sizeOf136
  v51 := Tryd.zeroValue136
  t146 := Tryd.underlying145
  a146 := Tryd.isAgg145
  z146 := Tryd.sizeOf145
  v146 := Tryd.zeroValue145
  g1 := by kernel_rfl }
open Go.RowKit Go.Lib in
/-- internal/stringslite.Cut (what strings.Cut calls): IT RETURNS 'Lib.cut s sep'; the world is as it was but for the count of draws. (LAID: no walk: one application.) -/
theorem Tryd.stringslite_Cut (s sep : ByteArray) (m : Int) (w : World) (hs : s.size < 4294967281) (hm : w.cell? ⟨0, 0, none⟩ = some (.int .i64 m)) :
    Calls Tryd.prog 59 #[.string s, .string sep] w fun e w' => e = .returned (.tuple #[.string ⟨(Lib.cut s.data.toList sep.data.toList).1.toArray⟩, .string ⟨(Lib.cut s.data.toList sep.data.toList).2.1.toArray⟩, .bool (Lib.cut s.data.toList sep.data.toList).2.2]) ∧ ∃ n, w' = w.drewN n := Any.stringslite_Cut Tryd.lays220 s sep m w hs hm
def Tryd.lays145_ren : Go.Shelf.Ren := ⟨fun | 145 => 47 | 220 => 59 | 219 => 77 | 217 => 88 | 225 => 89 | 224 => 90 | 267 => 91 | 266 => 99 | 314 => 100 | n => n, fun | 9 => 9 | 4 => 4 | 59 => 88 | 3 => 3 | 5 => 5 | 46 => 133 | 146 => 145 | 51 => 136 | n => n, fun | 1 => 0 | n => n⟩
theorem Tryd.lays145 : Go.Proofs.Lays.n145 Tryd.prog Tryd.lays145_ren := {
  mixed := by kernel_rfl
  f145 := Tryd.func47.trans (congrArg some (by kernel_rfl))
  f217 := Tryd.func88.trans (congrArg some (by kernel_rfl))
  f219 := Tryd.func77.trans (congrArg some (by kernel_rfl))
  f220 := Tryd.func59.trans (congrArg some (by kernel_rfl))
  f224 := Tryd.func90.trans (congrArg some (by kernel_rfl))
  f225 := Tryd.func89.trans (congrArg some (by kernel_rfl))
  f266 := Tryd.func99.trans (congrArg some (by kernel_rfl))
  f267 := Tryd.func91.trans (congrArg some (by kernel_rfl))
  f314 := Tryd.func100.trans (congrArg some (by kernel_rfl))
  t3 := Tryd.underlying3
  a3 := Tryd.isAgg3
  z3 := Tryd.sizeOf3
  v3 := Tryd.zeroValue3
  t4 := Tryd.underlying4
  a4 := Tryd.isAgg4
  z4 := Tryd.sizeOf4
  v4 := Tryd.zeroValue4
  t5 := Tryd.underlying5
  a5 := Tryd.isAgg5
  z5 := Tryd.sizeOf5
  v5 := Tryd.zeroValue5
  t9 := Tryd.underlying9
  a9 := Tryd.isAgg9
  z9 := Tryd.sizeOf9
  v9 := Tryd.zeroValue9
  t46 := Tryd.underlying133
  a46 := Tryd.isAgg133
  z46 := Tryd.sizeOf133
  v46 := Tryd.zeroValue133
  t51 := Tryd.underlying136
  a51 := Tryd.isAgg136
  z51 := Tryd.sizeOf136
  v51 := Tryd.zeroValue136
  t59 := Tryd.underlying88
  a59 := Tryd.isAgg88
  z59 := Tryd.sizeOf88
  v59 := Tryd.zeroValue88
  t146 := Tryd.underlying145
  a146 := Tryd.isAgg145
  z146 := Tryd.sizeOf145
  v146 := Tryd.zeroValue145
  g1 := by kernel_rfl }
open Go.RowKit Go.Lib in
/-- strings.Cut: "Cut slices s around the first instance of sep, returning the text before and after sep. The found result reports whether sep appears in s. If sep does not appear in s, cut returns s, "", false.": IT RETURNS 'Lib.cut s sep'; the world is as it was but for the count of draws. (LAID: no walk: one application.) -/
theorem Tryd.strings_Cut (s sep : ByteArray) (m : Int) (w : World) (hs : s.size < 4294967281) (hm : w.cell? ⟨0, 0, none⟩ = some (.int .i64 m)) :
    Calls Tryd.prog 47 #[.string s, .string sep] w fun e w' => e = .returned (.tuple #[.string ⟨(Lib.cut s.data.toList sep.data.toList).1.toArray⟩, .string ⟨(Lib.cut s.data.toList sep.data.toList).2.1.toArray⟩, .bool (Lib.cut s.data.toList sep.data.toList).2.2]) ∧ ∃ n, w' = w.drewN n := Any.strings_Cut Tryd.lays145 s sep m w hs hm
def Tryd.laysM219_ren : Go.Shelf.Ren := ⟨fun | 219 => 77 | 217 => 88 | 225 => 89 | 224 => 90 | 267 => 91 | 266 => 99 | 314 => 100 | n => n, fun | 9 => 9 | 3 => 3 | 4 => 4 | 5 => 5 | 46 => 133 | 146 => 145 | 51 => 136 | n => n, fun | 1 => 0 | n => n⟩
theorem Tryd.laysM219 : Go.Proofs.LaysM.n219 Tryd.prog Tryd.laysM219_ren := {
  mixed := by kernel_rfl
  f217 := Tryd.func88.trans (congrArg some (by kernel_rfl))
  f219 := Tryd.func77.trans (congrArg some (by kernel_rfl))
  f224 := Tryd.func90.trans (congrArg some (by kernel_rfl))
  f225 := Tryd.func89.trans (congrArg some (by kernel_rfl))
  f266 := Tryd.func99.trans (congrArg some (by kernel_rfl))
  f267 := Tryd.func91.trans (congrArg some (by kernel_rfl))
  f314 := Tryd.func100.trans (congrArg some (by kernel_rfl))
  t3 := Tryd.underlying3
  a3 := Tryd.isAgg3
  z3 := Tryd.sizeOf3
  v3 := Tryd.zeroValue3
  t4 := Tryd.underlying4
  a4 := Tryd.isAgg4
  z4 := Tryd.sizeOf4
  v4 := Tryd.zeroValue4
  t5 := Tryd.underlying5
  a5 := Tryd.isAgg5
  z5 := Tryd.sizeOf5
  v5 := Tryd.zeroValue5
  t9 := Tryd.underlying9
  a9 := Tryd.isAgg9
  z9 := Tryd.sizeOf9
  v9 := Tryd.zeroValue9
  t46 := Tryd.underlying133
  a46 := Tryd.isAgg133
  z46 := Tryd.sizeOf133
  v46 := Tryd.zeroValue133
  t51 := Tryd.underlying136
  a51 := Tryd.isAgg136
  z51 := Tryd.sizeOf136
  v51 := Tryd.zeroValue136
  t146 := Tryd.underlying145
  a146 := Tryd.isAgg145
  z146 := Tryd.sizeOf145
  v146 := Tryd.zeroValue145
  g1 := by kernel_rfl
  i3 := by kernel_rfl
  i4 := by kernel_rfl
  i5 := by kernel_rfl
  i9 := by kernel_rfl
  i46 := by kernel_rfl
  i51 := by kernel_rfl
  i146 := by kernel_rfl
  m1 := by kernel_rfl
  s1_3 := fun w h => Go.Proofs.cell_of_shapedOpen_int (zero := #[.int .i64 0]) (t := 3) h (of_decide_eq_true (by kernel_rfl)) (by kernel_rfl) rfl (by kernel_rfl) (by kernel_rfl) Tryd.underlying3 }
open Go.RowKit Go.Lib in
theorem Tryd.stringslite_Index_shaped (s sub : ByteArray) (w : World) (h : w.ShapedOpen Tryd.prog) (hs : s.size < 4294967281) :
    Calls Tryd.prog 77 #[.string s, .string sub] w fun e w' => e = .returned (.int .i64 (Lib.index s.data.toList sub.data.toList)) ∧ w' = w := Any.stringslite_Index_shaped Tryd.laysM219 s sub w h hs
def Tryd.laysM220_ren : Go.Shelf.Ren := ⟨fun | 220 => 59 | 219 => 77 | 217 => 88 | 225 => 89 | 224 => 90 | 267 => 91 | 266 => 99 | 314 => 100 | n => n, fun | 9 => 9 | 4 => 4 | 3 => 3 | 5 => 5 | 46 => 133 | 146 => 145 | 51 => 136 | n => n, fun | 1 => 0 | n => n⟩
theorem Tryd.laysM220 : Go.Proofs.LaysM.n220 Tryd.prog Tryd.laysM220_ren := {
  mixed := by kernel_rfl
  f217 := Tryd.func88.trans (congrArg some (by kernel_rfl))
  f219 := Tryd.func77.trans (congrArg some (by kernel_rfl))
  f220 := Tryd.func59.trans (congrArg some (by kernel_rfl))
  f224 := Tryd.func90.trans (congrArg some (by kernel_rfl))
  f225 := Tryd.func89.trans (congrArg some (by kernel_rfl))
  f266 := Tryd.func99.trans (congrArg some (by kernel_rfl))
  f267 := Tryd.func91.trans (congrArg some (by kernel_rfl))
  f314 := Tryd.func100.trans (congrArg some (by kernel_rfl))
  t3 := Tryd.underlying3
  a3 := Tryd.isAgg3
  z3 := Tryd.sizeOf3
  v3 := Tryd.zeroValue3
  t4 := Tryd.underlying4
  a4 := Tryd.isAgg4
  z4 := Tryd.sizeOf4
  v4 := Tryd.zeroValue4
  t5 := Tryd.underlying5
  a5 := Tryd.isAgg5
  z5 := Tryd.sizeOf5
  v5 := Tryd.zeroValue5
  t9 := Tryd.underlying9
  a9 := Tryd.isAgg9
  z9 := Tryd.sizeOf9
  v9 := Tryd.zeroValue9
  t46 := Tryd.underlying133
  a46 := Tryd.isAgg133
  z46 := Tryd.sizeOf133
  v46 := Tryd.zeroValue133
  t51 := Tryd.underlying136
  a51 := Tryd.isAgg136
  z51 := Tryd.sizeOf136
  v51 := Tryd.zeroValue136
  t146 := Tryd.underlying145
  a146 := Tryd.isAgg145
  z146 := Tryd.sizeOf145
  v146 := Tryd.zeroValue145
  g1 := by kernel_rfl
  i3 := by kernel_rfl
  i4 := by kernel_rfl
  i5 := by kernel_rfl
  i9 := by kernel_rfl
  i46 := by kernel_rfl
  i51 := by kernel_rfl
  i146 := by kernel_rfl
  m1 := by kernel_rfl
  s1_3 := fun w h => Go.Proofs.cell_of_shapedOpen_int (zero := #[.int .i64 0]) (t := 3) h (of_decide_eq_true (by kernel_rfl)) (by kernel_rfl) rfl (by kernel_rfl) (by kernel_rfl) Tryd.underlying3 }
open Go.RowKit Go.Lib in
theorem Tryd.stringslite_Cut_shaped (s sep : ByteArray) (w : World) (h : w.ShapedOpen Tryd.prog) (hs : s.size < 4294967281) :
    Calls Tryd.prog 59 #[.string s, .string sep] w fun e w' => e = .returned (.tuple #[.string ⟨(Lib.cut s.data.toList sep.data.toList).1.toArray⟩, .string ⟨(Lib.cut s.data.toList sep.data.toList).2.1.toArray⟩, .bool (Lib.cut s.data.toList sep.data.toList).2.2]) ∧ ∃ n, w' = w.drewN n := Any.stringslite_Cut_shaped Tryd.laysM220 s sep w h hs
def Tryd.laysM145_ren : Go.Shelf.Ren := ⟨fun | 145 => 47 | 220 => 59 | 219 => 77 | 217 => 88 | 225 => 89 | 224 => 90 | 267 => 91 | 266 => 99 | 314 => 100 | n => n, fun | 9 => 9 | 4 => 4 | 59 => 88 | 3 => 3 | 5 => 5 | 46 => 133 | 146 => 145 | 51 => 136 | n => n, fun | 1 => 0 | n => n⟩
theorem Tryd.laysM145 : Go.Proofs.LaysM.n145 Tryd.prog Tryd.laysM145_ren := {
  mixed := by kernel_rfl
  f145 := Tryd.func47.trans (congrArg some (by kernel_rfl))
  f217 := Tryd.func88.trans (congrArg some (by kernel_rfl))
  f219 := Tryd.func77.trans (congrArg some (by kernel_rfl))
  f220 := Tryd.func59.trans (congrArg some (by kernel_rfl))
  f224 := Tryd.func90.trans (congrArg some (by kernel_rfl))
  f225 := Tryd.func89.trans (congrArg some (by kernel_rfl))
  f266 := Tryd.func99.trans (congrArg some (by kernel_rfl))
  f267 := Tryd.func91.trans (congrArg some (by kernel_rfl))
  f314 := Tryd.func100.trans (congrArg some (by kernel_rfl))
  t3 := Tryd.underlying3
  a3 := Tryd.isAgg3
  z3 := Tryd.sizeOf3
  v3 := Tryd.zeroValue3
  t4 := Tryd.underlying4
  a4 := Tryd.isAgg4
  z4 := Tryd.sizeOf4
  v4 := Tryd.zeroValue4
  t5 := Tryd.underlying5
  a5 := Tryd.isAgg5
  z5 := Tryd.sizeOf5
  v5 := Tryd.zeroValue5
  t9 := Tryd.underlying9
  a9 := Tryd.isAgg9
  z9 := Tryd.sizeOf9
  v9 := Tryd.zeroValue9
  t46 := Tryd.underlying133
  a46 := Tryd.isAgg133
  z46 := Tryd.sizeOf133
  v46 := Tryd.zeroValue133
  t51 := Tryd.underlying136
  a51 := Tryd.isAgg136
  z51 := Tryd.sizeOf136
  v51 := Tryd.zeroValue136
  t59 := Tryd.underlying88
  a59 := Tryd.isAgg88
  z59 := Tryd.sizeOf88
  v59 := Tryd.zeroValue88
  t146 := Tryd.underlying145
  a146 := Tryd.isAgg145
  z146 := Tryd.sizeOf145
  v146 := Tryd.zeroValue145
  g1 := by kernel_rfl
  i3 := by kernel_rfl
  i4 := by kernel_rfl
  i5 := by kernel_rfl
  i9 := by kernel_rfl
  i46 := by kernel_rfl
  i51 := by kernel_rfl
  i59 := by kernel_rfl
  i146 := by kernel_rfl
  m1 := by kernel_rfl
  s1_3 := fun w h => Go.Proofs.cell_of_shapedOpen_int (zero := #[.int .i64 0]) (t := 3) h (of_decide_eq_true (by kernel_rfl)) (by kernel_rfl) rfl (by kernel_rfl) (by kernel_rfl) Tryd.underlying3 }
open Go.RowKit Go.Lib in
theorem Tryd.strings_Cut_shaped (s sep : ByteArray) (w : World) (h : w.ShapedOpen Tryd.prog) (hs : s.size < 4294967281) :
    Calls Tryd.prog 47 #[.string s, .string sep] w fun e w' => e = .returned (.tuple #[.string ⟨(Lib.cut s.data.toList sep.data.toList).1.toArray⟩, .string ⟨(Lib.cut s.data.toList sep.data.toList).2.1.toArray⟩, .bool (Lib.cut s.data.toList sep.data.toList).2.2]) ∧ ∃ n, w' = w.drewN n := Any.strings_Cut_shaped Tryd.laysM145 s sep w h hs
def Tryd.lays197_ren : Go.Shelf.Ren := ⟨fun | 197 => 64 | 260 => 85 | n => n, fun | 9 => 9 | 21 => 21 | 3 => 3 | 4 => 4 | 5 => 5 | 105 => 115 | 119 => 140 | 0 => 0 | 46 => 133 | 139 => 143 | 138 => 142 | n => n, fun | 3 => 2 | 4 => 3 | n => n⟩
theorem Tryd.lays197 : Go.Proofs.Lays.n197 Tryd.prog Tryd.lays197_ren := {
  mixed := by kernel_rfl
  f197 := Tryd.func64.trans (congrArg some (by kernel_rfl))
  f260 := Tryd.func85.trans (congrArg some (by kernel_rfl))
  t0 := Tryd.underlying0
  a0 := Tryd.isAgg0
  z0 := Tryd.sizeOf0
  v0 := Tryd.zeroValue0
  t3 := Tryd.underlying3
  a3 := Tryd.isAgg3
  z3 := Tryd.sizeOf3
  v3 := Tryd.zeroValue3
  t4 := Tryd.underlying4
  a4 := Tryd.isAgg4
  z4 := Tryd.sizeOf4
  v4 := Tryd.zeroValue4
  t5 := Tryd.underlying5
  a5 := Tryd.isAgg5
  z5 := Tryd.sizeOf5
  v5 := Tryd.zeroValue5
  t9 := Tryd.underlying9
  a9 := Tryd.isAgg9
  z9 := Tryd.sizeOf9
  v9 := Tryd.zeroValue9
  t21 := Tryd.underlying21
  a21 := Tryd.isAgg21
  z21 := Tryd.sizeOf21
  v21 := Tryd.zeroValue21
  t46 := Tryd.underlying133
  a46 := Tryd.isAgg133
  z46 := Tryd.sizeOf133
  v46 := Tryd.zeroValue133
  t105 := Tryd.underlying115
  a105 := Tryd.isAgg115
  z105 := Tryd.sizeOf115
  v105 := Tryd.zeroValue115
  t119 := Tryd.underlying140
  a119 := Tryd.isAgg140
  z119 := Tryd.sizeOf140
  t138 := Tryd.underlying142
  a138 := Tryd.isAgg142
  z138 := Tryd.sizeOf142
  v138 := Tryd.zeroValue142
  t139 := Tryd.underlying143
  a139 := Tryd.isAgg143
  z139 := Tryd.sizeOf143
  v139 := Tryd.zeroValue143
  g3 := by kernel_rfl
  g4 := by kernel_rfl }
open Go.RowKit Go.Lib in
/-- unicode/utf8.DecodeRuneInString: "DecodeRuneInString is like DecodeRune but its input is a string.": ("DecodeRune unpacks the first UTF-8 encoding in p and returns the rune and its width in bytes."): WHERE s BEGINS WITH AN ASCII BYTE x: (x, 1). (LAID: no walk: one application.) -/
theorem Tryd.utf8_DecodeRuneInString_ascii (s : ByteArray) (x : UInt8) (w : World) (h0 : s.data.toList[0]? = some x) (hx : x.toNat < 128) :
    Calls Tryd.prog 64 #[.string s] w fun e w' => e = .returned (.tuple #[.int .i32 x.toNat, .int .i64 1]) ∧ w' = w := Any.utf8_DecodeRuneInString_ascii Tryd.lays197 s x w h0 hx
def Tryd.lays152_ren : Go.Shelf.Ren := ⟨fun | 152 => 86 | 137 => 70 | 119 => 97 | 224 => 90 | 225 => 89 | 217 => 88 | 266 => 99 | n => n, fun | 9 => 9 | 21 => 21 | 3 => 3 | 4 => 4 | 5 => 5 | 0 => 0 | 46 => 133 | n => n, fun | n => n⟩
theorem Tryd.lays152 : Go.Proofs.Lays.n152 Tryd.prog Tryd.lays152_ren := {
  mixed := by kernel_rfl
  f119 := Tryd.func97.trans (congrArg some (by kernel_rfl))
  f137 := Tryd.func70.trans (congrArg some (by kernel_rfl))
  f152 := Tryd.func86.trans (congrArg some (by kernel_rfl))
  f217 := Tryd.func88.trans (congrArg some (by kernel_rfl))
  f224 := Tryd.func90.trans (congrArg some (by kernel_rfl))
  f225 := Tryd.func89.trans (congrArg some (by kernel_rfl))
  f266 := Tryd.func99.trans (congrArg some (by kernel_rfl))
  t0 := Tryd.underlying0
  a0 := Tryd.isAgg0
  z0 := Tryd.sizeOf0
  v0 := Tryd.zeroValue0
  t3 := Tryd.underlying3
  a3 := Tryd.isAgg3
  z3 := Tryd.sizeOf3
  v3 := Tryd.zeroValue3
  t4 := Tryd.underlying4
  a4 := Tryd.isAgg4
  z4 := Tryd.sizeOf4
  v4 := Tryd.zeroValue4
  t5 := Tryd.underlying5
  a5 := Tryd.isAgg5
  z5 := Tryd.sizeOf5
  v5 := Tryd.zeroValue5
  t9 := Tryd.underlying9
  a9 := Tryd.isAgg9
  z9 := Tryd.sizeOf9
  v9 := Tryd.zeroValue9
  t21 := Tryd.underlying21
  a21 := Tryd.isAgg21
  z21 := Tryd.sizeOf21
  v21 := Tryd.zeroValue21
  t46 := Tryd.underlying133
  a46 := Tryd.isAgg133
  z46 := Tryd.sizeOf133
  v46 := Tryd.zeroValue133 }
open Go.RowKit Go.Lib in
theorem Tryd.strings_IndexRune_ascii (s : ByteArray) (r : Int) (w : World) (h0 : 0 ≤ r) (h1 : r < 128) :
    Calls Tryd.prog 86 #[.string s, .int .i32 r] w fun e w' => e = .returned (.int .i64 (Lib.indexByte s.data.toList r.toNat.toUInt8)) ∧ w' = w := Any.strings_IndexRune_ascii Tryd.lays152 s r w h0 h1
def Tryd.lays151_ren : Go.Shelf.Ren := ⟨fun | 151 => 65 | 152 => 86 | 137 => 70 | 119 => 97 | 224 => 90 | 225 => 89 | 217 => 88 | 266 => 99 | n => n, fun | 9 => 9 | 21 => 21 | 4 => 4 | 3 => 3 | 5 => 5 | 0 => 0 | 46 => 133 | n => n, fun | n => n⟩
theorem Tryd.lays151 : Go.Proofs.Lays.n151 Tryd.prog Tryd.lays151_ren := {
  mixed := by kernel_rfl
  f119 := Tryd.func97.trans (congrArg some (by kernel_rfl))
  f137 := Tryd.func70.trans (congrArg some (by kernel_rfl))
  f151 := Tryd.func65.trans (congrArg some (by kernel_rfl))
  f152 := Tryd.func86.trans (congrArg some (by kernel_rfl))
  f217 := Tryd.func88.trans (congrArg some (by kernel_rfl))
  f224 := Tryd.func90.trans (congrArg some (by kernel_rfl))
  f225 := Tryd.func89.trans (congrArg some (by kernel_rfl))
  f266 := Tryd.func99.trans (congrArg some (by kernel_rfl))
  t0 := Tryd.underlying0
  a0 := Tryd.isAgg0
  z0 := Tryd.sizeOf0
  v0 := Tryd.zeroValue0
  t3 := Tryd.underlying3
  a3 := Tryd.isAgg3
  z3 := Tryd.sizeOf3
  v3 := Tryd.zeroValue3
  t4 := Tryd.underlying4
  a4 := Tryd.isAgg4
  z4 := Tryd.sizeOf4
  v4 := Tryd.zeroValue4
  t5 := Tryd.underlying5
  a5 := Tryd.isAgg5
  z5 := Tryd.sizeOf5
  v5 := Tryd.zeroValue5
  t9 := Tryd.underlying9
  a9 := Tryd.isAgg9
  z9 := Tryd.sizeOf9
  v9 := Tryd.zeroValue9
  t21 := Tryd.underlying21
  a21 := Tryd.isAgg21
  z21 := Tryd.sizeOf21
  v21 := Tryd.zeroValue21
  t46 := Tryd.underlying133
  a46 := Tryd.isAgg133
  z46 := Tryd.sizeOf133
  v46 := Tryd.zeroValue133 }
open Go.RowKit Go.Lib in
theorem Tryd.strings_ContainsRune_ascii (s : ByteArray) (r : Int) (w : World) (h0 : 0 ≤ r) (h1 : r < 128) :
    Calls Tryd.prog 65 #[.string s, .int .i32 r] w fun e w' => e = .returned (.bool (decide (0 ≤ Lib.indexByte s.data.toList r.toNat.toUInt8))) ∧ w' = w := Any.strings_ContainsRune_ascii Tryd.lays151 s r w h0 h1
def Tryd.lays227_ren : Go.Shelf.Ren := ⟨fun | 227 => 54 | n => n, fun | 9 => 9 | 116 => 99 | 4 => 4 | 0 => 0 | 3 => 3 | 5 => 5 | n => n, fun | n => n⟩
theorem Tryd.lays227 : Go.Proofs.Lays.n227 Tryd.prog Tryd.lays227_ren := {
  mixed := by kernel_rfl
  f227 := Tryd.func54.trans (congrArg some (by kernel_rfl))
  t0 := Tryd.underlying0
  a0 := Tryd.isAgg0
  z0 := Tryd.sizeOf0
  v0 := Tryd.zeroValue0
  t3 := Tryd.underlying3
  a3 := Tryd.isAgg3
  z3 := Tryd.sizeOf3
  v3 := Tryd.zeroValue3
  t4 := Tryd.underlying4
  a4 := Tryd.isAgg4
  z4 := Tryd.sizeOf4
  v4 := Tryd.zeroValue4
  t5 := Tryd.underlying5
  a5 := Tryd.isAgg5
  z5 := Tryd.sizeOf5
  v5 := Tryd.zeroValue5
  t9 := Tryd.underlying9
  a9 := Tryd.isAgg9
  z9 := Tryd.sizeOf9
  v9 := Tryd.zeroValue9
  t116 := Tryd.underlying99
  a116 := Tryd.isAgg99
  z116 := Tryd.sizeOf99 }
open Go.RowKit Go.Lib in
theorem Tryd.strings_makeASCIISet (hv116 : ∀ w, (zeroValue 99).run Tryd.prog w = .ok (.agg (Array.replicate 256 (.bool false))) w) (chars : ByteArray) (w : World) (hs : chars.size < 4294967281) (hascii : ∀ (j : Nat) b, chars.data.toList[j]? = some b → b.toNat < 128) :
    Calls Tryd.prog 54 #[.string chars] w fun e w' => e = .returned (.tuple #[.agg (Lib.setCells chars.data.toList), .bool true]) ∧ w' = w.alloc (.cells (Lib.setCells chars.data.toList) 99) := Any.strings_makeASCIISet Tryd.lays227 hv116 (by kernel_rfl) chars w hs hascii
def Tryd.lays228_ren : Go.Shelf.Ren := ⟨fun | 228 => 63 | n => n, fun | 124 => 103 | 5 => 5 | 4 => 4 | 0 => 0 | 116 => 99 | n => n, fun | n => n⟩
theorem Tryd.lays228 : Go.Proofs.Lays.n228 Tryd.prog Tryd.lays228_ren := {
  mixed := by kernel_rfl
  f228 := Tryd.func63.trans (congrArg some (by kernel_rfl))
  t0 := Tryd.underlying0
  a0 := Tryd.isAgg0
  z0 := Tryd.sizeOf0
  v0 := Tryd.zeroValue0
  t4 := Tryd.underlying4
  a4 := Tryd.isAgg4
  z4 := Tryd.sizeOf4
  v4 := Tryd.zeroValue4
  t5 := Tryd.underlying5
  a5 := Tryd.isAgg5
  z5 := Tryd.sizeOf5
  v5 := Tryd.zeroValue5
  t116 := Tryd.underlying99
  a116 := Tryd.isAgg99
  z116 := Tryd.sizeOf99
  t124 := Tryd.underlying103
  a124 := Tryd.isAgg103
  z124 := Tryd.sizeOf103
  v124 := Tryd.zeroValue103 }
open Go.RowKit Go.Lib in
/-- '(as *asciiSet) contains(c)': 'as[c]': the set lies at block b, whole. (LAID: no walk: one application.) -/
theorem Tryd.asciiSet_contains (b : Nat) (x : UInt8) (v : Bool) (w : World) (hc : w.cell? ⟨b, x.toNat, none⟩ = some (.bool v)) :
    Calls Tryd.prog 63 #[.pointer (some ⟨b, 0, none⟩), .int .u8 x.toNat] w fun e w' => e = .returned (.bool v) ∧ w' = w := Any.asciiSet_contains Tryd.lays228 b x v w hc
def Tryd.lays260_ren : Go.Shelf.Ren := ⟨fun | 260 => 85 | n => n, fun | 9 => 9 | 21 => 21 | 3 => 3 | 4 => 4 | 5 => 5 | 119 => 140 | 0 => 0 | 46 => 133 | 139 => 143 | 138 => 142 | n => n, fun | 3 => 2 | 4 => 3 | n => n⟩
theorem Tryd.lays260 : Go.Proofs.Lays.n260 Tryd.prog Tryd.lays260_ren := {
  mixed := by kernel_rfl
  f260 := Tryd.func85.trans (congrArg some (by kernel_rfl))
  t0 := Tryd.underlying0
  a0 := Tryd.isAgg0
  z0 := Tryd.sizeOf0
  v0 := Tryd.zeroValue0
  t3 := Tryd.underlying3
  a3 := Tryd.isAgg3
  z3 := Tryd.sizeOf3
  v3 := Tryd.zeroValue3
  t4 := Tryd.underlying4
  a4 := Tryd.isAgg4
  z4 := Tryd.sizeOf4
  v4 := Tryd.zeroValue4
  t5 := Tryd.underlying5
  a5 := Tryd.isAgg5
  z5 := Tryd.sizeOf5
  v5 := Tryd.zeroValue5
  t9 := Tryd.underlying9
  a9 := Tryd.isAgg9
  z9 := Tryd.sizeOf9
  v9 := Tryd.zeroValue9
  t21 := Tryd.underlying21
  a21 := Tryd.isAgg21
  z21 := Tryd.sizeOf21
  v21 := Tryd.zeroValue21
  t46 := Tryd.underlying133
  a46 := Tryd.isAgg133
  z46 := Tryd.sizeOf133
  v46 := Tryd.zeroValue133
  t119 := Tryd.underlying140
  a119 := Tryd.isAgg140
  z119 := Tryd.sizeOf140
  t138 := Tryd.underlying142
  a138 := Tryd.isAgg142
  z138 := Tryd.sizeOf142
  v138 := Tryd.zeroValue142
  t139 := Tryd.underlying143
  a139 := Tryd.isAgg143
  z139 := Tryd.sizeOf143
  v139 := Tryd.zeroValue143
  g3 := by kernel_rfl
  g4 := by kernel_rfl }
open Go.RowKit Go.Lib in
theorem Tryd.utf8_decodeRuneInStringSlow (s : ByteArray) (w : World) (hT : Lib.Utf8Tabs 2 3 w) :
    Calls Tryd.prog 85 #[.string s] w fun e w' => e = .returned (.tuple #[.int .i32 (Lib.decodeGo s).1, .int .i64 (Lib.decodeGo s).2]) ∧ Below w.heap.size w w' := Any.utf8_decodeRuneInStringSlow Tryd.lays260 s w hT
open Go.RowKit Go.Lib in
/-- **unicode/utf8.DecodeRuneInString AT EVERY STRING.** (LAID: no walk: one application.) -/
theorem Tryd.utf8_DecodeRuneInString (s : ByteArray) (w : World) (hT : Lib.Utf8Tabs 2 3 w) :
    Calls Tryd.prog 64 #[.string s] w fun e w' => e = .returned (.tuple #[.int .i32 (Lib.decodeGo s).1, .int .i64 (Lib.decodeGo s).2]) ∧ Below w.heap.size w w' := Any.utf8_DecodeRuneInString Tryd.lays197 s w hT
def Tryd.lays271_ren : Go.Shelf.Ren := ⟨fun | 271 => 87 | 120 => 98 | 197 => 64 | 260 => 85 | n => n, fun | 9 => 9 | 21 => 21 | 3 => 3 | 4 => 4 | 5 => 5 | 105 => 115 | 119 => 140 | 0 => 0 | 46 => 133 | 139 => 143 | 138 => 142 | n => n, fun | 3 => 2 | 4 => 3 | n => n⟩
theorem Tryd.lays271 : Go.Proofs.Lays.n271 Tryd.prog Tryd.lays271_ren := {
  mixed := by kernel_rfl
  f120 := Tryd.func98.trans (congrArg some (by kernel_rfl))
  f197 := Tryd.func64.trans (congrArg some (by kernel_rfl))
  f260 := Tryd.func85.trans (congrArg some (by kernel_rfl))
  f271 := Tryd.func87.trans (congrArg some (by kernel_rfl))
  t0 := Tryd.underlying0
  a0 := Tryd.isAgg0
  z0 := Tryd.sizeOf0
  v0 := Tryd.zeroValue0
  t3 := Tryd.underlying3
  a3 := Tryd.isAgg3
  z3 := Tryd.sizeOf3
  v3 := Tryd.zeroValue3
  t4 := Tryd.underlying4
  a4 := Tryd.isAgg4
  z4 := Tryd.sizeOf4
  v4 := Tryd.zeroValue4
  t5 := Tryd.underlying5
  a5 := Tryd.isAgg5
  z5 := Tryd.sizeOf5
  v5 := Tryd.zeroValue5
  t9 := Tryd.underlying9
  a9 := Tryd.isAgg9
  z9 := Tryd.sizeOf9
  v9 := Tryd.zeroValue9
  t21 := Tryd.underlying21
  a21 := Tryd.isAgg21
  z21 := Tryd.sizeOf21
  v21 := Tryd.zeroValue21
  t46 := Tryd.underlying133
  a46 := Tryd.isAgg133
  z46 := Tryd.sizeOf133
  v46 := Tryd.zeroValue133
  t105 := Tryd.underlying115
  a105 := Tryd.isAgg115
  z105 := Tryd.sizeOf115
  v105 := Tryd.zeroValue115
  t119 := Tryd.underlying140
  a119 := Tryd.isAgg140
  z119 := Tryd.sizeOf140
  t138 := Tryd.underlying142
  a138 := Tryd.isAgg142
  z138 := Tryd.sizeOf142
  v138 := Tryd.zeroValue142
  t139 := Tryd.underlying143
  a139 := Tryd.isAgg143
  z139 := Tryd.sizeOf143
  v139 := Tryd.zeroValue143
  g3 := by kernel_rfl
  g4 := by kernel_rfl }
open Go.RowKit Go.Lib in
/-- **unicode/utf8.DecodeLastRuneInString AT EVERY STRING.** (LAID: no walk: one application.) -/
theorem Tryd.utf8_DecodeLastRuneInString (s : ByteArray) (w : World) (hs : s.size ≤ 9223372036854775807) (hT : Lib.Utf8Tabs 2 3 w) :
    Calls Tryd.prog 87 #[.string s] w fun e w' => e = .returned (.tuple #[.int .i32 (Lib.decodeLastL s.data.toList).1, .int .i64 (Lib.decodeLastL s.data.toList).2]) ∧ Below w.heap.size w w' := Any.utf8_DecodeLastRuneInString Tryd.lays271 s w hs hT
end Go.Proofs

/- Trimming, values and small letters, the program's and the reference's, are those of the text Tq. Texts have a length that Go knows; small letters: at most 1000000 bytes. -/
namespace Go.Proofs.YtaekcmoogobbjaaDoor
set_option linter.unusedVariables false
set_option linter.unusedSimpArgs false
open Go.RowKit Go.Shelf
set_option maxHeartbeats 1000000
theorem ba_eq {x : ByteArray} {l : List UInt8} (h : x.data.toList = l) : x = ⟨l.toArray⟩ := by subst h; cases x; simp
theorem tok_trim (s : ByteArray) (w : World) (hs : s.size ≤ 9223372036854775807) :
    Calls Tryd.prog 44 #[.string s] w fun e w' => e = .returned (.string ⟨(Tp.trim s.data.toList).toArray⟩) ∧ Below w.heap.size w w' := by
  have K : Hid (∀ W, Calls Tryd.prog 57 #[.string s, .string ⟨#[32, 9]⟩] W fun e w' => e = .returned (.string ⟨(Tp.trim s.data.toList).toArray⟩) ∧ Below W.heap.size W w') := by
    intro W
    have h := Any.strings_Trim_laid Tryd.lays160 (by kernel_rfl) s ⟨#[32, 9]⟩ W hs (by decide) (ascii_of_all (by decide))
    rw [show (⟨#[32, 9]⟩ : ByteArray).data.toList = [32, 9] from rfl, Tp.trimS_is] at h
    exact h
  go_enter Tryd.func44, Tryd.ntmps44
  go_wp2_with fail
  refine (K.out _).mono ?_
  rintro e w' ⟨rfl, hb⟩
  go_wp2
  go_ret
  exact ⟨rfl, hb⟩
theorem last_split (u : ByteArray) (h : 0 < u.size) : u.data.toList = (u.extract 0 (u.size - 1)).data.toList ++ [u[u.size - 1]] := by
  rw [Lib.extract_data, List.drop_zero, Nat.sub_zero]
  have := take_snoc u (u.size - 1) (by omega)
  rw [← this, List.take_of_length_le (by simp; omega)]
theorem slice_head (u : ByteArray) (w : World) (h : 0 < u.size) (hu : u.size ≤ 9223372036854775807) : (Instr.slice 9 (.string u) none (some (.int .i64 ((u.size : Int) - 1))) none).run Tryd.prog w = .ok (.string (u.extract 0 (u.size - 1))) w := by
  have e : ((u.size : Int) - 1) = ((u.size - 1 : Nat) : Int) := by omega
  rw [e]
  simp [go_sem, Tryd.underlying9]
theorem index_last (u : ByteArray) (w : World) (h : 0 < u.size) (hu : u.size ≤ 9223372036854775807) : (Instr.index 9 (.string u) (.int .i64 ((u.size : Int) - 1))).run Tryd.prog w = .ok (.int .u8 ((u[u.size - 1]'(by omega)).toNat : Int)) w := by
  have e : ((u.size : Int) - 1) = ((u.size - 1 : Nat) : Int) := by omega
  have hi : (0 : Int) ≤ ((u.size - 1 : Nat) : Int) ∧ ((u.size - 1 : Nat) : Int) < u.size := by omega
  rw [e, run_index_string w 9 u .i64 _ Tryd.underlying9, dif_pos hi]
  simp only [Int.toNat_natCast]
theorem nil_of_size {u : ByteArray} (h : ¬ 0 < u.size) : u.data.toList = [] := by
  apply List.length_eq_zero_iff.1
  have : u.size = 0 := by omega
  exact this
end Go.Proofs.YtaekcmoogobbjaaDoor

/- Whether a text is a token or a value, and its small letters, the program's and the reference's, are those of the text Tq. Texts have at most 1000000 bytes. -/
namespace Go.Proofs.YtaekcmoogobbjaaDoor
set_option linter.unusedVariables false
set_option linter.unusedSimpArgs false
open Go.RowKit Go.Shelf
set_option maxHeartbeats 1000000
theorem tok_classes (w : World) :
    Calls Tryd.prog 61 #[] w fun e w' => e = .returned (.agg #[.func (.func 78) #[] #[], .func (.func 80) #[] #[]]) ∧ Below w.heap.size w w' := by
  go_enter Tryd.func61, Tryd.ntmps61
  go_wp2
  refine bodyPost_ret (v := .agg #[.func (.func 78) #[] #[], .func (.func 80) #[] #[]]) (by simp [results, Tryd.results61, go_sem]) rfl ⟨rfl, (Below.refl _ _).alloc (Nat.le_refl _) _⟩
theorem classes_0 (w : World) : (Instr.index 113 (.agg #[.func (.func 78) #[] #[], .func (.func 80) #[] #[]]) (.int .i64 0)).run Tryd.prog w = .ok (.func (.func 78) #[] #[]) w := by kernel_rfl
theorem classes_1 (w : World) : (Instr.index 113 (.agg #[.func (.func 78) #[] #[], .func (.func 80) #[] #[]]) (.int .i64 1)).run Tryd.prog w = .ok (.func (.func 80) #[] #[]) w := by kernel_rfl
theorem beq_bytes (s : ByteArray) (l : List UInt8) : (((⟨l.toArray⟩ : ByteArray).toList == s.toList)) = (l == s.data.toList) := by
  rw [ByteArray.toList_eq, ByteArray.toList_eq]
theorem tok_token (s : ByteArray) (w : World) (hs : s.size ≤ 9223372036854775807) :
    Calls Tryd.prog 48 #[.string s] w fun e w' => e = .returned (.bool (Tp.isTok s.data.toList)) ∧ Below w.heap.size w w' := by
  have K := Lib.hid (fun W => tok_all 78 Tp.tokB (.inl rfl) cls0 s W hs)
  have i0 := classes_0
  by_cases h0 : s.data.toList.isEmpty = true
  · have HR := Lib.hid (show Tp.isTok s.data.toList = false by unfold Tp.isTok; rw [h0]; rfl)
    have h1 : s.toList.isEmpty = true := by rw [ByteArray.toList_eq]; exact h0
    go_enter Tryd.func48, Tryd.ntmps48
    go_wp2_with fail
    go_ret
    exact ⟨ret_bool HR.out.symm, Below.refl _ _⟩
  · have h0' : s.data.toList.isEmpty = false := by simpa using h0
    have HR := Lib.hid (show Tp.isTok s.data.toList = Tp.allT Tp.tokB s.data.toList by unfold Tp.isTok; rw [h0']; rfl)
    have h1 : s.toList.isEmpty = false := by rw [ByteArray.toList_eq]; exact h0'
    clear h0
    go_enter Tryd.func48, Tryd.ntmps48
    go_wp2_with fail
    refine (tok_classes _).mono ?_
    rintro e w1 ⟨rfl, hb⟩
    go_wp2_with fail
    refine (K.out _).mono ?_
    rintro e w2 ⟨rfl, hb2⟩
    go_wp2
    go_ret
    exact ⟨ret_bool HR.out.symm, hb.trans (hb2.mono hb.size)⟩
theorem tok_value (s : ByteArray) (w : World) (hs : s.size ≤ 9223372036854775807) :
    Calls Tryd.prog 52 #[.string s] w fun e w' => e = .returned (.bool (Tp.isVal s.data.toList)) ∧ Below w.heap.size w w' := by
  have K := Lib.hid (fun W => tok_all 80 Tp.valB (.inr rfl) cls1 s W hs)
  have T := Lib.hid (fun W => tok_trim s W hs)
  have i1 := classes_1
  go_enter Tryd.func52, Tryd.ntmps52
  go_wp2_with fail
  refine (T.out _).mono ?_
  rintro e w1 ⟨rfl, hb⟩
  obtain ⟨t, ht⟩ : ∃ t : ByteArray, (⟨(Tp.trim s.data.toList).toArray⟩ : ByteArray) = t := ⟨_, rfl⟩
  rw [ht]
  have hq : (t.toList == s.toList) = (Tp.trim s.data.toList == s.data.toList) := by rw [← ht]; exact beq_bytes s _
  obtain ⟨d, hd⟩ : ∃ d, (Tp.trim s.data.toList == s.data.toList) = d := ⟨_, rfl⟩
  have HD := Lib.hid hd
  rw [hd] at hq
  clear hd ht
  cases d
  · go_wp2_with fail
    go_ret
    exact ⟨ret_bool (by unfold Tp.isVal; rw [HD.out]; rfl), hb⟩
  · go_wp2_with fail
    refine (tok_classes _).mono ?_
    rintro e w2 ⟨rfl, hb2⟩
    go_wp2_with fail
    refine (K.out _).mono ?_
    rintro e w3 ⟨rfl, hb3⟩
    go_wp2
    go_ret
    exact ⟨ret_bool (by unfold Tp.isVal; rw [HD.out]; rfl), hb.trans ((hb2.mono hb.size).trans (hb3.mono (hb.trans (hb2.mono hb.size)).size))⟩
end Go.Proofs.YtaekcmoogobbjaaDoor

/- The sums, products and their like of layer 1 (decimal), the program's and the reference's, compute the plain functions of the text Dp. Each number is one of 64 bits. -/
namespace Go.Proofs.YtaekcmoogobbjaaDoor
set_option linter.unusedVariables false
set_option linter.unusedSimpArgs false
open Go.RowKit

theorem dec_add (a b : Int) (w : World) (ha : Dp.U a) (hb : Dp.U b) :
    Calls Tryd.prog 76 #[.int .u64 a, .int .u64 b] w fun e w' => e = .returned (.tuple #[.int .u64 (Dp.addN a b), .int .i64 (Dp.addE a b)]) ∧ w = w' := by
  go_enter Tryd.func76, Tryd.ntmps76
  go_wp2
  all_goals go_ret2
  all_goals (refine ⟨ret_pair ?_ ?_, rfl⟩ <;> simp only [Dp.U, IntKind.wrap_u64, Dp.addN, Dp.addE] at * <;> split <;> omega)
theorem mul_test {a b : Int} (ha : Dp.U a) (hb : Dp.U b) (h0 : a ≠ 0) : (IntKind.u64.wrap ((IntKind.u64.wrap (a * b)).tdiv a) != b) = !decide (a * b < 18446744073709551616) := by
  have h := Dp.mul_div ha hb h0
  have hp : 0 ≤ a * b := Int.mul_nonneg ha.1 hb.1
  unfold Dp.U at ha hb
  have hm : 0 ≤ (a * b) % 18446744073709551616 ∧ (a * b) % 18446744073709551616 < 18446744073709551616 := by omega
  have e1 : IntKind.u64.wrap ((IntKind.u64.wrap (a * b)).tdiv a) = ((a * b) % 18446744073709551616) / a := by
    rw [IntKind.wrap_u64, IntKind.wrap_u64, Int.tdiv_eq_ediv_of_nonneg hm.1]
    have h1 : 0 ≤ ((a * b) % 18446744073709551616) / a := Int.ediv_nonneg hm.1 ha.1
    have h2 : ((a * b) % 18446744073709551616) / a ≤ (a * b) % 18446744073709551616 := Int.ediv_le_self _ hm.1
    omega
  rw [e1]
  by_cases hc : a * b < 18446744073709551616
  · rw [decide_eq_true hc]
    have := h.2 hc
    simp [this]
  · rw [decide_eq_false hc]
    have : ¬ _ := fun x => hc (h.1 x)
    simpa using this
theorem dec_mul (a b : Int) (w : World) (ha : Dp.U a) (hb : Dp.U b) :
    Calls Tryd.prog 75 #[.int .u64 a, .int .u64 b] w fun e w' => e = .returned (.tuple #[.int .u64 (Dp.mulN a b), .int .i64 (Dp.mulE a b)]) ∧ w = w' := by
  have hp : 0 ≤ a * b := Int.mul_nonneg ha.1 hb.1
  by_cases h0 : a = 0
  · subst h0
    go_enter Tryd.func75, Tryd.ntmps75
    go_wp2
    go_ret2
    refine ⟨ret_pair ?_ ?_, rfl⟩ <;> simp [Dp.mulN, Dp.mulE, IntKind.wrap_u64]
  · have h1 : (a != 0) = true := bne_iff_ne.2 h0
    by_cases hc : a * b < 18446744073709551616
    · have H1 := Lib.hid (show Dp.mulN a b = a * b from if_pos hc)
      have H2 := Lib.hid (show Dp.mulE a b = 0 from if_pos hc)
      have H3 := Lib.hid (show IntKind.u64.wrap (a * b) = a * b from by rw [IntKind.wrap_u64]; omega)
      have ht : (IntKind.u64.wrap ((IntKind.u64.wrap (a * b)).tdiv a) != b) = false := by rw [mul_test ha hb h0, decide_eq_true hc]; rfl
      clear hc hp
      go_enter Tryd.func75, Tryd.ntmps75
      go_wp2
      go_ret2
      exact ⟨ret_pair (H3.out.trans H1.out.symm) H2.out.symm, rfl⟩
    · have H1 := Lib.hid (show Dp.mulN a b = 0 from if_neg hc)
      have H2 := Lib.hid (show Dp.mulE a b = 111 from if_neg hc)
      have ht : (IntKind.u64.wrap ((IntKind.u64.wrap (a * b)).tdiv a) != b) = true := by rw [mul_test ha hb h0, decide_eq_false hc]; rfl
      clear hc hp
      go_enter Tryd.func75, Tryd.ntmps75
      go_wp2
      go_ret2
      exact ⟨ret_pair H1.out.symm H2.out.symm, rfl⟩
theorem most_div {a : Int} (ha : Dp.U a) (h0 : a ≠ 0) : IntKind.u64.wrap (Int.tdiv 18446744073709551615 a) = 18446744073709551615 / a := by
  unfold Dp.U at ha
  rw [IntKind.wrap_u64, Int.tdiv_eq_ediv_of_nonneg (by omega)]
  have h1 : 0 ≤ (18446744073709551615 : Int) / a := Int.ediv_nonneg (by omega) ha.1
  have h2 : (18446744073709551615 : Int) / a ≤ 18446744073709551615 := Int.ediv_le_self _ (by omega)
  omega
end Go.Proofs.YtaekcmoogobbjaaDoor

/- The closures by which layer 1 (decimal) reads digits compute the plain functions of the texts Dp and Dq. Bytes are from 0 to 255, the base is ten or sixteen, texts have at most 1000000 bytes. -/
namespace Go.Proofs.YtaekcmoogobbjaaDoor
set_option linter.unusedVariables false
set_option linter.unusedSimpArgs false
open Go.RowKit
set_option maxHeartbeats 400000
theorem strings_indexByte (s : ByteArray) (c : Int) (w : World) :
    Calls Tryd.prog 70 #[.string s, .int .u8 c] w fun e w' => e = .returned (.int .i64 (Lib.indexByte s.data.toList c.toNat.toUInt8)) ∧ w = w' :=
  (Tryd.strings_IndexByte s c w).mono fun _ _ h => ⟨h.1, h.2.symm⟩
theorem val_ten {c : Int} (h0 : 0 ≤ c) (h1 : c < 256) : Lib.indexByte (Dp.known 10) c.toNat.toUInt8 = Dp.valV 10 c := by
  obtain ⟨n, rfl⟩ := Int.eq_ofNat_of_zero_le h0
  exact Dp.index_ten ⟨n, by omega⟩
theorem val_hex_low {c : Int} (h0 : 0 ≤ c) (h1 : c < 256) (h : ¬ (65 ≤ c ∧ c ≤ 70)) : Lib.indexByte (Dp.known 16) c.toNat.toUInt8 = Dp.valV 16 c := by
  obtain ⟨n, rfl⟩ := Int.eq_ofNat_of_zero_le h0
  have := Dp.index_hex ⟨n, by omega⟩
  simp only [show ¬ (65 ≤ n ∧ n ≤ 70) by omega, if_false] at this
  exact this
theorem val_hex_up {c : Int} (h : 65 ≤ c ∧ c ≤ 70) : Lib.indexByte (Dp.known 16) (c + 32).toNat.toUInt8 = Dp.valV 16 c := by
  obtain ⟨n, rfl⟩ := Int.eq_ofNat_of_zero_le (show 0 ≤ c by omega)
  have := Dp.index_hex ⟨n, by omega⟩
  simp only [show (65 ≤ n ∧ n ≤ 70) by omega, and_self, if_true] at this
  exact this
theorem val_any (b : Int) (hb : b = 10 ∨ b = 16) (c : Int) (rb kb : Nat) (w : World) (h0 : 0 ≤ c) (h1 : c < 256) (hr : w.cell? ⟨rb, 1, none⟩ = some (.int .i64 b)) (hk : w.cell? ⟨kb, 0, none⟩ = some (.string ⟨(Dp.known b).toArray⟩)) :
    Calls Tryd.prog 69 #[.int .u8 c, .pointer (some ⟨rb, 0, none⟩), .pointer (some ⟨kb, 0, none⟩)] w fun e w' => e = .returned (.int .i64 (Dp.valV b c)) ∧ w = w' := by
  have H10 : Hid (Lib.indexByte (Dp.known 10) c.toNat.toUInt8 = Dp.valV 10 c) := val_ten h0 h1
  rcases hb with rfl | rfl
  · go_enter Tryd.func69, Tryd.ntmps69
    go_wp2_with fail
    refine (strings_indexByte _ _ _).mono ?_
    rintro e w' ⟨rfl, rfl⟩
    go_wp2
    go_ret
    exact ⟨ret_int H10.out, rfl⟩
  · by_cases h : 65 ≤ c ∧ c ≤ 70
    · have H := Lib.hid (val_hex_up h)
      obtain ⟨h2, h3⟩ := h
      go_enter Tryd.func69, Tryd.ntmps69
      go_wp2_with fail
      refine (strings_indexByte _ _ _).mono ?_
      rintro e w' ⟨rfl, rfl⟩
      go_wp2
      go_ret
      exact ⟨ret_int H.out, rfl⟩
    · have H := Lib.hid (val_hex_low h0 h1 h)
      go_enter Tryd.func69, Tryd.ntmps69
      go_wp2_with fail
      all_goals (try (exfalso; omega))
      all_goals (
        refine (strings_indexByte _ _ _).mono ?_
        rintro e w' ⟨rfl, rfl⟩
        go_wp2
        go_ret
        exact ⟨ret_int H.out, rfl⟩)
theorem is_any (b : Int) (hb : b = 10 ∨ b = 16) (c : Int) (rb kb vb : Nat) (w : World) (h0 : 0 ≤ c) (h1 : c < 256) (hr : w.cell? ⟨rb, 1, none⟩ = some (.int .i64 b)) (hk : w.cell? ⟨kb, 0, none⟩ = some (.string ⟨(Dp.known b).toArray⟩))
    (hv : w.cell? ⟨vb, 0, none⟩ = some (.func (.func 69) #[] #[.pointer (some ⟨rb, 0, none⟩), .pointer (some ⟨kb, 0, none⟩)])) :
    Calls Tryd.prog 72 #[.int .u8 c, .pointer (some ⟨vb, 0, none⟩)] w fun e w' => e = .returned (.bool (decide (Dp.digV c < b))) ∧ w = w' := by
  have K := Lib.hid (val_any b hb c rb kb w h0 h1 hr hk)
  clear hr hk
  go_enter Tryd.func72, Tryd.ntmps72
  go_wp2_with fail
  refine K.out.mono ?_
  rintro e w' ⟨rfl, rfl⟩
  go_wp2
  go_ret
  refine ⟨?_, rfl⟩
  have := Dp.digV_lo c
  congr 2
  unfold Dp.valV
  simp
  split <;> omega
theorem digits_any (b : Int) (hb : b = 10 ∨ b = 16) (s : ByteArray) (rb kb vb : Nat) (w : World) (hs : s.size ≤ 1000000) (hr : w.cell? ⟨rb, 1, none⟩ = some (.int .i64 b)) (hk : w.cell? ⟨kb, 0, none⟩ = some (.string ⟨(Dp.known b).toArray⟩))
    (hv : w.cell? ⟨vb, 0, none⟩ = some (.func (.func 69) #[] #[.pointer (some ⟨rb, 0, none⟩), .pointer (some ⟨kb, 0, none⟩)])) :
    Calls Tryd.prog 71 #[.agg #[.string s], .func (.func 72) #[] #[.pointer (some ⟨vb, 0, none⟩)]] w fun e w' =>
      e = .returned (.bool (!s.data.toList.isEmpty && Dp.allD b s.data.toList)) ∧ w.alloc (.cells #[.string s] 105) = w' := by
  go_enter Tryd.func71, Tryd.ntmps71
  have K := Lib.hid (fun (c : Int) (W : World) (h0 : 0 ≤ c) (h1 : c < 256) (hW : Below w.heap.size w W) => is_any b hb c rb kb vb W h0 h1 (cell_below hW hr) (cell_below hW hk) (cell_below hW hv))
  clear hr hk hv
  go_wp2_with fail
  go_loop [5, 9] (fun _ i => ∃ k : Nat, k ≤ s.size ∧ i = .int .i64 k ∧ Dp.allD b (s.data.toList.take k) = true) (fun _ i => s.size - (intOf i).toNat)
  case atStart => exact ⟨0, Nat.zero_le _, rfl, rfl⟩
  case round =>
    obtain ⟨k, hk, rfl, hall⟩ := hrel
    have HA := Lib.hid hall
    clear hall
    by_cases hlt : k < s.size
    · have hb0 : 0 ≤ ((s[k]).toNat : Int) := by omega
      have hb1 : ((s[k]).toNat : Int) < 256 := by have := (s[k]).toNat_lt; omega
      go_wp2_with fail
      refine (K.out _ _ hb0 hb1 ((Below.refl _ _).alloc (Nat.le_refl _) _)).mono ?_
      rintro e w' ⟨rfl, rfl⟩
      have HT := Lib.hid (take_snoc s k hlt)
      generalize hd : decide (Dp.digV ((s[k]).toNat : Int) < b) = d
      have HD := Lib.hid hd
      clear hd
      cases d
      · go_wp2
        go_ret
        refine ⟨ret_bool ?_, rfl⟩
        have hn := Dp.allD_no (b := b) (l := s.data.toList) (k := k) (by simpa using hlt) (by exact HD.out)
        rw [hn]
        simp
      · go_wp2
        go_round
        case rel => exact ⟨k + 1, by omega, by go_num, by rw [HT.out]; unfold Dp.allD at *; rw [List.all_append, HA.out]; simpa using HD.out⟩
        case measure => simp [intOf]; omega
    · go_wp2
      go_ret
      refine ⟨ret_bool ?_, rfl⟩
      have h1 : s.data.toList.take k = s.data.toList := List.take_of_length_le (by simp; omega)
      have h2 := HA.out
      rw [h1] at h2
      rw [h2]
      simp [ByteArray.toList_eq]
end Go.Proofs.YtaekcmoogobbjaaDoor

/- One digit more, and a row of digits, as layer 1 (decimal) reads them, compute the plain functions of the texts Dp and Dq. Bases are ten or sixteen; at most 1000000 digits. -/
namespace Go.Proofs.YtaekcmoogobbjaaDoor
set_option linter.unusedVariables false
set_option linter.unusedSimpArgs false
open Go.RowKit
set_option maxHeartbeats 400000
def Env (w : World) (b : Int) (rb kb vb : Nat) : Prop :=
  w.cell? ⟨rb, 1, none⟩ = some (.int .i64 b) ∧ w.cell? ⟨kb, 0, none⟩ = some (.string ⟨(Dp.known b).toArray⟩) ∧
  w.cell? ⟨vb, 0, none⟩ = some (.func (.func 69) #[] #[.pointer (some ⟨rb, 0, none⟩), .pointer (some ⟨kb, 0, none⟩)])
theorem Env.below {w w' : World} {b : Int} {rb kb vb : Nat} (h : Env w b rb kb vb) (hb : Below w.heap.size w w') : Env w' b rb kb vb :=
  ⟨cell_below hb h.1, cell_below hb h.2.1, cell_below hb h.2.2⟩
/-- one digit more -/
def stepN (b n c : Int) : Int := if Dp.mulE n b = 0 then Dp.addN (Dp.mulN n b) (Dp.digV c) else 0
def stepE (b n c : Int) : Int := if Dp.mulE n b = 0 then Dp.addE (Dp.mulN n b) (Dp.digV c) else Dp.mulE n b
theorem step_any (b : Int) (hb : b = 10 ∨ b = 16) (n c : Int) (rb kb vb : Nat) (w : World) (hn : Dp.U n) (h0 : 0 ≤ c) (h1 : c < 256) (hd : Dp.digV c < b) (hE : Env w b rb kb vb) :
    Calls Tryd.prog 74 #[.int .u64 n, .int .u8 c, .pointer (some ⟨rb, 0, none⟩), .pointer (some ⟨vb, 0, none⟩)] w fun e w' => e = .returned (.tuple #[.int .u64 (stepN b n c), .int .i64 (stepE b n c)]) ∧ w = w' := by
  have hbU : Dp.U b := by unfold Dp.U; omega
  have hb0 : 0 ≤ b := by omega
  have hb1 : b < 18446744073709551616 := by omega
  have K := Lib.hid (val_any b hb c rb kb w h0 h1 hE.1 hE.2.1)
  have hr := hE.1
  have hv := hE.2.2
  have M := Lib.hid (dec_mul n b w hn hbU)
  have hS1 := Lib.hid (show stepN b n c = if Dp.mulE n b = 0 then Dp.addN (Dp.mulN n b) (Dp.digV c) else 0 from rfl)
  have hS2 := Lib.hid (show stepE b n c = if Dp.mulE n b = 0 then Dp.addE (Dp.mulN n b) (Dp.digV c) else Dp.mulE n b from rfl)
  have HV := Lib.hid (show Dp.valV b c = Dp.digV c from if_pos hd)
  have HW := Lib.hid (show IntKind.u64.wrap (Dp.digV c) = Dp.digV c from by have := Dp.digV_lo c; rw [IntKind.wrap_u64]; omega)
  have A := Lib.hid (dec_add (Dp.mulN n b) (Dp.digV c) w (Dp.mulN_U hn hbU) (Dp.digit_U c))
  clear hE hd hb hbU hn
  go_enter Tryd.func74, Tryd.ntmps74
  go_wp2_with fail
  refine M.out.mono ?_
  rintro e w' ⟨rfl, rfl⟩
  obtain ⟨m, hm⟩ : ∃ m, Dp.mulE n b = m := ⟨_, rfl⟩
  rw [hm]
  have Hm := Lib.hid hm
  clear hm
  by_cases hm0 : m = 0
  · subst hm0
    go_wp2_with fail
    refine K.out.mono ?_
    rintro e w' ⟨rfl, rfl⟩
    rw [HV.out]
    go_wp2_with fail
    rw [HW.out]
    refine A.out.mono ?_
    rintro e w' ⟨rfl, rfl⟩
    go_wp2
    go_ret2
    exact ⟨ret_pair (by rw [hS1.out, Hm.out, if_pos rfl]) (by rw [hS2.out, Hm.out, if_pos rfl]), rfl⟩
  · have hm1 : (m != 0) = true := bne_iff_ne.2 hm0
    have Hm0 := Lib.hid hm0
    clear hm0
    go_wp2
    go_ret2
    exact ⟨ret_pair (by rw [hS1.out, Hm.out, if_neg Hm0.out]) (by rw [hS2.out, Hm.out, if_neg Hm0.out]), rfl⟩
theorem stepN_rd {b n : Int} {c : UInt8} {l : List UInt8} : stepE b n c.toNat = 0 → Dp.rd b (c :: l) n = Dp.rd b l (stepN b n c.toNat) := by
  unfold stepE stepN
  intro h
  by_cases h1 : Dp.mulE n b = 0
  · rw [if_pos h1] at h ⊢
    simp [Dp.rd, h1, h]
  · rw [if_neg h1] at h; exact absurd h h1
theorem stepE_rd {b n : Int} {c : UInt8} {l : List UInt8} : stepE b n c.toNat ≠ 0 → Dp.rd b (c :: l) n = (0, 111) ∧ stepE b n c.toNat = 111 := by
  unfold stepE
  intro h
  by_cases h1 : Dp.mulE n b = 0
  · rw [if_pos h1] at h ⊢
    refine ⟨by simp [Dp.rd, h1, h], ?_⟩
    unfold Dp.addE at h ⊢
    split at h
    · exact absurd rfl h
    · rw [if_neg (by assumption)]
  · rw [if_neg h1] at h ⊢
    refine ⟨by simp [Dp.rd, h1], ?_⟩
    unfold Dp.mulE at h1 ⊢
    split at h1
    · exact absurd rfl h1
    · rw [if_neg (by assumption)]
theorem stepN_U {b n c : Int} (hb : b = 10 ∨ b = 16) (hn : Dp.U n) : Dp.U (stepN b n c) := by
  unfold stepN
  split
  · exact Dp.addN_U (Dp.mulN_U hn (by unfold Dp.U; omega)) (Dp.digit_U c)
  · unfold Dp.U; omega
theorem folded_any (b : Int) (hb : b = 10 ∨ b = 16) (l : List UInt8) (B cap rb kb vb : Nat) (w : World) (hl : l.length ≤ 1000000) (hall : Dp.allD b l = true) (hE : Env w b rb kb vb) (hB : Bytes w B 0 l) :
    Calls Tryd.prog 73 #[.func (.func 74) #[] #[.pointer (some ⟨rb, 0, none⟩), .pointer (some ⟨vb, 0, none⟩)], .slice (some ⟨B, 0, none⟩) l.length cap] w fun e w' =>
      e = .returned (.tuple #[.int .u64 (Dp.rd b l 0).1, .int .i64 (Dp.rd b l 0).2]) ∧ w = w' := by
  have K := Lib.hid (fun (n c : Int) (hn : Dp.U n) (h0 : 0 ≤ c) (h1 : c < 256) (hd : Dp.digV c < b) => step_any b hb n c rb kb vb w hn h0 h1 hd hE)
  have HU := Lib.hid (fun (n c : Int) (hn : Dp.U n) => stepN_U (c := c) hb hn)
  have HA := Lib.hid hall
  have HB := Lib.hid hB
  clear hE hall hb hB
  go_enter Tryd.func73, Tryd.ntmps73
  go_wp2_with fail
  go_loop [4, 5, 7, 10] (fun n _ _ i => ∃ (k : Nat) (m : Int), k ≤ l.length ∧ i = .int .i64 k ∧ n = .int .u64 m ∧ Dp.U m ∧ Dp.rd b l 0 = Dp.rd b (l.drop k) m) (fun _ _ _ i => l.length - (intOf i).toNat)
  case atStart => exact ⟨0, 0, Nat.zero_le _, rfl, rfl, by unfold Dp.U; omega, rfl⟩
  case round =>
    obtain ⟨k, m, hk, rfl, rfl, hm, hrd⟩ := hrel
    have HR := Lib.hid hrd
    have HM := Lib.hid hm
    clear hrd hm
    by_cases hlt : k < l.length
    · have hc := HB.out k hlt
      rw [Nat.zero_add] at hc
      have hdr : l.drop k = l.getD k 0 :: l.drop (k + 1) := by rw [List.drop_eq_getElem_cons hlt]; simp [List.getD_eq_getElem?_getD, List.getElem?_eq_getElem hlt]
      have HD := Lib.hid hdr
      clear hdr
      have hx := (l.getD k 0).toNat_lt
      have hdig : Dp.digV ((l.getD k 0).toNat : Int) < b := by
        have := HA.out
        unfold Dp.allD at this
        rw [List.all_eq_true] at this
        have h2 := this (l.getD k 0) (by simp [List.getD_eq_getElem?_getD, List.getElem?_eq_getElem hlt])
        simpa using h2
      have HG := Lib.hid hdig
      clear hdig
      have S1 := Lib.hid (@stepN_rd b m (l.getD k 0) (l.drop (k + 1)))
      have S2 := Lib.hid (@stepE_rd b m (l.getD k 0) (l.drop (k + 1)))
      have S3 := Lib.hid (HU.out m ((l.getD k 0).toNat : Int) HM.out)
      generalize l.getD k 0 = c at *
      go_wp2_with fail
      refine (K.out m (c.toNat : Int) HM.out (by omega) (by omega) HG.out).mono ?_
      rintro e w' ⟨rfl, rfl⟩
      obtain ⟨sn, hN⟩ : ∃ sn, stepN b m (c.toNat : Int) = sn := ⟨_, rfl⟩
      obtain ⟨se, hEr⟩ : ∃ se, stepE b m (c.toNat : Int) = se := ⟨_, rfl⟩
      rw [hN, hEr]
      have HN := Lib.hid hN
      have HEr := Lib.hid hEr
      clear hN hEr
      by_cases hz : se = 0
      · subst hz
        go_wp2
        go_round
        case rel => exact ⟨k + 1, sn, by omega, by go_num, rfl, by rw [← HN.out]; exact S3.out, by rw [HR.out, HD.out, S1.out HEr.out, HN.out]⟩
        case measure => simp [intOf]; omega
      · have hz1 : (se != 0) = true := bne_iff_ne.2 hz
        have HZ := Lib.hid hz
        clear hz
        go_wp2
        go_ret2
        refine ⟨ret_pair ?_ ?_, rfl⟩
        · rw [HR.out, HD.out, (S2.out (by rw [HEr.out]; exact HZ.out)).1]
        · rw [HR.out, HD.out, (S2.out (by rw [HEr.out]; exact HZ.out)).1, ← HEr.out]; exact (S2.out (by rw [HEr.out]; exact HZ.out)).2
    · go_wp2
      go_ret2
      have h1 : l.drop k = [] := List.drop_eq_nil_of_le (by omega)
      refine ⟨ret_pair ?_ ?_, rfl⟩
      · rw [HR.out, h1]; rfl
      · rw [HR.out, h1]; rfl
theorem folded_at (b : Int) (hb : b = 10 ∨ b = 16) (l : List UInt8) (n B cap rb kb vb : Nat) (w : World) (hn : n = l.length) (hl : l.length ≤ 1000000) (hall : Dp.allD b l = true) (hE : Env w b rb kb vb) (hB : Bytes w B 0 l) :
    Calls Tryd.prog 73 #[.func (.func 74) #[] #[.pointer (some ⟨rb, 0, none⟩), .pointer (some ⟨vb, 0, none⟩)], .slice (some ⟨B, 0, none⟩) n cap] w fun e w' =>
      e = .returned (.tuple #[.int .u64 (Dp.rd b l 0).1, .int .i64 (Dp.rd b l 0).2]) ∧ w = w' := by
  subst hn
  exact folded_any b hb l B cap rb kb vb w hl hall hE hB
end Go.Proofs.YtaekcmoogobbjaaDoor

/- A text of digits, read to the base of ten or sixteen as layer 1 (decimal) does, is the number that the text Dq defines. Texts have at most 1000000 bytes. -/
namespace Go.Proofs.YtaekcmoogobbjaaDoor
set_option linter.unusedVariables false
set_option linter.unusedSimpArgs false
open Go.RowKit
set_option maxHeartbeats 1000000
set_option maxRecDepth 100000 in
theorem num_bad {b : Int} {l : List UInt8} (h : (!l.isEmpty && Dp.allD b l) = false) : Dp.numN b l = 0 ∧ Dp.numE b l = 110 := by
  have : l = [] ∨ Dp.allD b l = false := by
    rw [Bool.and_eq_false_iff] at h
    rcases h with h | h
    · exact .inl (by simpa using h)
    · exact .inr h
  exact ⟨if_pos this, if_pos this⟩
theorem num_good {b : Int} {l : List UInt8} (h : (!l.isEmpty && Dp.allD b l) = true) : Dp.numN b l = (Dp.rd b l 0).1 ∧ Dp.numE b l = (Dp.rd b l 0).2 ∧ Dp.allD b l = true := by
  rw [Bool.and_eq_true] at h
  have : ¬ (l = [] ∨ Dp.allD b l = false) := by
    rintro (h' | h')
    · subst h'; simp at h
    · rw [h'] at h; simp at h
  exact ⟨if_neg this, if_neg this, h.2⟩
set_option maxRecDepth 100000 in
theorem number_any (b : Int) (hb : b = 10 ∨ b = 16) (s : ByteArray) (w : World) (hs : s.size ≤ 1000000) :
    Calls Tryd.prog 58 #[.agg #[.string s, .int .i64 b]] w fun e w' =>
      e = .returned (.tuple #[.int .u64 (Dp.numN b s.data.toList), .int .i64 (Dp.numE b s.data.toList)]) ∧ Below w.heap.size w w' := by
  rcases hb with rfl | rfl
  · go_enter Tryd.func58, Tryd.ntmps58
    have hcv := fun (W : World) (s : ByteArray) => Lib.run_convert_string_bytes (P := Tryd.prog) W 9 22 5 s Tryd.underlying9 Tryd.underlying22 Tryd.underlying5
    go_wp2_with fail
    refine wp_scope_fwd 0 rfl ?_
    go_wp2_with fail
    refine (digits_any 10 (.inl rfl) s w.heap.size (w.heap.size + 1) (w.heap.size + 2) _ hs ?_ ?_ ?_).mono ?_
    · go_simp
    · go_simp
      rfl
    · go_simp
    rintro e w' ⟨rfl, rfl⟩
    obtain ⟨d, hd⟩ : ∃ d, (!s.data.toList.isEmpty && Dp.allD 10 s.data.toList) = d := ⟨_, rfl⟩
    rw [hd]
    have HD := Lib.hid hd
    clear hd
    cases d
    · go_wp2_with fail
      go_step3
      simp only [Exit.then]
      refine onGoto_goto ?_
      go_wp2
      rw [Exit.noGoto_ret]
      go_ret2
      obtain ⟨h1, h2⟩ := num_bad HD.out
      refine ⟨ret_pair h1.symm h2.symm, ?_⟩
      exact ((((Below.refl _ _).alloc (Nat.le_refl _) _).alloc (by simp) _).alloc (by simp; omega) _).alloc (by simp; omega) _
    · go_wp2_with fail
      obtain ⟨h1, h2, h3⟩ := num_good HD.out
      have H1 := Lib.hid h1
      have H2 := Lib.hid h2
      clear h1 h2
      refine (folded_at 10 (.inl rfl) s.data.toList _ _ _ w.heap.size (w.heap.size + 1) (w.heap.size + 2) _ rfl (by simpa using hs) h3 ?_ ?_).mono ?_
      · refine ⟨?_, ?_, ?_⟩
        · rw [Lib.bytesWorld_old _ _ _ _ (by simp <;> omega)]
          go_simp
        · rw [Lib.bytesWorld_old _ _ _ _ (by simp <;> omega)]
          go_simp
          rfl
        · rw [Lib.bytesWorld_old _ _ _ _ (by simp <;> omega)]
          go_simp
      · exact bytes_bytesWorld_at _ _ s _ (by simp)
      rintro e w' ⟨rfl, rfl⟩
      have R := Lib.hid (Dp.rd_err 10 s.data.toList 0)
      obtain ⟨r1, hr1⟩ : ∃ r, (Dp.rd 10 s.data.toList 0).1 = r := ⟨_, rfl⟩
      obtain ⟨r2, hr2⟩ : ∃ r, (Dp.rd 10 s.data.toList 0).2 = r := ⟨_, rfl⟩
      rw [hr1, hr2]
      have HR1 := Lib.hid hr1
      have HR2 := Lib.hid hr2
      clear hr1 hr2 h3 hcv
      by_cases hz : r2 = 0
      · subst hz
        go_wp2
        rw [onGoto_ret]
        go_ret2
        refine ⟨ret_pair (by rw [H1.out, HR1.out]) (by rw [H2.out, HR2.out]), ?_⟩
        exact (((((Below.refl _ _).alloc (Nat.le_refl _) _).alloc (by simp) _).alloc (by simp; omega) _).alloc (by simp; omega) _).trans (below_bytesWorld _ _ _ _ (by simp; omega))
      · have hz1 : (r2 != 0) = true := bne_iff_ne.2 hz
        have HZ := Lib.hid hz
        clear hz
        go_wp2_with fail
        go_step3
        simp only [Exit.then]
        refine onGoto_goto ?_
        go_wp2
        rw [Exit.noGoto_ret]
        go_ret2
        refine ⟨ret_pair ?_ (by rw [H2.out, HR2.out]), ?_⟩
        · rw [H1.out]
          rcases R.out with h | h
          · exact absurd (HR2.out.symm.trans h) HZ.out
          · exact h.1.symm
        exact (((((Below.refl _ _).alloc (Nat.le_refl _) _).alloc (by simp) _).alloc (by simp; omega) _).alloc (by simp; omega) _).trans (below_bytesWorld _ _ _ _ (by simp; omega))
  · go_enter Tryd.func58, Tryd.ntmps58
    have hcv := fun (W : World) (s : ByteArray) => Lib.run_convert_string_bytes (P := Tryd.prog) W 9 22 5 s Tryd.underlying9 Tryd.underlying22 Tryd.underlying5
    go_wp2_with fail
    refine wp_scope_fwd 0 rfl ?_
    go_wp2_with fail
    refine (digits_any 16 (.inr rfl) s w.heap.size (w.heap.size + 1) (w.heap.size + 2) _ hs ?_ ?_ ?_).mono ?_
    · go_simp
    · go_simp
      rfl
    · go_simp
    rintro e w' ⟨rfl, rfl⟩
    obtain ⟨d, hd⟩ : ∃ d, (!s.data.toList.isEmpty && Dp.allD 16 s.data.toList) = d := ⟨_, rfl⟩
    rw [hd]
    have HD := Lib.hid hd
    clear hd
    cases d
    · go_wp2_with fail
      go_step3
      simp only [Exit.then]
      refine onGoto_goto ?_
      go_wp2
      rw [Exit.noGoto_ret]
      go_ret2
      obtain ⟨h1, h2⟩ := num_bad HD.out
      refine ⟨ret_pair h1.symm h2.symm, ?_⟩
      exact ((((Below.refl _ _).alloc (Nat.le_refl _) _).alloc (by simp) _).alloc (by simp; omega) _).alloc (by simp; omega) _
    · go_wp2_with fail
      obtain ⟨h1, h2, h3⟩ := num_good HD.out
      have H1 := Lib.hid h1
      have H2 := Lib.hid h2
      clear h1 h2
      refine (folded_at 16 (.inr rfl) s.data.toList _ _ _ w.heap.size (w.heap.size + 1) (w.heap.size + 2) _ rfl (by simpa using hs) h3 ?_ ?_).mono ?_
      · refine ⟨?_, ?_, ?_⟩
        · rw [Lib.bytesWorld_old _ _ _ _ (by simp <;> omega)]
          go_simp
        · rw [Lib.bytesWorld_old _ _ _ _ (by simp <;> omega)]
          go_simp
          rfl
        · rw [Lib.bytesWorld_old _ _ _ _ (by simp <;> omega)]
          go_simp
      · exact bytes_bytesWorld_at _ _ s _ (by simp)
      rintro e w' ⟨rfl, rfl⟩
      have R := Lib.hid (Dp.rd_err 16 s.data.toList 0)
      obtain ⟨r1, hr1⟩ : ∃ r, (Dp.rd 16 s.data.toList 0).1 = r := ⟨_, rfl⟩
      obtain ⟨r2, hr2⟩ : ∃ r, (Dp.rd 16 s.data.toList 0).2 = r := ⟨_, rfl⟩
      rw [hr1, hr2]
      have HR1 := Lib.hid hr1
      have HR2 := Lib.hid hr2
      clear hr1 hr2 h3 hcv
      by_cases hz : r2 = 0
      · subst hz
        go_wp2
        rw [onGoto_ret]
        go_ret2
        refine ⟨ret_pair (by rw [H1.out, HR1.out]) (by rw [H2.out, HR2.out]), ?_⟩
        exact (((((Below.refl _ _).alloc (Nat.le_refl _) _).alloc (by simp) _).alloc (by simp; omega) _).alloc (by simp; omega) _).trans (below_bytesWorld _ _ _ _ (by simp; omega))
      · have hz1 : (r2 != 0) = true := bne_iff_ne.2 hz
        have HZ := Lib.hid hz
        clear hz
        go_wp2_with fail
        go_step3
        simp only [Exit.then]
        refine onGoto_goto ?_
        go_wp2
        rw [Exit.noGoto_ret]
        go_ret2
        refine ⟨ret_pair ?_ (by rw [H2.out, HR2.out]), ?_⟩
        · rw [H1.out]
          rcases R.out with h | h
          · exact absurd (HR2.out.symm.trans h) HZ.out
          · exact h.1.symm
        exact (((((Below.refl _ _).alloc (Nat.le_refl _) _).alloc (by simp) _).alloc (by simp; omega) _).alloc (by simp; omega) _).trans (below_bytesWorld _ _ _ _ (by simp; omega))
end Go.Proofs.YtaekcmoogobbjaaDoor

/- What layer 1 (decimal) and its reference tell of a text's number is what the text Dq defines. Texts have at most 1000000 bytes. -/
namespace Go.Proofs.YtaekcmoogobbjaaDoor
set_option linter.unusedVariables false
set_option linter.unusedSimpArgs false
open Go.RowKit
set_option maxHeartbeats 1000000
theorem bases_0 (w : World) : (Instr.index 93 (.agg #[.int .i64 10, .int .i64 16]) (.int .i64 0)).run Tryd.prog w = .ok (.int .i64 10) w := by kernel_rfl
theorem bases_1 (w : World) : (Instr.index 93 (.agg #[.int .i64 10, .int .i64 16]) (.int .i64 1)).run Tryd.prog w = .ok (.int .i64 16) w := by kernel_rfl
theorem dec_bases (w : World) :
    Calls Tryd.prog 51 #[] w fun e w' => e = .returned (.agg #[.int .i64 10, .int .i64 16]) ∧ Below w.heap.size w w' := by
  go_enter Tryd.func51, Tryd.ntmps51
  go_wp2
  refine bodyPost_ret (v := .agg #[.int .i64 10, .int .i64 16]) (by simp [results, Tryd.results51, go_sem]) rfl ⟨rfl, (Below.refl _ _).alloc (Nat.le_refl _) _⟩
set_option maxRecDepth 100000 in
theorem dec_hexDigits (s : ByteArray) (w : World) (hs : s.size ≤ 1000000) :
    Calls Tryd.prog 46 #[.string s] w fun e w' => e = .returned (.tuple #[.int .u64 (Dp.numN 16 s.data.toList), .int .i64 (Dp.numE 16 s.data.toList)]) ∧ Below w.heap.size w w' := by
  have i0 := bases_1
  go_enter Tryd.func46, Tryd.ntmps46
  go_wp2_with fail
  refine (dec_bases _).mono ?_
  rintro e w1 ⟨rfl, hb⟩
  go_wp2_with fail
  refine (number_any 16 (.inr rfl) s _ hs).mono ?_
  clear hs
  rintro e w2 ⟨rfl, hb2⟩
  go_wp2
  go_ret2
  exact ⟨rfl, hb.trans (hb2.mono hb.size)⟩
theorem par_yes {l : List UInt8} (h : 1 < l.length) (h0 : l.getD 0 0 = 48) : Dp.parN l = 0 ∧ Dp.parE l = 110 := by
  have : 1 < l.length ∧ l.head? = some 48 := ⟨h, by cases l with
    | nil => simp at h
    | cons a l => simpa using h0⟩
  exact ⟨if_pos this, if_pos this⟩
theorem par_no {l : List UInt8} (h : 1 < l.length → l.getD 0 0 ≠ 48) : Dp.parN l = Dp.numN 10 l ∧ Dp.parE l = Dp.numE 10 l := by
  have : ¬ (1 < l.length ∧ l.head? = some 48) := by
    rintro ⟨h1, h2⟩
    refine h h1 ?_
    cases l with
    | nil => simp at h1
    | cons a l => simpa using h2
  exact ⟨if_neg this, if_neg this⟩
theorem head_is {s : ByteArray} (h : 0 < s.size) (h0 : (((s[0]'h).toNat : Int) == 48) = true) : s.data.toList.getD 0 0 = 48 := by
  have e : s.data.toList.getD 0 0 = s[0]'h := by
    rw [List.getD_eq_getElem?_getD, List.getElem?_eq_getElem (by simpa using h)]; rfl
  rw [e]
  have := beq_iff_eq.1 h0
  exact UInt8.toNat_inj.1 (by simpa using (by omega : (s[0]'h).toNat = 48))
theorem head_isnt {s : ByteArray} (h : 0 < s.size) (h0 : (((s[0]'h).toNat : Int) == 48) = false) : s.data.toList.getD 0 0 ≠ 48 := by
  have e : s.data.toList.getD 0 0 = s[0]'h := by
    rw [List.getD_eq_getElem?_getD, List.getElem?_eq_getElem (by simpa using h)]; rfl
  rw [e]
  intro hc
  rw [hc] at h0
  simp at h0
theorem num_is {b : Int} {l : List UInt8} (h0 : l ≠ []) (ha : Dp.allD b l = true) : Dp.numN b l = (Dp.rd b l 0).1 ∧ Dp.numE b l = (Dp.rd b l 0).2 := by
  have : ¬ (l = [] ∨ Dp.allD b l = false) := by
    rintro (h' | h')
    · exact h0 h'
    · rw [h'] at ha; exact absurd ha (by decide)
  exact ⟨if_neg this, if_neg this⟩
theorem num_111 {b : Int} {l : List UInt8} (h0 : l ≠ []) (ha : Dp.allD b l = true) (h : Dp.rd b l 0 = (0, 111)) :
    Ending.returned (.tuple #[.int .u64 0, .int .i64 111]) = Ending.returned (.tuple #[.int .u64 (Dp.numN b l), .int .i64 (Dp.numE b l)]) := by
  obtain ⟨h1, h2⟩ := num_is h0 ha
  rw [h1, h2, h]
theorem num_err {b : Int} {l : List UInt8} : Dp.numE b l = 110 → Dp.numN b l = 0 := by
  intro h
  by_cases hc : l = [] ∨ Dp.allD b l = false
  · exact if_pos hc
  · unfold Dp.numE at h
    rw [if_neg hc] at h
    rcases Dp.rd_err b l 0 with h' | h'
    · rw [h'] at h; exact absurd h (by decide)
    · rw [h'.2] at h; exact absurd h (by decide)
end Go.Proofs.YtaekcmoogobbjaaDoor

/- Slices of bytes, and slices of such, as they lie in memory. No condition but those that each lemma states. -/
namespace Go.Proofs.YtaekcmoogobbjaaDoor
set_option linter.unusedVariables false
set_option linter.unusedSimpArgs false
open Go.RowKit
def by8 (b : UInt8) : Value := .int .u8 (b.toNat : Int)
/-- a slice of bytes -/
def BRow (w : World) (v : Value) (l : List UInt8) : Prop := ∃ ao cap, v = .slice ao l.length cap ∧ l.length ≤ cap ∧
  ((ao = none ∧ l = [] ∧ cap = 0) ∨ ∃ g o, ao = some ⟨g, o, none⟩ ∧ ∀ j, j < l.length → w.cell? ⟨g, o + j, none⟩ = some (by8 (l.getD j 0)))
theorem BRow.below {w w' : World} {v : Value} {l : List UInt8} (h : BRow w v l) (hb : Below w.heap.size w w') : BRow w' v l := by
  obtain ⟨ao, cap, rfl, hc, h⟩ := h
  refine ⟨ao, cap, rfl, hc, ?_⟩
  rcases h with h | ⟨g, o, rfl, h⟩
  · exact .inl h
  · exact .inr ⟨g, o, rfl, fun j hj => cell_below hb (h j hj)⟩
theorem BRow.nil (w : World) : BRow w (.slice none 0 0) [] := ⟨none, 0, rfl, Nat.le_refl _, .inl ⟨rfl, rfl, rfl⟩⟩
/-- one block holds no byte: what else holds bytes lies elsewhere -/
theorem BRow.grown {w w' : World} {v : Value} {l : List UInt8} {K : Nat} {x : Value} {t : TypeId} (h : BRow w v l) (hK : w.heap[K]? = some (.cells #[x] t (0, 0))) (hx : ∀ k n, x ≠ .int k n) (hg : w.grownBy w' (some K)) : BRow w' v l := by
  obtain ⟨ao, cap, rfl, hc, h⟩ := h
  refine ⟨ao, cap, rfl, hc, ?_⟩
  rcases h with h | ⟨g, o, rfl, h⟩
  · exact .inl h
  · refine .inr ⟨g, o, rfl, fun j hj => ?_⟩
    have hc := h j hj
    have hne : some g ≠ some K := by
      intro e
      obtain rfl : g = K := by simpa using e
      simp only [World.cell?, hK, Option.bind_eq_bind] at hc
      rcases Nat.eq_zero_or_pos (o + j) with h0 | h0
      · rw [h0] at hc
        simp [by8] at hc
        exact hx _ _ hc
      · have : (#[x] : Array Value)[o + j]? = none := Array.getElem?_eq_none (by simp; omega)
        simp [this] at hc
    have hlt := lt_of_cell hc
    exact (World.cell?_of_block (a := ⟨g, o + j, none⟩) (hg.block g hlt hne)).trans hc
/-- a slice of slices of bytes -/
def BRows (w : World) (v : Value) (L : List (List UInt8)) : Prop := ∃ p c, v = .slice p L.length c ∧ L.length ≤ c ∧
  ((p = none ∧ L = [] ∧ c = 0) ∨ ∃ g o, p = some ⟨g, o, none⟩ ∧ ∀ k, k < L.length → ∃ x, w.cell? ⟨g, o + k, none⟩ = some x ∧ BRow w x (L.getD k []))
theorem BRows.below {w w' : World} {v : Value} {L : List (List UInt8)} (h : BRows w v L) (hb : Below w.heap.size w w') : BRows w' v L := by
  obtain ⟨p, c, rfl, hc, h⟩ := h
  refine ⟨p, c, rfl, hc, ?_⟩
  rcases h with h | ⟨g, o, rfl, h⟩
  · exact .inl h
  · refine .inr ⟨g, o, rfl, fun k hk => ?_⟩
    obtain ⟨x, h1, h2⟩ := h k hk
    exact ⟨x, cell_below hb h1, h2.below hb⟩
/-- what a slice of the call's own owns reads as bytes -/
theorem BRow.of_own {w : World} {base : Nat} {v : Value} {l : List UInt8} {n : Nat} (h : w.ownsRow base 5 1 v n (l.map by8)) : BRow w v l := by
  have hl : n = l.length := by have := h.1; simpa using this.symm
  subst hl
  rcases h.2 with ⟨rfl, h0⟩ | ⟨g, cap, cur, rfl, hb, hg, hn, hm, hs, ht⟩
  · have : l = [] := List.length_eq_zero_iff.1 h0
    subst this
    exact BRow.nil w
  · refine ⟨_, cap, rfl, hn, .inr ⟨g, 0, rfl, fun j hj => ?_⟩⟩
    rw [Nat.zero_add]
    unfold World.cell?
    rw [show (⟨g, j, none⟩ : Addr).block = g from rfl, hg]
    show (if (none : Option _).isSome then none else cur[j]?) = _
    have h1 : (cur.toList.take (l.length * 1))[j]? = (l.map by8)[j]? := by rw [ht]
    rw [List.getElem?_take_of_lt (by omega)] at h1
    rw [if_neg (by simp), ← Array.getElem?_toList, h1, List.getElem?_map, List.getElem?_eq_getElem hj, List.getD_eq_getElem?_getD, List.getElem?_eq_getElem hj]
    rfl
theorem conv_brow {w : World} {v : Value} {l : List UInt8} (h : BRow w v l) : (convert 22 9 v).run Tryd.prog w = .ok (.string ⟨l.toArray⟩) w := by
  obtain ⟨ao, cap, rfl, hc, h⟩ := h
  rcases h with ⟨rfl, rfl, rfl⟩ | ⟨g, o, rfl, h⟩
  · rw [show ([] : List UInt8).length = 0 from rfl, run_convert_bytes_string w 22 9 5 none 0 0 Tryd.underlying22 Tryd.underlying5 Tryd.underlying9]
    rfl
  · refine run_convert_bytes_back w 22 9 5 ⟨g, o, none⟩ cap l Tryd.underlying22 Tryd.underlying5 Tryd.underlying9 (fun j hj => ?_)
    rw [Lib.add_plain, h j hj, List.getD_eq_getElem?_getD, List.getElem?_eq_getElem hj]
    rfl
theorem by8_one (u : Value) (l : List UInt8) (h : u ∈ l.map by8) : u.oneCell' = true := by
  obtain ⟨b, _, rfl⟩ := List.mem_map.1 h
  rfl
/-- the bytes of a row, as append asks for them -/
theorem BRow.news {w : World} {g o : Nat} {l : List UInt8} (h : ∀ j, j < l.length → w.cell? ⟨g, o + j, none⟩ = some (by8 (l.getD j 0))) (j : Nat) (u : Value) (hj : (l.map by8)[j]? = some u) : w.cell? ((⟨g, o, none⟩ : Addr).add j) = some u := by
  rw [List.getElem?_map] at hj
  rcases hl : l[j]? with _ | x
  · rw [hl] at hj; cases hj
  · rw [hl] at hj
    have hlt := (List.getElem?_eq_some_iff.1 hl).1
    rw [Lib.add_plain, h j hlt, List.getD_eq_getElem?_getD, hl]
    exact hj
end Go.Proofs.YtaekcmoogobbjaaDoor

/- A region that draws its order, by what holds at each of its stands. -/
namespace Go.Proofs.YtaekcmoogobbjaaDoor
set_option linter.unusedVariables false
set_option linter.unusedSimpArgs false

set_option maxHeartbeats 2000000
def backB (md : Region.Mode) (ops : Array Oper) : Bool := (List.range ops.size).all fun i => ((ops[i]?).map fun o => o.guard.isNone && o.after.all fun e => !Region.binds md e || decide (e.on < i)).getD true
section
variable {P : Program} {ops : Array Oper} {Q : Exit → Act → World → Prop} {md : Region.Mode}
theorem back_of (h : backB md ops = true) {i : Nat} {o : Oper} (ho : ops[i]? = some o) : o.guard = none ∧ ∀ e ∈ o.after, Region.binds md e = true → e.on < i := by
  have hi := (Array.getElem?_eq_some_iff.1 ho).1
  have h1 := List.all_eq_true.1 h i (List.mem_range.2 hi)
  rw [ho] at h1
  simp only [Option.map_some, Option.getD_some, Bool.and_eq_true] at h1
  refine ⟨by simpa using h1.1, fun e he hbd => ?_⟩
  have := (Array.all_eq_true_iff_forall_mem.1 h1.2) e he
  rw [hbd] at this
  simpa using this
theorem ready_mem {listed : Array Bool} (hs : listed.size = ops.size) {i : Nat} (h : i ∈ Region.ready md ops listed) :
    ∃ o, ops[i]? = some o ∧ listed.getD i false = false ∧ i < listed.size ∧ ∀ e ∈ o.after, Region.binds md e = true → listed.getD e.on false = true := by
  unfold Region.ready at h
  obtain ⟨h1, h2⟩ := List.mem_filter.1 h
  have hi := List.mem_range.1 h1
  refine ⟨ops[i], Array.getElem?_eq_getElem hi, ?_, by omega, ?_⟩
  · simp only [Bool.and_eq_true] at h2
    have h3 := h2.1
    have hj : i < listed.size := by omega
    simp only [Array.getD, hj, dite_true] at h3 ⊢
    simpa using h3
  · intro e he hb
    simp only [Bool.and_eq_true, Array.getElem?_eq_getElem hi, Option.map_some, Option.getD_some] at h2
    have h3 := (Array.all_eq_true_iff_forall_mem.1 h2.2) e he
    rw [hb] at h3
    simpa using h3
theorem ready_all (hb : backB md ops = true) {listed : Array Bool} (hs : listed.size = ops.size) (h : Region.ready md ops listed = []) : ∀ i, i < ops.size → listed.getD i false = true := by
  intro i
  induction i using Nat.strongRecOn with
  | _ i ih =>
    intro hi
    by_cases hl : listed.getD i false = true
    · exact hl
    · exfalso
      have hj : i < listed.size := by omega
      have hm : i ∈ Region.ready md ops listed := by
        unfold Region.ready
        refine List.mem_filter.2 ⟨List.mem_range.2 hi, ?_⟩
        simp only [Bool.and_eq_true, Array.getElem?_eq_getElem hi, Option.map_some, Option.getD_some]
        refine ⟨?_, Array.all_eq_true_iff_forall_mem.2 fun e he => ?_⟩
        · simp only [Array.getD, hj, dite_true] at hl ⊢
          simpa using hl
        · cases hbd : Region.binds md e with
          | false => rfl
          | true =>
            have h1 := (back_of hb (Array.getElem?_eq_getElem hi)).2 e he hbd
            rw [ih e.on h1 (by omega)]
            simp
      rw [h] at hm
      cases hm
theorem wpAny_inv (hb : backB md ops = true) (Inv : (Nat → Bool) → Act → World → Prop)
    (hstep : ∀ (f : Nat → Bool) (a : Act) (w : World) (i : Nat) (o : Oper), ops[i]? = some o → f i = false → (∀ e ∈ o.after, Region.binds md e = true → f e.on = true) → Inv f a w →
      o.wp P a w (Inv (fun j => if j = i then true else f j)) Q)
    (hdone : ∀ (f : Nat → Bool) (a : Act) (w : World), (∀ i, i < ops.size → f i = true) → Inv f a w → Q .normal a w) :
    ∀ (fuel : Nat) (listed : Array Bool) (a : Act) (w : World), listed.size = ops.size → listed.toList.count false ≤ fuel → Inv (fun i => listed.getD i false) a w → wpAny P md ops Q fuel listed a w := by
  intro fuel
  induction fuel with
  | zero =>
    intro listed a w hs hc hI
    have hr : Region.ready md ops listed = [] := by
      cases hr : Region.ready md ops listed with
      | nil => rfl
      | cons i r =>
        obtain ⟨o, ho, hl, hi, _⟩ := ready_mem (md := md) hs (i := i) (by rw [hr]; exact List.mem_cons_self)
        have h1 : false ∈ listed.toList := by
          simp only [Array.getD, hi, dite_true] at hl
          have h2 : listed[i] ∈ listed.toList := Array.mem_toList_iff.2 (Array.getElem_mem hi)
          have h3 : listed[i] = false := hl
          rwa [h3] at h2
        have := List.count_pos_iff.2 h1
        omega
    exact ⟨hr, hdone _ a w (ready_all hb hs hr) hI⟩
  | succ fuel ih =>
    intro listed a w hs hc hI
    refine ⟨fun hr => hdone _ a w (ready_all hb hs hr) hI, fun i hi => ?_⟩
    obtain ⟨o, ho, hl, hil, hpre⟩ := ready_mem hs hi
    have hg := (back_of hb ho).1
    have h1 := hstep _ a w i o ho hl hpre hI
    unfold wpOp
    simp only [ho]
    rw [if_pos (by simp [Region.wanted, hg])]
    refine .inl (Oper.wp_mono (fun a' w' hI' => ?_) h1)
    refine ih _ a' w' (by simp [hs]) ?_ ?_
    · have h3 : listed.toList[i]'(by simpa using hil) = false := by
        simp only [Array.getD, hil, dite_true] at hl
        simpa using hl
      rw [Array.toList_setIfInBounds, List.count_set (h := by simpa using hil), h3]
      have h4 : 0 < listed.toList.count false := List.count_pos_iff.2 (by rw [← h3]; exact List.getElem_mem _)
      rw [if_pos (by rfl), if_neg (by decide)]
      omega
    · refine cast (congrArg (fun g => Inv g a' w') (funext fun j => ?_)) hI'
      by_cases hj : j = i
      · subst hj
        simp [Array.getD, hil]
      · rw [if_neg hj]
        simp only [Array.getD, Array.size_setIfInBounds]
        by_cases hjl : j < listed.size
        · simp [hjl, Array.getElem_setIfInBounds, Ne.symm hj]
        · simp [hjl]
theorem region_inv {id : Nat} {a : Act} {w : World} (hm : P.follows .mixedOrders = true) (hb : backB .any ops = true) (Inv : (Nat → Bool) → Act → World → Prop) (h0 : Inv (fun _ => false) a w.drew)
    (hstep : ∀ (f : Nat → Bool) (a : Act) (w : World) (i : Nat) (o : Oper), ops[i]? = some o → f i = false → (∀ e ∈ o.after, Region.binds .any e = true → f e.on = true) → Inv f a w →
      o.wp P a w (Inv (fun j => if j = i then true else f j)) Q)
    (hdone : ∀ (f : Nat → Bool) (a : Act) (w : World), (∀ i, i < ops.size → f i = true) → Inv f a w → Q .normal a w) : (Code.region id ops true).wp P Q a w := by
  refine wp_region_any hm (wpAny_inv hb Inv hstep hdone _ _ a _ (by simp) ?_ ?_)
  · refine Nat.le_trans List.count_le_length ?_
    simp
  · refine cast (congrArg (fun g => Inv g a w.drew) (funext fun j => ?_)) h0
    by_cases hj : j < ops.size <;> simp [Array.getD, hj]
end
end Go.Proofs.YtaekcmoogobbjaaDoor

/- A region that draws its order and fills one slot by each operation: by what each slot holds. -/
namespace Go.Proofs.YtaekcmoogobbjaaDoor
set_option linter.unusedVariables false
set_option linter.unusedSimpArgs false
open Go.RowKit
set_option maxHeartbeats 2000000
def fillN (slot : Nat → Nat) (vs : Nat → Value) (m : Nat) (t : Array Value) : Array Value := (List.range m).foldl (fun t i => t.setIfInBounds (slot i) (vs i)) t
theorem fillN_succ (slot : Nat → Nat) (vs : Nat → Value) (m : Nat) (t : Array Value) : fillN slot vs (m + 1) t = (fillN slot vs m t).setIfInBounds (slot m) (vs m) := by
  simp [fillN, List.range_succ]
theorem fillN_size (slot : Nat → Nat) (vs : Nat → Value) (m : Nat) (t : Array Value) : (fillN slot vs m t).size = t.size := by
  induction m with
  | zero => rfl
  | succ m ih => rw [fillN_succ, Array.size_setIfInBounds, ih]
theorem getD_set (t : Array Value) (d j : Nat) (v : Value) (hd : d < t.size) : (t.setIfInBounds d v).getD j undef = if j = d then v else t.getD j undef := by
  rw [Array.getD_eq_getD_getElem?, Array.getD_eq_getD_getElem?, Array.getElem?_setIfInBounds]
  by_cases h : j = d
  · subst h; simp [hd]
  · rw [if_neg (Ne.symm h), if_neg h]
theorem fillN_get (slot : Nat → Nat) (vs : Nat → Value) (t : Array Value) (hs : ∀ i, slot i < t.size) : ∀ m j, (∀ i, i < m → slot i ≠ j) → (fillN slot vs m t).getD j undef = t.getD j undef
  | 0, j, _ => rfl
  | m + 1, j, h => by
    rw [fillN_succ, getD_set _ _ _ _ (by rw [fillN_size]; exact hs m), if_neg (Ne.symm (h m (by omega))), fillN_get slot vs t hs m j (fun i hi => h i (by omega))]
theorem fillN_at (slot : Nat → Nat) (vs : Nat → Value) (t : Array Value) (hs : ∀ i, slot i < t.size) : ∀ m, (∀ i j, i < m → j < m → slot i = slot j → i = j) → ∀ i, i < m → (fillN slot vs m t).getD (slot i) undef = vs i
  | 0, _, i, hi => absurd hi (by omega)
  | m + 1, hinj, i, hi => by
    rw [fillN_succ, getD_set _ _ _ _ (by rw [fillN_size]; exact hs m)]
    by_cases h : i = m
    · subst h; rw [if_pos rfl]
    · rw [if_neg (fun e => h (hinj i m hi (by omega) e))]
      exact fillN_at slot vs t hs m (fun i j h1 h2 h3 => hinj i j (by omega) (by omega) h3) i (by omega)
theorem ext_getD {s t : Array Value} (hs : s.size = t.size) (h : ∀ j, s.getD j undef = t.getD j undef) : s = t := by
  refine Array.ext hs (fun i h1 h2 => ?_)
  have := h i
  rw [Array.getD_eq_getD_getElem?, Array.getD_eq_getD_getElem?, Array.getElem?_eq_getElem h1, Array.getElem?_eq_getElem h2] at this
  exact this
section
variable {P : Program} {ops : Array Oper} {Q : Exit → Act → World → Prop}
/-- where such a region stands -/
structure Stand (a0 : Act) (w0 : World) (m : Nat) (slot : Nat → Nat) (F : Nat → World → Value → Prop) (f : Nat → Bool) (a : Act) (w : World) : Prop where
  defers : a.defers = a0.defers
  size : a.tmps.size = a0.tmps.size
  rest : ∀ j, (∀ i, i < m → slot i ≠ j) → a.tmps.getD j undef = a0.tmps.getD j undef
  bel : Below w0.heap.size w0 w
  have_ : ∀ i, i < m → f i = true → F i w (a.tmps.getD (slot i) undef)
theorem region_slots {id : Nat} {a0 : Act} {w0 : World} (slot : Nat → Nat) (F : Nat → World → Value → Prop) (hm : P.follows .mixedOrders = true) (hb : backB .any ops = true)
    (hs : ∀ i, slot i < a0.tmps.size) (hinj : ∀ i j, i < ops.size → j < ops.size → slot i = slot j → i = j) (hF : ∀ i w w' v, F i w v → Below w.heap.size w w' → F i w' v)
    (hdst : ∀ i o, ops[i]? = some o → o.dst = some (slot i))
    (hstep : ∀ (f : Nat → Bool) (a : Act) (w : World) (i : Nat) (o : Oper), ops[i]? = some o → (∀ e ∈ o.after, Region.binds .any e = true → F e.on w (a.tmps.getD (slot e.on) undef)) → Below w0.heap.size w0 w →
      (∀ j, (∀ i, i < ops.size → slot i ≠ j) → a.tmps.getD j undef = a0.tmps.getD j undef) → o.wp P a w (fun a' w' => ∃ v, a' = a.put o.dst v ∧ F i w' v ∧ Below w.heap.size w w') Q)
    (hdone : ∀ (vs : Nat → Value) (w : World), Below w0.heap.size w0 w → (∀ i, i < ops.size → F i w (vs i)) → Q .normal { a0 with tmps := fillN slot vs ops.size a0.tmps } w) : (Code.region id ops true).wp P Q a0 w0 := by
  refine region_inv hm hb (Stand a0 w0 ops.size slot F) ⟨rfl, rfl, fun _ _ => rfl, ⟨rfl, rfl, rfl, Nat.le_refl _, fun _ _ => rfl⟩, fun _ _ h => by cases h⟩ ?_ ?_
  · intro f a w i o ho hf hpre hI
    have hi := (Array.getElem?_eq_some_iff.1 ho).1
    refine Oper.wp_mono ?_ (hstep f a w i o ho (fun e he hbd => hI.have_ e.on (by have := (back_of hb ho).2 e he hbd; omega) (hpre e he hbd)) hI.bel hI.rest)
    rintro a' w' ⟨v, rfl, hv, hbw⟩
    rw [hdst i o ho]
    have hsl : slot i < a.tmps.size := by rw [hI.size]; exact hs i
    refine ⟨hI.defers, by rw [← hI.size]; exact Array.size_setIfInBounds .., fun j hj => ?_, hI.bel.trans (hbw.mono hI.bel.size), fun j hj hfj => ?_⟩
    · show (a.tmps.setIfInBounds (slot i) v).getD j undef = _
      rw [getD_set _ _ _ _ hsl, if_neg (Ne.symm (hj i hi))]
      exact hI.rest j hj
    · show F j w' ((a.tmps.setIfInBounds (slot i) v).getD (slot j) undef)
      rw [getD_set _ _ _ _ hsl]
      by_cases hji : j = i
      · subst hji; rw [if_pos rfl]; exact hv
      · rw [if_neg (fun e => hji (hinj j i hj hi e))]
        have h2 : f j = true := by simpa [hji] using hfj
        exact hF j w w' _ (hI.have_ j hj h2) hbw
  · intro f a w hall hI
    have e : a = { a0 with tmps := fillN slot (fun i => a.tmps.getD (slot i) undef) ops.size a0.tmps } := by
      have h1 : a.tmps = fillN slot (fun i => a.tmps.getD (slot i) undef) ops.size a0.tmps := by
        refine ext_getD (by rw [fillN_size, hI.size]) (fun j => ?_)
        by_cases hj : ∃ i, i < ops.size ∧ slot i = j
        · obtain ⟨i, hi, rfl⟩ := hj
          rw [fillN_at slot _ _ hs _ hinj i hi]
        · rw [fillN_get slot _ _ hs _ j (fun i hi e => hj ⟨i, hi, e⟩), hI.rest j (fun i hi e => hj ⟨i, hi, e⟩)]
      obtain ⟨t, d⟩ := a
      have h2 := hI.defers
      simp only at h1 h2
      rw [← h1, h2]
    rw [e]
    exact hdone _ w hI.bel (fun i hi => hI.have_ i hi (hall i hi))
end
end Go.Proofs.YtaekcmoogobbjaaDoor

/- A drawn region by what its slots hold, where the world is told by a relation of its own. -/
namespace Go.Proofs.YtaekcmoogobbjaaDoor
set_option linter.unusedVariables false
set_option linter.unusedSimpArgs false
open Go.RowKit
section
variable {P : Program} {ops : Array Oper} {Q : Exit → Act → World → Prop}
/-- where such a region stands -/
structure Stand2 (a0 : Act) (m : Nat) (slot : Nat → Nat) (F : Nat → World → Value → Prop) (T : (Nat → Bool) → World → Prop) (f : Nat → Bool) (a : Act) (w : World) : Prop where
  defers : a.defers = a0.defers
  size : a.tmps.size = a0.tmps.size
  rest : ∀ j, (∀ i, i < m → slot i ≠ j) → a.tmps.getD j undef = a0.tmps.getD j undef
  yet : ∀ i, i < m → f i = false → a.tmps.getD (slot i) undef = a0.tmps.getD (slot i) undef
  told : T f w
  have_ : ∀ i, i < m → f i = true → F i w (a.tmps.getD (slot i) undef)
theorem region_slots2 {id : Nat} {a0 : Act} {w0 : World} (slot : Nat → Nat) (F : Nat → World → Value → Prop) (T : (Nat → Bool) → World → Prop) (hm : P.follows .mixedOrders = true) (hb : backB .any ops = true)
    (hs : ∀ i, slot i < a0.tmps.size) (hinj : ∀ i j, i < ops.size → j < ops.size → slot i = slot j → i = j) (h0 : T (fun _ => false) w0.drew)
    (hdst : ∀ i o, ops[i]? = some o → o.dst = some (slot i))
    (hstep : ∀ (f : Nat → Bool) (a : Act) (w : World) (i : Nat) (o : Oper), ops[i]? = some o → f i = false → (∀ e ∈ o.after, Region.binds .any e = true → f e.on = true ∧ F e.on w (a.tmps.getD (slot e.on) undef)) → T f w →
      (∀ j, (∀ i, i < ops.size → slot i ≠ j) → a.tmps.getD j undef = a0.tmps.getD j undef) → (∀ i, i < ops.size → f i = false → a.tmps.getD (slot i) undef = a0.tmps.getD (slot i) undef) →
      o.wp P a w (fun a' w' => ∃ v, a' = a.put o.dst v ∧ F i w' v ∧ T (fun j => if j = i then true else f j) w' ∧ ∀ j v', f j = true → F j w v' → F j w' v') Q)
    (hdone : ∀ (f : Nat → Bool) (vs : Nat → Value) (w : World), (∀ i, i < ops.size → f i = true) → T f w → (∀ i, i < ops.size → F i w (vs i)) → Q .normal { a0 with tmps := fillN slot vs ops.size a0.tmps } w) : (Code.region id ops true).wp P Q a0 w0 := by
  refine region_inv hm hb (Stand2 a0 ops.size slot F T) ⟨rfl, rfl, fun _ _ => rfl, fun _ _ _ => rfl, h0, fun _ _ h => by cases h⟩ ?_ ?_
  · intro f a w i o ho hf hpre hI
    have hi := (Array.getElem?_eq_some_iff.1 ho).1
    refine Oper.wp_mono ?_ (hstep f a w i o ho hf (fun e he hbd => ⟨hpre e he hbd, hI.have_ e.on (by have := (back_of hb ho).2 e he hbd; omega) (hpre e he hbd)⟩) hI.told hI.rest hI.yet)
    rintro a' w' ⟨v, rfl, hv, ht, hst⟩
    rw [hdst i o ho]
    have hsl : slot i < a.tmps.size := by rw [hI.size]; exact hs i
    refine ⟨hI.defers, by rw [← hI.size]; exact Array.size_setIfInBounds .., fun j hj => ?_, fun j hj hfj => ?_, ht, fun j hj hfj => ?_⟩
    · show (a.tmps.setIfInBounds (slot i) v).getD j undef = _
      rw [getD_set _ _ _ _ hsl, if_neg (Ne.symm (hj i hi))]
      exact hI.rest j hj
    · show (a.tmps.setIfInBounds (slot i) v).getD (slot j) undef = _
      have hji : j ≠ i := fun e => by simp [e] at hfj
      rw [getD_set _ _ _ _ hsl, if_neg (fun e => hji (hinj j i hj hi e))]
      exact hI.yet j hj (by simpa [hji] using hfj)
    · show F j w' ((a.tmps.setIfInBounds (slot i) v).getD (slot j) undef)
      rw [getD_set _ _ _ _ hsl]
      by_cases hji : j = i
      · subst hji; rw [if_pos rfl]; exact hv
      · rw [if_neg (fun e => hji (hinj j i hj hi e))]
        have h2 : f j = true := by simpa [hji] using hfj
        exact hst j _ h2 (hI.have_ j hj h2)
  · intro f a w hall hI
    have e : a = { a0 with tmps := fillN slot (fun i => a.tmps.getD (slot i) undef) ops.size a0.tmps } := by
      have h1 : a.tmps = fillN slot (fun i => a.tmps.getD (slot i) undef) ops.size a0.tmps := by
        refine ext_getD (by rw [fillN_size, hI.size]) (fun j => ?_)
        by_cases hj : ∃ i, i < ops.size ∧ slot i = j
        · obtain ⟨i, hi, rfl⟩ := hj
          rw [fillN_at slot _ _ hs _ hinj i hi]
        · rw [fillN_get slot _ _ hs _ j (fun i hi e => hj ⟨i, hi, e⟩), hI.rest j (fun i hi e => hj ⟨i, hi, e⟩)]
      obtain ⟨t, d⟩ := a
      have h2 := hI.defers
      simp only at h1 h2
      rw [← h1, h2]
    rw [e]
    exact hdone f _ w hall hI.told (fun i hi => hI.have_ i hi (hall i hi))
end
end Go.Proofs.YtaekcmoogobbjaaDoor

/- A region that draws its order and has guarded operations: by what its slots hold; which operations stand is decided ahead. -/
namespace Go.Proofs.YtaekcmoogobbjaaDoor
set_option linter.unusedVariables false
set_option linter.unusedSimpArgs false
open Go.RowKit
set_option maxHeartbeats 2000000
def backG (md : Region.Mode) (ops : Array Oper) : Bool := (List.range ops.size).all fun i => ((ops[i]?).map fun o => (match o.guard with | none => true | some (g, _) => o.after.any fun e => e.on == g && Region.binds md e) && o.after.all fun e => !Region.binds md e || decide (e.on < i)).getD true
section
variable {P : Program} {ops : Array Oper} {Q : Exit → Act → World → Prop} {md : Region.Mode}
theorem back_ofG (h : backG md ops = true) {i : Nat} {o : Oper} (ho : ops[i]? = some o) : (∀ g b, o.guard = some (g, b) → ∃ e ∈ o.after, e.on = g ∧ Region.binds md e = true) ∧ ∀ e ∈ o.after, Region.binds md e = true → e.on < i := by
  have hi := (Array.getElem?_eq_some_iff.1 ho).1
  have h1 := List.all_eq_true.1 h i (List.mem_range.2 hi)
  rw [ho] at h1
  simp only [Option.map_some, Option.getD_some, Bool.and_eq_true] at h1
  refine ⟨fun g b hgb => ?_, fun e he hbd => ?_⟩
  · have h2 := h1.1
    rw [hgb] at h2
    obtain ⟨k, hk, h3⟩ := Array.any_eq_true.1 h2
    rw [Bool.and_eq_true, beq_iff_eq] at h3
    exact ⟨_, Array.getElem_mem hk, h3.1, h3.2⟩
  · have := (Array.all_eq_true_iff_forall_mem.1 h1.2) e he
    rw [hbd] at this
    simpa using this
theorem ready_allG (hb : backG md ops = true) {listed : Array Bool} (hs : listed.size = ops.size) (h : Region.ready md ops listed = []) : ∀ i, i < ops.size → listed.getD i false = true := by
  intro i
  induction i using Nat.strongRecOn with
  | _ i ih =>
    intro hi
    by_cases hl : listed.getD i false = true
    · exact hl
    · exfalso
      have hj : i < listed.size := by omega
      have hm : i ∈ Region.ready md ops listed := by
        unfold Region.ready
        refine List.mem_filter.2 ⟨List.mem_range.2 hi, ?_⟩
        simp only [Bool.and_eq_true, Array.getElem?_eq_getElem hi, Option.map_some, Option.getD_some]
        refine ⟨?_, Array.all_eq_true_iff_forall_mem.2 fun e he => ?_⟩
        · simp only [Array.getD, hj, dite_true] at hl ⊢
          simpa using hl
        · cases hbd : Region.binds md e with
          | false => rfl
          | true =>
            have h1 := (back_ofG hb (Array.getElem?_eq_getElem hi)).2 e he hbd
            rw [ih e.on h1 (by omega)]
            simp
      rw [h] at hm
      cases hm
theorem wpAny_invG (hb : backG md ops = true) (Inv : (Nat → Bool) → Act → World → Prop)
    (hstep : ∀ (f : Nat → Bool) (a : Act) (w : World) (i : Nat) (o : Oper), ops[i]? = some o → f i = false → (∀ e ∈ o.after, Region.binds md e = true → f e.on = true) → Inv f a w →
      if Region.wanted o (yielded ops a.tmps) then o.wp P a w (Inv (fun j => if j = i then true else f j)) Q else Inv (fun j => if j = i then true else f j) (a.put o.dst undef) w)
    (hdone : ∀ (f : Nat → Bool) (a : Act) (w : World), (∀ i, i < ops.size → f i = true) → Inv f a w → Q .normal a w) :
    ∀ (fuel : Nat) (listed : Array Bool) (a : Act) (w : World), listed.size = ops.size → listed.toList.count false ≤ fuel → Inv (fun i => listed.getD i false) a w → wpAny P md ops Q fuel listed a w := by
  intro fuel
  induction fuel with
  | zero =>
    intro listed a w hs hc hI
    have hr : Region.ready md ops listed = [] := by
      cases hr : Region.ready md ops listed with
      | nil => rfl
      | cons i r =>
        obtain ⟨o, ho, hl, hi, _⟩ := ready_mem (md := md) hs (i := i) (by rw [hr]; exact List.mem_cons_self)
        have h1 : false ∈ listed.toList := by
          simp only [Array.getD, hi, dite_true] at hl
          have h2 : listed[i] ∈ listed.toList := Array.mem_toList_iff.2 (Array.getElem_mem hi)
          have h3 : listed[i] = false := hl
          rwa [h3] at h2
        have := List.count_pos_iff.2 h1
        omega
    exact ⟨hr, hdone _ a w (ready_allG hb hs hr) hI⟩
  | succ fuel ih =>
    intro listed a w hs hc hI
    refine ⟨fun hr => hdone _ a w (ready_allG hb hs hr) hI, fun i hi => ?_⟩
    obtain ⟨o, ho, hl, hil, hpre⟩ := ready_mem hs hi
    have h1 := hstep _ a w i o ho hl hpre hI
    have hnext : ∀ a' w', Inv (fun j => if j = i then true else listed.getD j false) a' w' → wpAny P md ops Q fuel (listed.setIfInBounds i true) a' w' := by
      intro a' w' hI'
      refine ih _ a' w' (by simp [hs]) ?_ ?_
      · have h3 : listed.toList[i]'(by simpa using hil) = false := by
          simp only [Array.getD, hil, dite_true] at hl
          simpa using hl
        rw [Array.toList_setIfInBounds, List.count_set (h := by simpa using hil), h3]
        have h4 : 0 < listed.toList.count false := List.count_pos_iff.2 (by rw [← h3]; exact List.getElem_mem _)
        rw [if_pos (by rfl), if_neg (by decide)]
        omega
      · refine cast (congrArg (fun g => Inv g a' w') (funext fun j => ?_)) hI'
        by_cases hj : j = i
        · subst hj
          simp [Array.getD, hil]
        · rw [if_neg hj]
          simp only [Array.getD, Array.size_setIfInBounds]
          by_cases hjl : j < listed.size
          · simp [hjl, Array.getElem_setIfInBounds, Ne.symm hj]
          · simp [hjl]
    unfold wpOp
    simp only [ho]
    split
    · rename_i hw
      rw [if_pos hw] at h1
      exact .inl (Oper.wp_mono (fun a' w' hI' => hnext a' w' hI') h1)
    · rename_i hw
      rw [if_neg hw] at h1
      exact hnext _ _ h1
theorem region_invG {id : Nat} {a : Act} {w : World} (hm : P.follows .mixedOrders = true) (hb : backG .any ops = true) (Inv : (Nat → Bool) → Act → World → Prop) (h0 : Inv (fun _ => false) a w.drew)
    (hstep : ∀ (f : Nat → Bool) (a : Act) (w : World) (i : Nat) (o : Oper), ops[i]? = some o → f i = false → (∀ e ∈ o.after, Region.binds .any e = true → f e.on = true) → Inv f a w →
      if Region.wanted o (yielded ops a.tmps) then o.wp P a w (Inv (fun j => if j = i then true else f j)) Q else Inv (fun j => if j = i then true else f j) (a.put o.dst undef) w)
    (hdone : ∀ (f : Nat → Bool) (a : Act) (w : World), (∀ i, i < ops.size → f i = true) → Inv f a w → Q .normal a w) : (Code.region id ops true).wp P Q a w := by
  refine wp_region_any hm (wpAny_invG hb Inv hstep hdone _ _ a _ (by simp) ?_ ?_)
  · refine Nat.le_trans List.count_le_length ?_
    simp
  · refine cast (congrArg (fun g => Inv g a w.drew) (funext fun j => ?_)) h0
    by_cases hj : j < ops.size <;> simp [Array.getD, hj]
/-- all slots are filled; sel: which operations stand; an operation that does not stand leaves undef -/
theorem region_slotsG {id : Nat} {a0 : Act} {w0 : World} (slot : Nat → Nat) (F : Nat → World → Value → Prop) (sel : Nat → Bool) (hm : P.follows .mixedOrders = true) (hb : backG .any ops = true)
    (hs : ∀ i, slot i < a0.tmps.size) (hinj : ∀ i j, i < ops.size → j < ops.size → slot i = slot j → i = j) (hF : ∀ i w w' v, F i w v → Below w.heap.size w w' → F i w' v)
    (hdst : ∀ i o, ops[i]? = some o → o.dst = some (slot i))
    (hgu : ∀ i o g b, ops[i]? = some o → o.guard = some (g, b) → ∀ w v, F g w v → v = .bool (if sel i then b else !b))
    (hng : ∀ i o, ops[i]? = some o → o.guard = none → sel i = true)
    (hskip : ∀ i w, i < ops.size → sel i = false → F i w undef)
    (hstep : ∀ (f : Nat → Bool) (a : Act) (w : World) (i : Nat) (o : Oper), ops[i]? = some o → sel i = true → (∀ e ∈ o.after, Region.binds .any e = true → F e.on w (a.tmps.getD (slot e.on) undef)) → Below w0.heap.size w0 w →
      (∀ j, (∀ i, i < ops.size → slot i ≠ j) → a.tmps.getD j undef = a0.tmps.getD j undef) → o.wp P a w (fun a' w' => ∃ v, a' = a.put o.dst v ∧ F i w' v ∧ Below w.heap.size w w') Q)
    (hdone : ∀ (vs : Nat → Value) (w : World), Below w0.heap.size w0 w → (∀ i, i < ops.size → F i w (vs i)) → Q .normal { a0 with tmps := fillN slot vs ops.size a0.tmps } w) : (Code.region id ops true).wp P Q a0 w0 := by
  refine region_invG hm hb (Stand a0 w0 ops.size slot F) ⟨rfl, rfl, fun _ _ => rfl, ⟨rfl, rfl, rfl, Nat.le_refl _, fun _ _ => rfl⟩, fun _ _ h => by cases h⟩ ?_ ?_
  · intro f a w i o ho hf hpre hI
    have hi := (Array.getElem?_eq_some_iff.1 ho).1
    have hsl : slot i < a.tmps.size := by rw [hI.size]; exact hs i
    have hput : ∀ w' v, F i w' v → Below w.heap.size w w' → Stand a0 w0 ops.size slot F (fun j => if j = i then true else f j) (a.put o.dst v) w' := by
      intro w' v hv hbw
      rw [hdst i o ho]
      refine ⟨hI.defers, by rw [← hI.size]; exact Array.size_setIfInBounds .., fun j hj => ?_, hI.bel.trans (hbw.mono hI.bel.size), fun j hj hfj => ?_⟩
      · show (a.tmps.setIfInBounds (slot i) v).getD j undef = _
        rw [getD_set _ _ _ _ hsl, if_neg (Ne.symm (hj i hi))]
        exact hI.rest j hj
      · show F j w' ((a.tmps.setIfInBounds (slot i) v).getD (slot j) undef)
        rw [getD_set _ _ _ _ hsl]
        by_cases hji : j = i
        · subst hji; rw [if_pos rfl]; exact hv
        · rw [if_neg (fun e => hji (hinj j i hj hi e))]
          have h2 : f j = true := by simpa [hji] using hfj
          exact hF j w w' _ (hI.have_ j hj h2) hbw
    have hwant : Region.wanted o (yielded ops a.tmps) = sel i := by
      unfold Region.wanted
      cases hg : o.guard with
      | none => exact (hng i o ho hg).symm
      | some gb =>
        obtain ⟨g, b⟩ := gb
        obtain ⟨e, he, heg, hbd⟩ := (back_ofG hb ho).1 g b hg
        have hgi : g < i := by rw [← heg]; exact (back_ofG hb ho).2 e he hbd
        have hfg : f g = true := by rw [← heg]; exact hpre e he hbd
        have hv := hgu i o g b ho hg w _ (hI.have_ g (by omega) hfg)
        have hsg : slot g < a.tmps.size := by rw [hI.size]; exact hs g
        have hy : yielded ops a.tmps g = some (if sel i then b else !b) := by
          unfold yielded
          rw [Array.getElem?_eq_getElem (show g < ops.size by omega), Option.bind_some, hdst g _ (Array.getElem?_eq_getElem (by omega)), Option.bind_some, Array.getElem?_eq_getElem hsg]
          rw [Array.getD_eq_getD_getElem?, Array.getElem?_eq_getElem hsg, Option.getD_some] at hv
          rw [hv]
        show (yielded ops a.tmps g == some b) = sel i
        rw [hy]
        cases sel i <;> cases b <;> rfl
    rw [hwant]
    cases hsel : sel i with
    | true =>
      rw [if_pos rfl]
      refine Oper.wp_mono ?_ (hstep f a w i o ho hsel (fun e he hbd => hI.have_ e.on (by have := (back_ofG hb ho).2 e he hbd; omega) (hpre e he hbd)) hI.bel hI.rest)
      rintro a' w' ⟨v, rfl, hv, hbw⟩
      exact hput w' v hv hbw
    | false =>
      rw [if_neg (by decide)]
      exact hput w undef (hskip i w hi hsel) (Below.refl _ _)
  · intro f a w hall hI
    have e : a = { a0 with tmps := fillN slot (fun i => a.tmps.getD (slot i) undef) ops.size a0.tmps } := by
      have h1 : a.tmps = fillN slot (fun i => a.tmps.getD (slot i) undef) ops.size a0.tmps := by
        refine ext_getD (by rw [fillN_size, hI.size]) (fun j => ?_)
        by_cases hj : ∃ i, i < ops.size ∧ slot i = j
        · obtain ⟨i, hi, rfl⟩ := hj
          rw [fillN_at slot _ _ hs _ hinj i hi]
        · rw [fillN_get slot _ _ hs _ j (fun i hi e => hj ⟨i, hi, e⟩), hI.rest j (fun i hi e => hj ⟨i, hi, e⟩)]
      obtain ⟨t, d⟩ := a
      have h2 := hI.defers
      simp only at h1 h2
      rw [← h1, h2]
    rw [e]
    exact hdone _ w hI.bel (fun i hi => hI.have_ i hi (hall i hi))
end
end Go.Proofs.YtaekcmoogobbjaaDoor

/- A range over a function, by one law: the iterator may turn one block of its own between two rounds. No condition but those that each lemma states. -/
namespace Go.Proofs.YtaekcmoogobbjaaDoor
set_option linter.unusedVariables false
set_option linter.unusedSimpArgs false
open Go.RowKit
/-- what turns beside the body: the blocks that the iterator owns; from B on, blocks that are no cells -/
structure Turn (B : Nat) (own : Nat → Prop) (W W' : World) : Prop where
  os : W'.os = W.os
  tape : W'.tape = W.tape
  output : W'.output = W.output
  size : W.heap.size ≤ W'.heap.size
  block : ∀ k, k < W.heap.size → ¬ own k → (B ≤ k → ∀ o, W.heap[k]? = some o → o.isCells = true) → W'.heap[k]? = W.heap[k]?
theorem Turn.refl (B : Nat) (own : Nat → Prop) (W : World) : Turn B own W W := ⟨rfl, rfl, rfl, Nat.le_refl _, fun _ _ _ _ => rfl⟩
theorem Turn.trans {B : Nat} {own : Nat → Prop} {X Y Z : World} (h : Turn B own X Y) (k : Turn B own Y Z) : Turn B own X Z :=
  ⟨k.os.trans h.os, k.tape.trans h.tape, k.output.trans h.output, Nat.le_trans h.size k.size, fun i hi hr hc => by
    have e := h.block i hi hr hc
    exact (k.block i (Nat.lt_of_lt_of_le hi h.size) hr (fun hb o ho => hc hb o (by rw [← e]; exact ho))).trans e⟩
theorem Turn.grown {B : Nat} {own : Nat → Prop} {row : Option Nat} {W W' : World} (h : W.grownBy W' row) (hr : ∀ b, row = some b → own b) : Turn B own W W' :=
  ⟨h.os, h.tape, h.output, h.size, fun k hk ho _ => h.block k hk (fun e => ho (hr k e.symm))⟩
theorem Turn.alloc {B : Nat} {own : Nat → Prop} (W : World) (o : Obj) : Turn B own W (W.alloc o) := .grown (World.grownBy_alloc W o none) (fun _ h => by cases h)
theorem Turn.drew {B : Nat} {own : Nat → Prop} (W : World) : Turn B own W W.drew := ⟨rfl, rfl, rfl, Nat.le_refl _, fun _ _ _ _ => rfl⟩
theorem Turn.setCell {B : Nat} {own : Nat → Prop} (W : World) (b i : Nat) (v : Value) (h : own b) : Turn B own W (W.setCell ⟨b, i, none⟩ v) :=
  ⟨rfl, rfl, rfl, (KeepsWalks.setCell W _ v).size, fun k _ ho _ => Below.heap_setCell _ _ _ k (fun e => ho (by rw [e]; exact h))⟩
theorem Turn.putObj {B l : Nat} {own : Nat → Prop} {W : World} {o : Obj} (o' : Obj) (hl : B ≤ l) (h : W.heap[l]? = some o) (hc : o.isCells = false) : Turn B own W (W.putObj l o') :=
  ⟨rfl, rfl, rfl, by simp, fun k hk hr hb => World.putObj_heap_other (fun e => by subst e; rw [hb hl o h] at hc; cases hc)⟩
theorem Turn.cells {B k : Nat} {own : Nat → Prop} {W W' : World} {o : Obj} (h : Turn B own W W') (hk : W.heap[k]? = some o) (hc : o.isCells = true) (hr : ¬ own k) : W'.heap[k]? = some o :=
  (h.block k (Array.getElem?_eq_some_iff.1 hk).1 hr (fun _ o' ho => by rw [hk] at ho; cases ho; exact hc)).trans hk
theorem Turn.boxed {B k : Nat} {own : Nat → Prop} {W W' : World} {t : TypeId} {v : Value} (h : Turn B own W W') (hk : Boxed W k t v) (hr : ¬ own k) : Boxed W' k t v := h.cells hk rfl hr
theorem Turn.low {B k : Nat} {own : Nat → Prop} {W W' : World} {o : Obj} (h : Turn B own W W') (hk : W.heap[k]? = some o) (hb : k < B) (hr : ¬ own k) : W'.heap[k]? = some o :=
  (h.block k (Array.getElem?_eq_some_iff.1 hk).1 hr (fun _ => by omega)).trans hk
theorem Turn.below {B N : Nat} {own : Nat → Prop} {W W' : World} (h : Turn B own W W') (hN : N ≤ B) (hs : N ≤ W.heap.size) (hr : ∀ b, own b → N ≤ b) : Below N W W' :=
  ⟨h.os, h.tape, h.output, h.size, fun k hk => h.block k (by omega) (fun e => by have := hr k e; omega) (fun hb => by omega)⟩
theorem Turn.mono {B B' : Nat} {own own' : Nat → Prop} {W W' : World} (h : Turn B own W W') (hb : B' ≤ B) (ho : ∀ k, own k → own' k) : Turn B' own' W W' :=
  ⟨h.os, h.tape, h.output, h.size, fun k hk hr hc => h.block k hk (fun e => hr (ho k e)) (fun hB => hc (by omega))⟩
/-- what an iterator at W does: N calls of yield at most, one behind the other -/
def IterAt (F : Fence) (n : Nat) (P : Program) (gf : Nat) (lb : Array Value) (encs : Nat → Array Value) (N : Nat) (own : Nat → Prop) (Kp : World → World → Prop) (W : World) : Prop :=
  ∀ (l : Nat) (J : Nat → World → Prop) (Jx : World → Prop),
    (∀ k X Y, J k X → Turn W.heap.size own X Y → J k Y) → (∀ X Y, Jx X → Turn W.heap.size own X Y → Jx Y) →
    (∀ k X, k < N → J k X → YieldAt F (n - 1) P l (encs k) X fun e Y => (e = .returned (.bool true) ∧ J (k + 1) Y ∧ Kp X Y ∧ KeepsFrom W.heap.size X Y) ∨ (e = .returned (.bool false) ∧ Jx Y ∧ KeepsFrom W.heap.size X Y)) →
    J 0 W → CallsIn F n P gf (#[.func (.yield l) #[] #[]] ++ lb) W fun e Y => (∃ v, e = .returned v) ∧ (J N Y ∨ Jx Y)
theorem IterAt.inRound {F : Fence} {n : Nat} {P : Program} {gf : Nat} {lb : Array Value} {encs : Nat → Array Value} {N : Nat} {own : Nat → Prop} {Kp : World → World → Prop} {W : World} (l : Nat) (h : IterAt F n P gf lb encs N own Kp W) : IterAt (F.inRound l) n P gf lb encs N own Kp W := h
/-- the blocks of the iterator's own lie as they lay -/
def Keep (own : Nat → Prop) (X Y : World) : Prop := ∀ b, own b → Y.heap[b]? = X.heap[b]?
theorem Keep.trans {own : Nat → Prop} {X Y Z : World} (h : Keep own X Y) (k : Keep own Y Z) : Keep own X Z := fun b hb => (k b hb).trans (h b hb)
theorem Keep.putObj {own : Nat → Prop} (W : World) (l : Nat) (o : Obj) (h : ¬ own l) : Keep own W (W.putObj l o) := fun b hb => World.putObj_heap_other (fun e => h (e ▸ hb))
theorem Keep.below {own : Nat → Prop} {N : Nat} {X Y : World} (h : Below N X Y) (ho : ∀ b, own b → b < N) : Keep own X Y := fun b hb => h.block b (ho b hb)
/-- how a round's body may be left -/
def rfPost (B : Nat) (Kp : World → World → Prop) (I : World → Prop) (Ix : Code → World → Prop) (W : World) : Exit → Act → World → Prop
  | .normal, _, W' => KeepsFrom B W W' ∧ Kp W W' ∧ I W'
  | .ret, _, W' => KeepsFrom B W W' ∧ Ix .ret W'
  | .exit id, _, W' => KeepsFrom B W W' ∧ Ix (.exit id) W'
  | .goto t, _, W' => KeepsFrom B W W' ∧ Ix (.goto t) W'
  | .panic _, _, _ => False
  | .outgrown, _, _ => False
variable {F : Fence} {n : Nat} {P : Program}
/-- the loop's one call, its record laid -/
theorem rf_core {fn : FuncId} {tmps : Array Value} {dfr : Nat} {ps : Array Tmp} {assign body : Code} {Q : Exit → Act → World → Prop} {a' : Act} {B l : Nat} {W1 : World} {rec : LoopState → Option Code → Loop}
    (hrec : rec = fun st pe => { state := st, pending := pe, fn, tmps, params := ps, assign, body, defers := dfr }) (hfn : F.fn fn)
    {gf : Nat} {lb : Array Value} {encs : Nat → Array Value} {N : Nat} {own : Nat → Prop} {Kp : World → World → Prop} (hps : ∀ k, (encs k).size = ps.size)
    (hBl : B ≤ l) (hrow : ¬ own l) (hL1 : W1.heap[l]? = some (.loop (rec .ready none)))
    (hit : IterAt F (n - 1) P gf lb encs N own Kp W1)
    (hKt : ∀ {A B C : World}, Kp A B → Kp B C → Kp A C) (hKb : ∀ (W : World) (o o' : Obj), W.heap[l]? = some o → o.isCells = false → Kp W (W.putObj l o'))
    (I : Nat → World → Prop) (Ix : Code → World → Prop) (hIg : ∀ k X Y, I k X → Turn W1.heap.size own X Y → I k Y) (hIp : ∀ k X r o, I k X → X.heap[l]? = some (.loop r) → I k (X.putObj l o))
    (hXg : ∀ c X Y, Ix c X → Turn W1.heap.size own X Y → Ix c Y) (hXp : ∀ c X r o, Ix c X → X.heap[l]? = some (.loop r) → Ix c (X.putObj l o)) (h0 : I 0 W1)
    (Ax : Nat → Act → World → Prop) (hAp : ∀ k b X r o, Ax k b X → X.heap[l]? = some (.loop r) → Ax k b (X.putObj l o))
    (hassign : ∀ (k : Nat) (W : World) (K : Act → World → Prop), k < N → I k W → (∀ b W', KeepsFrom B W W' → Kp W W' → I k W' → Ax k b W' → K b W') →
      assign.wpIn (F.inRound l) (n - 1 - 1) P (Exit.then K (fun _ _ _ => False)) { tmps := (ps.zip (encs k)).foldl (fun t (p, v) => t.setIfInBounds p v) tmps, defers := [] } W)
    (hbody : ∀ (k : Nat) (b : Act) (W : World), (∃ r, W.heap[l]? = some (.loop r)) → k < N → I k W → Ax k b W → body.wpIn (F.inRound l) (n - 1 - 1) P (rfPost B Kp (I (k + 1)) Ix W) b W)
    (hdone : ∀ (W : World), I N W → Q .normal a' W) (hstop : ∀ (c : Code) (W : World), Ix c W → c.wpIn F n P Q a' W) :
    CallsIn F (n - 1) P gf (#[.func (.yield l) #[] #[]] ++ lb) W1 (rangePost F n P l Q a') := by
  refine (hit l (fun k W => I k W ∧ W.heap[l]? = some (.loop (rec .ready none))) (fun W => ∃ c, Ix c W ∧ W.heap[l]? = some (.loop (rec .done (some c))))
    (fun k X Y hs hg => ⟨hIg k X Y hs.1 hg, hg.low hs.2 (Array.getElem?_eq_some_iff.1 hL1).1 hrow⟩)
    (fun X Y hs hg => by obtain ⟨c, hc, hl⟩ := hs; exact ⟨c, hXg c X Y hc hg, hg.low hl (Array.getElem?_eq_some_iff.1 hL1).1 hrow⟩) ?_ ⟨h0, hL1⟩).mono ?_
  · rintro k W hkN ⟨hi, hl⟩
    have hy := run_yield (P := P) (args := encs k) hl (by rw [hrec]; exact hps k)
    rw [hrec] at hy
    refine ⟨fn, _, assign, body, hy, roundIn_of_wpIn hfn (hassign k W _ hkN hi ?_)⟩
    clear hy
    intro b Wa hkfa hkpa hia hax
    have hla := hkfa.same _ _ hBl hl rfl
    have hlt : l < Wa.heap.size := (Array.getElem?_eq_some_iff.1 hla).1
    refine ⟨_, run_beginRound hla (by rw [hrec]), ?_⟩
    have hl2 : (Wa.putObj l (.loop { rec .ready none with state := .busy })).heap[l]? = some (.loop { rec .ready none with state := .busy }) := World.putObj_heap_same hlt
    have hw2 : Kp Wa (Wa.putObj l (.loop { rec .ready none with state := .busy })) := hKb _ _ _ hla rfl
    refine wpIn_mono (hbody k b _ ⟨_, hl2⟩ hkN (hIp k _ _ _ hia hla) (hAp k b _ _ _ hax hla)) ?_
    have fin : ∀ (jump : Option Code) (W3 : World), KeepsFrom B (Wa.putObj l (.loop { rec .ready none with state := .busy })) W3 →
        (Instr.endRound l jump).run P W3 = .ok (.bool jump.isNone) (W3.putObj l (.loop (rec (if jump.isNone then .ready else .done) jump))) ∧
        W3.heap[l]? = some (.loop { rec .ready none with state := .busy }) ∧
        (W3.putObj l (.loop (rec (if jump.isNone then .ready else .done) jump))).heap[l]? = some (.loop (rec (if jump.isNone then .ready else .done) jump)) := fun jump W3 hk3 => by
      have hl3 := hk3.same _ _ hBl hl2 rfl
      have := run_endRound (P := P) jump hl3
      rw [hrec] at this ⊢
      exact ⟨this, by rw [hrec] at hl3; exact hl3, World.putObj_heap_same (Array.getElem?_eq_some_iff.1 hl3).1⟩
    have hsl : l < W1.heap.size := (Array.getElem?_eq_some_iff.1 hL1).1
    have kp : ∀ (X : World) (o : Obj), KeepsFrom W1.heap.size X (X.putObj l o) := fun X o => ⟨by simp, fun k o' hk h1 _ => (World.putObj_heap_other (by omega)).trans h1⟩
    have hBW : B ≤ W1.heap.size := by omega
    have up : ∀ {X Y : World}, KeepsFrom B X Y → KeepsFrom W1.heap.size X Y := fun h => ⟨h.size, fun k o hk h1 h2 => h.same k o (by omega) h1 h2⟩
    have kall : ∀ {W3 : World} (o : Obj), KeepsFrom B (Wa.putObj l (.loop { rec .ready none with state := .busy })) W3 → KeepsFrom W1.heap.size W (W3.putObj l o) := fun o h => (up hkfa).trans ((kp _ _).trans ((up h).trans (kp _ _)))
    rintro e a3 W3 hp
    cases e with
    | normal =>
      obtain ⟨hk3, hkp3, hi3⟩ := hp
      obtain ⟨hr, hl3, hl4⟩ := fin none W3 hk3
      exact ⟨_, _, hr, .inl ⟨rfl, ⟨hIp _ _ _ _ hi3 hl3, hl4⟩, hKt hkpa (hKt (hKt hw2 hkp3) (hKb _ _ _ hl3 rfl)), kall _ hk3⟩⟩
    | ret =>
      obtain ⟨hk3, hi3⟩ := hp
      obtain ⟨hr, hl3, hl4⟩ := fin (some .ret) W3 hk3
      exact ⟨_, _, hr, .inr ⟨rfl, ⟨.ret, hXp _ _ _ _ hi3 hl3, hl4⟩, kall _ hk3⟩⟩
    | exit id =>
      obtain ⟨hk3, hi3⟩ := hp
      obtain ⟨hr, hl3, hl4⟩ := fin (some (.exit id)) W3 hk3
      exact ⟨_, _, hr, .inr ⟨rfl, ⟨.exit id, hXp _ _ _ _ hi3 hl3, hl4⟩, kall _ hk3⟩⟩
    | goto t =>
      obtain ⟨hk3, hi3⟩ := hp
      obtain ⟨hr, hl3, hl4⟩ := fin (some (.goto t)) W3 hk3
      exact ⟨_, _, hr, .inr ⟨rfl, ⟨.goto t, hXp _ _ _ _ hi3 hl3, hl4⟩, kall _ hk3⟩⟩
    | panic ch => exact hp.elim
    | outgrown => exact hp.elim
  · rintro e W2 ⟨⟨v, rfl⟩, (⟨hi, hl⟩ | ⟨c, hi, hl⟩)⟩
    · exact ⟨none, _, by have := run_endLoop (P := P) hl (by rw [hrec]; simp); rw [hrec] at this; exact this, hdone _ (hIp _ _ _ _ hi hl)⟩
    · exact ⟨some c, _, by have := run_endLoop (P := P) hl (by rw [hrec]; simp); rw [hrec] at this; exact this, hstop c _ (hXp _ _ _ _ hi hl)⟩
/-- the statement, where no loop over an iterator is round it -/
theorem rf_outer {g : Operand} {ps : Array Tmp} {assign body : Code} {Q : Exit → Act → World → Prop} {a : Act} {w : World}
    (hro : F.round = none) (h1 : 1 ≤ n) {gf : Nat} {lb : Array Value} (hg : a.eval g = .func (.func gf) #[] lb) (hFg : F.fn gf) (eg : ∀ args w, (callFunc gf args).run P w = .ok (.enter gf args) w)
    {encs : Nat → Array Value} {N : Nat} {own : Nat → Prop} {Kp : World → World → Prop} (hps : ∀ k, (encs k).size = ps.size) (hrow : ∀ b, own b → b ≠ w.heap.size ∧ b ≠ w.heap.size + 1)
    (hit : ∀ W, Below w.heap.size w W → W.heap.size = w.heap.size + 2 → IterAt F (n - 1) P gf lb encs N own Kp W)
    (hKt : ∀ {A B C : World}, Kp A B → Kp B C → Kp A C) (hKb : ∀ (W : World) (o o' : Obj), W.heap[w.heap.size + 1]? = some o → o.isCells = false → Kp W (W.putObj (w.heap.size + 1) o'))
    (I : Nat → World → Prop) (Ix : Code → World → Prop) (hI : ∀ k X Y, I k X → Turn w.heap.size own X Y → I k Y) (hIx : ∀ c X Y, Ix c X → Turn w.heap.size own X Y → Ix c Y) (h0 : I 0 w)
    (Ax : Nat → Act → World → Prop) (hAx : ∀ k b X Y, Ax k b X → Turn w.heap.size own X Y → Ax k b Y)
    (hassign : ∀ (l k : Nat) (W : World) (K : Act → World → Prop), k < N → I k W → (∀ b W', KeepsFrom w.heap.size W W' → Kp W W' → I k W' → Ax k b W' → K b W') →
      assign.wpIn (F.inRound l) (n - 1 - 1) P (Exit.then K (fun _ _ _ => False)) { tmps := (ps.zip (encs k)).foldl (fun t (p, v) => t.setIfInBounds p v) a.tmps, defers := [] } W)
    (hbody : ∀ (l k : Nat) (b : Act) (W : World), w.heap.size ≤ l → (∃ r, W.heap[l]? = some (.loop r)) → k < N → I k W → Ax k b W → body.wpIn (F.inRound l) (n - 1 - 1) P (rfPost w.heap.size Kp (I (k + 1)) Ix W) b W)
    (hdone : ∀ (D : Nat) (W : World), w.heap.size ≤ D → I N W → W.heap[D]? = some (.deferred (some [])) → Q .normal { a with defers := { target := .collected D, args := #[] } :: a.defers } W)
    (hstop : ∀ (D : Nat) (c : Code) (W : World), w.heap.size ≤ D → Ix c W → W.heap[D]? = some (.deferred (some [])) → c.wpIn F n P Q { a with defers := { target := .collected D, args := #[] } :: a.defers } W) :
    (Code.rangeFunc g ps assign body).wpIn F n P Q a w := by
  refine wpIn_rangeFunc ?_
  intro fn hfn
  rw [hro]
  obtain ⟨rec, hrec⟩ : ∃ rec : LoopState → Option Code → Loop, rec = fun st pe => { state := st, pending := pe, fn, tmps := a.tmps, params := ps, assign, body, defers := w.heap.size } := ⟨_, rfl⟩
  obtain ⟨W1, hW1⟩ : ∃ W1, (w.alloc (.deferred (some []))).alloc (.loop (rec .ready none)) = W1 := ⟨_, rfl⟩
  have hL1 : W1.heap[w.heap.size + 1]? = some (.loop (rec .ready none)) := by
    rw [← hW1]; have := World.alloc_heap_new (w.alloc (.deferred (some []))) (.loop (rec .ready none)); rwa [World.size_alloc] at this
  have hK1 : W1.heap[w.heap.size]? = some (.deferred (some [])) := by
    rw [← hW1]; exact (Below.heap_alloc _ _ _ (by simp)).trans (World.alloc_heap_new w _)
  have hI1 : I 0 W1 := by rw [← hW1]; exact hI _ _ _ (hI _ _ _ h0 (.alloc _ _)) (.alloc _ _)
  have hb1 : Below w.heap.size w W1 := by
    rw [← hW1]; exact ((Below.refl _ w).alloc (Nat.le_refl _) _).alloc (by simp) _
  have hs1 : W1.heap.size = w.heap.size + 2 := by rw [← hW1]; simp
  have hr0 : ¬ own w.heap.size := fun e => (hrow _ e).1 rfl
  have hr1 : ¬ own (w.heap.size + 1) := fun e => (hrow _ e).2 rfl
  refine ⟨w.heap.size + 1, [{ target := .collected w.heap.size, args := #[] }], W1, { target := .fn (.func gf) lb, args := #[.func (.yield (w.heap.size + 1)) #[] #[]] }, W1, gf,
    #[.func (.yield (w.heap.size + 1)) #[] #[]] ++ lb, W1, ?_, ?_, ?_, ?_, fun _ => h1, ?_⟩
  · rw [← hW1, hrec]; exact run_enterLoop_outer _ _ _ _ _
  · simp only [resolve, hg]
    simp [go_sem]
  · intro f' hf'; simp [Target.leads] at hf'; subst hf'; exact hFg
  · simp [invoke, go_sem, eg]
  · have hne : w.heap.size ≠ w.heap.size + 1 := by omega
    refine rf_core hrec hfn (B := w.heap.size) hps (by omega) hr1 hL1 (hit W1 hb1 hs1) hKt hKb
      (fun k W => I k W ∧ W.heap[w.heap.size]? = some (.deferred (some []))) (fun c W => Ix c W ∧ W.heap[w.heap.size]? = some (.deferred (some [])))
      (fun k X Y hs hg => ⟨hI _ _ _ hs.1 (hg.mono (by omega) fun _ h => h), hg.low hs.2 (by omega) hr0⟩)
      (fun k X r o hs hl => ⟨hI _ _ _ hs.1 (.putObj _ (by omega) hl rfl), (World.putObj_heap_other hne).trans hs.2⟩)
      (fun c X Y hs hg => ⟨hIx _ _ _ hs.1 (hg.mono (by omega) fun _ h => h), hg.low hs.2 (by omega) hr0⟩)
      (fun c X r o hs hl => ⟨hIx _ _ _ hs.1 (.putObj _ (by omega) hl rfl), (World.putObj_heap_other hne).trans hs.2⟩)
      ⟨hI1, hK1⟩ Ax (fun k b X r o hs hl => hAx _ _ _ _ hs (.putObj _ (by omega) hl rfl)) ?_ ?_ ?_ ?_
    · intro k W K hk hi hK
      exact hassign _ k W K hk hi.1 (fun b W' h1 h2 h3 h4 => hK b W' h1 h2 ⟨h3, h1.same _ _ (Nat.le_refl _) hi.2 rfl⟩ h4)
    · intro k b W hr hk hi ha
      refine wpIn_mono (hbody _ k b W (by omega) hr hk hi.1 ha) ?_
      intro e a3 W3 hp
      cases e with
      | normal => exact ⟨hp.1, hp.2.1, hp.2.2, hp.1.same _ _ (Nat.le_refl _) hi.2 rfl⟩
      | ret => exact ⟨hp.1, hp.2, hp.1.same _ _ (Nat.le_refl _) hi.2 rfl⟩
      | exit id => exact ⟨hp.1, hp.2, hp.1.same _ _ (Nat.le_refl _) hi.2 rfl⟩
      | goto t => exact ⟨hp.1, hp.2, hp.1.same _ _ (Nat.le_refl _) hi.2 rfl⟩
      | panic ch => exact hp
      | outgrown => exact hp
    · exact fun W hi => hdone _ W (Nat.le_refl _) hi.1 hi.2
    · exact fun c W hi => hstop _ c W (Nat.le_refl _) hi.1 hi.2
/-- the statement within a round of another such loop -/
theorem rf_inner {g : Operand} {ps : Array Tmp} {assign body : Code} {Q : Exit → Act → World → Prop} {a : Act} {w : World} {l₀ : Nat} {r₀ : Loop}
    (hro : F.round = some l₀) (hr₀ : w.heap[l₀]? = some (.loop r₀)) (h1 : 1 ≤ n) {gf : Nat} {lb : Array Value} (hg : a.eval g = .func (.func gf) #[] lb) (hFg : F.fn gf) (eg : ∀ args w, (callFunc gf args).run P w = .ok (.enter gf args) w)
    {encs : Nat → Array Value} {N : Nat} {own : Nat → Prop} {Kp : World → World → Prop} (hps : ∀ k, (encs k).size = ps.size) (hrow : ∀ b, own b → b ≠ w.heap.size)
    (hit : ∀ W, Below w.heap.size w W → W.heap.size = w.heap.size + 1 → IterAt F (n - 1) P gf lb encs N own Kp W)
    (hKt : ∀ {A B C : World}, Kp A B → Kp B C → Kp A C) (hKb : ∀ (W : World) (o o' : Obj), W.heap[w.heap.size]? = some o → o.isCells = false → Kp W (W.putObj w.heap.size o'))
    (I : Nat → World → Prop) (Ix : Code → World → Prop) (hI : ∀ k X Y, I k X → Turn w.heap.size own X Y → I k Y) (hIx : ∀ c X Y, Ix c X → Turn w.heap.size own X Y → Ix c Y) (h0 : I 0 w)
    (Ax : Nat → Act → World → Prop) (hAx : ∀ k b X Y, Ax k b X → Turn w.heap.size own X Y → Ax k b Y)
    (hassign : ∀ (l k : Nat) (W : World) (K : Act → World → Prop), k < N → I k W → (∀ b W', KeepsFrom w.heap.size W W' → Kp W W' → I k W' → Ax k b W' → K b W') →
      assign.wpIn (F.inRound l) (n - 1 - 1) P (Exit.then K (fun _ _ _ => False)) { tmps := (ps.zip (encs k)).foldl (fun t (p, v) => t.setIfInBounds p v) a.tmps, defers := [] } W)
    (hbody : ∀ (l k : Nat) (b : Act) (W : World), w.heap.size ≤ l → (∃ r, W.heap[l]? = some (.loop r)) → k < N → I k W → Ax k b W → body.wpIn (F.inRound l) (n - 1 - 1) P (rfPost w.heap.size Kp (I (k + 1)) Ix W) b W)
    (hdone : ∀ (W : World), I N W → Q .normal a W)
    (hstop : ∀ (c : Code) (W : World), Ix c W → c.wpIn F n P Q a W) :
    (Code.rangeFunc g ps assign body).wpIn F n P Q a w := by
  refine wpIn_rangeFunc ?_
  intro fn hfn
  rw [hro]
  obtain ⟨rec, hrec⟩ : ∃ rec : LoopState → Option Code → Loop, rec = fun st pe => { state := st, pending := pe, fn, tmps := a.tmps, params := ps, assign, body, defers := r₀.defers } := ⟨_, rfl⟩
  obtain ⟨W1, hW1⟩ : ∃ W1, w.alloc (.loop (rec .ready none)) = W1 := ⟨_, rfl⟩
  have hL1 : W1.heap[w.heap.size]? = some (.loop (rec .ready none)) := by
    rw [← hW1]; exact World.alloc_heap_new _ _
  have hI1 : I 0 W1 := by rw [← hW1]; exact hI _ _ _ h0 (.alloc _ _)
  have hb1 : Below w.heap.size w W1 := by
    rw [← hW1]; exact (Below.refl _ w).alloc (Nat.le_refl _) _
  have hs1 : W1.heap.size = w.heap.size + 1 := by rw [← hW1]; simp
  have hr1 : ¬ own w.heap.size := fun e => hrow _ e rfl
  refine ⟨w.heap.size, [], W1, { target := .fn (.func gf) lb, args := #[.func (.yield w.heap.size) #[] #[]] }, W1, gf,
    #[.func (.yield w.heap.size) #[] #[]] ++ lb, W1, ?_, ?_, ?_, ?_, fun _ => h1, ?_⟩
  · rw [← hW1, hrec]; exact run_enterLoop_inner hr₀ _ _ _ _ _
  · simp only [resolve, hg]
    simp [go_sem]
  · intro f' hf'; simp [Target.leads] at hf'; subst hf'; exact hFg
  · simp [invoke, go_sem, eg]
  · exact rf_core hrec hfn (B := w.heap.size) hps (Nat.le_refl _) hr1 hL1 (hit W1 hb1 hs1) hKt hKb I Ix
      (fun k X Y hs hg => hI _ _ _ hs (hg.mono (by omega) fun _ h => h)) (fun k X r o hs hl => hI _ _ _ hs (.putObj _ (Nat.le_refl _) hl rfl))
      (fun c X Y hs hg => hIx _ _ _ hs (hg.mono (by omega) fun _ h => h)) (fun c X r o hs hl => hIx _ _ _ hs (.putObj _ (Nat.le_refl _) hl rfl))
      hI1 Ax (fun k b X r o hs hl => hAx _ _ _ _ hs (.putObj _ (Nat.le_refl _) hl rfl)) (fun k W K hk hi hK => hassign _ k W K hk hi hK) (fun k b W hr hk hi ha => hbody _ k b W (Nat.le_refl _) hr hk hi ha) (fun W hi => hdone W hi) (fun c W hi => hstop c W hi)
/-- the statement, its body left by a break alone -/
theorem rf_break {g : Operand} {ps : Array Tmp} {assign body : Code} {Q : Exit → Act → World → Prop} {id : Nat} {a : Act} {w : World}
    (hro : F.round = none) (h1 : 1 ≤ n) {gf : Nat} {lb : Array Value} (hg : a.eval g = .func (.func gf) #[] lb) (hFg : F.fn gf) (eg : ∀ args w, (callFunc gf args).run P w = .ok (.enter gf args) w)
    {encs : Nat → Array Value} {N : Nat} {own : Nat → Prop} {Kp : World → World → Prop} (hps : ∀ k, (encs k).size = ps.size) (hrow : ∀ b, own b → b ≠ w.heap.size ∧ b ≠ w.heap.size + 1)
    (hit : ∀ W, Below w.heap.size w W → W.heap.size = w.heap.size + 2 → IterAt F (n - 1) P gf lb encs N own Kp W)
    (hKt : ∀ {A B C : World}, Kp A B → Kp B C → Kp A C) (hKb : ∀ (W : World) (o o' : Obj), W.heap[w.heap.size + 1]? = some o → o.isCells = false → Kp W (W.putObj (w.heap.size + 1) o'))
    (I : Nat → World → Prop) (IE : World → Prop) (hI : ∀ k X Y, I k X → Turn w.heap.size own X Y → I k Y) (hIE : ∀ X Y, IE X → Turn w.heap.size own X Y → IE Y) (h0 : I 0 w)
    (Ax : Nat → Act → World → Prop) (hAx : ∀ k b X Y, Ax k b X → Turn w.heap.size own X Y → Ax k b Y)
    (hassign : ∀ (l k : Nat) (W : World) (K : Act → World → Prop), k < N → I k W → (∀ b W', KeepsFrom w.heap.size W W' → Kp W W' → I k W' → Ax k b W' → K b W') →
      assign.wpIn (F.inRound l) (n - 1 - 1) P (Exit.then K (fun _ _ _ => False)) { tmps := (ps.zip (encs k)).foldl (fun t (p, v) => t.setIfInBounds p v) a.tmps, defers := [] } W)
    (hbody : ∀ (l k : Nat) (b : Act) (W : World), w.heap.size ≤ l → (∃ r, W.heap[l]? = some (.loop r)) → k < N → I k W → Ax k b W → body.wpIn (F.inRound l) (n - 1 - 1) P (rfPost w.heap.size Kp (I (k + 1)) (fun c X => c = .exit id ∧ IE X) W) b W)
    (hall : ∀ W, I N W → IE W) (hend : ∀ (D : Nat) (W : World), w.heap.size ≤ D → IE W → W.heap[D]? = some (.deferred (some [])) → Q .normal { a with defers := { target := .collected D, args := #[] } :: a.defers } W) :
    (Code.rangeFunc g ps assign body).wpIn F n P (Exit.inBlock id Q) a w :=
  rf_outer hro h1 hg hFg eg hps hrow hit hKt hKb I (fun c X => c = .exit id ∧ IE X) hI (fun c X Y hs ht => ⟨hs.1, hIE X Y hs.2 ht⟩) h0 Ax hAx hassign hbody
    (fun D W h1 hi h2 => hend D W h1 (hall W hi) h2) (fun D c W h1 hi h2 => by obtain ⟨rfl, hi⟩ := hi; exact wpIn_exit (by simp only [Exit.inBlock, ↓reduceIte]; exact hend D W h1 hi h2))
/-- likewise, within a round of another such loop -/
theorem rf_break_inner {g : Operand} {ps : Array Tmp} {assign body : Code} {Q : Exit → Act → World → Prop} {id : Nat} {a : Act} {w : World} {l₀ : Nat} {r₀ : Loop}
    (hro : F.round = some l₀) (hr₀ : w.heap[l₀]? = some (.loop r₀)) (h1 : 1 ≤ n) {gf : Nat} {lb : Array Value} (hg : a.eval g = .func (.func gf) #[] lb) (hFg : F.fn gf) (eg : ∀ args w, (callFunc gf args).run P w = .ok (.enter gf args) w)
    {encs : Nat → Array Value} {N : Nat} {own : Nat → Prop} {Kp : World → World → Prop} (hps : ∀ k, (encs k).size = ps.size) (hrow : ∀ b, own b → b ≠ w.heap.size)
    (hit : ∀ W, Below w.heap.size w W → W.heap.size = w.heap.size + 1 → IterAt F (n - 1) P gf lb encs N own Kp W)
    (hKt : ∀ {A B C : World}, Kp A B → Kp B C → Kp A C) (hKb : ∀ (W : World) (o o' : Obj), W.heap[w.heap.size]? = some o → o.isCells = false → Kp W (W.putObj w.heap.size o'))
    (I : Nat → World → Prop) (IE : World → Prop) (hI : ∀ k X Y, I k X → Turn w.heap.size own X Y → I k Y) (hIE : ∀ X Y, IE X → Turn w.heap.size own X Y → IE Y) (h0 : I 0 w)
    (Ax : Nat → Act → World → Prop) (hAx : ∀ k b X Y, Ax k b X → Turn w.heap.size own X Y → Ax k b Y)
    (hassign : ∀ (l k : Nat) (W : World) (K : Act → World → Prop), k < N → I k W → (∀ b W', KeepsFrom w.heap.size W W' → Kp W W' → I k W' → Ax k b W' → K b W') →
      assign.wpIn (F.inRound l) (n - 1 - 1) P (Exit.then K (fun _ _ _ => False)) { tmps := (ps.zip (encs k)).foldl (fun t (p, v) => t.setIfInBounds p v) a.tmps, defers := [] } W)
    (hbody : ∀ (l k : Nat) (b : Act) (W : World), w.heap.size ≤ l → (∃ r, W.heap[l]? = some (.loop r)) → k < N → I k W → Ax k b W → body.wpIn (F.inRound l) (n - 1 - 1) P (rfPost w.heap.size Kp (I (k + 1)) (fun c X => c = .exit id ∧ IE X) W) b W)
    (hall : ∀ W, I N W → IE W) (hend : ∀ (W : World), IE W → Q .normal a W) :
    (Code.rangeFunc g ps assign body).wpIn F n P (Exit.inBlock id Q) a w :=
  rf_inner hro hr₀ h1 hg hFg eg hps hrow hit hKt hKb I (fun c X => c = .exit id ∧ IE X) hI (fun c X Y hs ht => ⟨hs.1, hIE X Y hs.2 ht⟩) h0 Ax hAx hassign hbody
    (fun W hi => hend W (hall W hi)) (fun c W hi => by obtain ⟨rfl, hi⟩ := hi; exact wpIn_exit (by simp only [Exit.inBlock, ↓reduceIte]; exact hend W hi))
/-! where no depth is asked, the figures are all one -/
theorem roundIn_any {m : Nat} (m' : Nat) {l : Nat} {f : FuncId} {tmps : Array Value} {assign body : Code} {w : World} {R : Ending → World → Prop}
    (h : RoundIn Fence.wide m P l f tmps assign body w R) : RoundIn Fence.wide m' P l f tmps assign body w R := ⟨h.1, fun c cs _ => h.2 c cs (fun d h => by cases h)⟩
theorem yieldAt_any {m : Nat} (m' : Nat) {l : Nat} {args : Array Value} {W : World} {R : Ending → World → Prop} (h : YieldAt Fence.wide m P l args W R) : YieldAt Fence.wide m' P l args W R := by
  obtain ⟨fn, tmps, assign, body, hy, hR⟩ := h
  exact ⟨fn, tmps, assign, body, hy, roundIn_any m' hR⟩
theorem IterAt.any {m : Nat} (m' : Nat) {gf : Nat} {lb : Array Value} {encs : Nat → Array Value} {N : Nat} {own : Nat → Prop} {Kp : World → World → Prop} {W : World} (h : IterAt Fence.wide m P gf lb encs N own Kp W) : IterAt Fence.wide m' P gf lb encs N own Kp W :=
  fun l J Jx hJ hJx hY h0 => callsIn_wide.2 (callsIn_wide.1 (h l J Jx hJ hJx (fun k X hk hj => yieldAt_any _ (hY k X hk hj)) h0))
theorem wpW_scope {c : Code} {Q : Exit → Act → World → Prop} {a : Act} {w : World} {m : Nat} (h : c.wpIn Fence.wide m P (Exit.noGoto Q) a w) : (Code.scope c).wpIn Fence.wide m P Q a w := wpIn_wide.2 (wp_scope_straight (wpIn_wide.1 h))
end Go.Proofs.YtaekcmoogobbjaaDoor
