/- A quoted text, as a plain function: the reference's way and the program's. No program in sight. -/
import Derived.Test.YtlefgkiembokeaaDoorTp
namespace Go.Proofs.YtlefgkiembokeaaDoor
set_option linter.unusedVariables false
set_option linter.unusedSimpArgs false
namespace Tp
/-- behind the first quote: the reference -/
def qr : List UInt8 → List UInt8 → Option (List UInt8)
  | _, [] => none
  | acc, [c] => if c = 34 then some acc else none
  | acc, c :: d :: l => if c = 34 then none else if c = 92 then (if valB d.toNat then qr (acc ++ [d]) l else none) else if valB c.toNat then qr (acc ++ [c]) (d :: l) else none
def quoted : List UInt8 → Option (List UInt8)
  | [] => none
  | c :: l => if c = 34 then qr [] l else none
/-- behind the first quote: the program; whether a backslash stands ahead -/
def pq : Bool → List UInt8 → List UInt8 → Option (List UInt8)
  | _, _, [] => none
  | b, acc, c :: l => if b then pq false (acc ++ [c]) l else if c = 34 then (if l.isEmpty then some acc else none) else if c = 92 then pq true acc l else pq false (acc ++ [c]) l
theorem pq_nil (b : Bool) (acc : List UInt8) : pq b acc [] = none := by unfold pq; rfl
theorem pq_b (acc : List UInt8) (c : UInt8) (l : List UInt8) : pq true acc (c :: l) = pq false (acc ++ [c]) l := by rw [pq, if_pos rfl]
theorem pq_quote (acc l : List UInt8) : pq false acc (34 :: l) = if l.isEmpty then some acc else none := by rw [pq, if_neg (by decide), if_pos rfl]
theorem pq_back (acc l : List UInt8) : pq false acc (92 :: l) = pq true acc l := by rw [pq, if_neg (by decide), if_neg (by decide), if_pos rfl]
theorem pq_more (acc : List UInt8) (c : UInt8) (l : List UInt8) (h : c ≠ 34) (h2 : c ≠ 92) : pq false acc (c :: l) = pq false (acc ++ [c]) l := by rw [pq, if_neg (by decide), if_neg h, if_neg h2]
theorem quoted_cons (c : UInt8) (l : List UInt8) : quoted (c :: l) = if c = 34 then qr [] l else none := rfl
theorem allT_cons (f : Int → Bool) (c : UInt8) (l : List UInt8) : allT f (c :: l) = (f c.toNat && allT f l) := rfl
theorem valB_quote : valB ((34 : UInt8).toNat : Int) = true := by decide
theorem valB_back : valB ((92 : UInt8).toNat : Int) = true := by decide
theorem qr_is : ∀ (n : Nat) (l acc : List UInt8), l.length ≤ n → qr acc l = if allT valB l then pq false acc l else none
  | _, [], acc, _ => by unfold qr pq; split <;> rfl
  | n, [c], acc, _ => by
    unfold qr
    by_cases h : c = 34
    · subst h; rfl
    · rw [if_neg h]
      by_cases h2 : c = 92
      · subst h2; rfl
      · rw [pq_more _ _ _ h h2, pq_nil]
        split <;> rfl
  | 0, c :: d :: l, acc, hn => by simp at hn
  | n + 1, c :: d :: l, acc, hn => by
    unfold qr
    by_cases h : c = 34
    · subst h
      rw [if_pos rfl, pq_quote]
      simp
    · rw [if_neg h]
      by_cases h2 : c = 92
      · subst h2
        rw [if_pos rfl, qr_is n l (acc ++ [d]) (by simp only [List.length_cons] at hn; omega), allT_cons, allT_cons, valB_back, Bool.true_and]
        rw [pq_back, pq_b]
        by_cases hv : valB (d.toNat : Int) = true
        · rw [if_pos hv, hv, Bool.true_and]
        · have hv' : valB (d.toNat : Int) = false := by simpa using hv
          rw [if_neg hv, hv', Bool.false_and]; rfl
      · rw [if_neg h2, qr_is n (d :: l) (acc ++ [c]) (by simp only [List.length_cons] at hn ⊢; omega), allT_cons valB c]
        rw [pq_more _ _ _ h h2]
        by_cases hv : valB (c.toNat : Int) = true
        · rw [if_pos hv, hv, Bool.true_and]
        · have hv' : valB (c.toNat : Int) = false := by simpa using hv
          rw [if_neg hv, hv', Bool.false_and]; rfl
theorem quoted_none {l : List UInt8} (h : ∀ c t, l = c :: t → c ≠ 34) : quoted l = none := by
  cases l with
  | nil => rfl
  | cons c t => rw [quoted_cons, if_neg (h c t rfl)]
theorem quoted_some {t : List UInt8} (h : allT valB (34 :: t) = true) : quoted (34 :: t) = pq false [] t := by
  rw [allT_cons, valB_quote, Bool.true_and] at h
  rw [quoted_cons, if_pos rfl, qr_is t.length t [] (Nat.le_refl _), if_pos h]
theorem quoted_bad {l : List UInt8} (h : allT valB l = false) : quoted l = none := by
  cases l with
  | nil => rfl
  | cons c t =>
    rw [quoted_cons]
    by_cases hc : c = 34
    · subst hc
      rw [allT_cons, valB_quote, Bool.true_and] at h
      rw [if_pos rfl, qr_is t.length t [] (Nat.le_refl _), h]
      rfl
    · rw [if_neg hc]
def quotedS (l : List UInt8) : List UInt8 := (quoted l).getD []
def quotedE (l : List UInt8) : Int := if (quoted l).isSome then 0 else 110
end Tp
end Go.Proofs.YtlefgkiembokeaaDoor
