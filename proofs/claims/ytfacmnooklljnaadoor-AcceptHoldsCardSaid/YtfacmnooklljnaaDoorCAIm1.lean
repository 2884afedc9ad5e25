/- Texts of this claim, one behind the other: Yz, Za, Zb, LAI. -/
import Derived.Test.YtfacmnooklljnaaDoorYxm3
import Derived.Test.YtfacmnooklljnaaDoorYxm1
/- accept, plainly: a list with a range behind it. No conditions but those that each law states. -/
namespace Go.Proofs.YtfacmnooklljnaaDoor
set_option linter.unusedVariables false
set_option linter.unusedSimpArgs false
namespace Ap
open Tp
/-- where a text leaves off: within a quoted text; behind a backslash -/
def fq : Bool → Bool → List UInt8 → Bool × Bool
  | q, b, [] => (q, b)
  | q, b, c :: l => fq (stQ q b c.toNat) (stB q b c.toNat) l
def Cl (l : List UInt8) : Prop := fq false false l = (false, false)
theorem fq_app : ∀ (l m : List UInt8) (q b : Bool), fq q b (l ++ m) = fq (fq q b l).1 (fq q b l).2 m
  | [], m, q, b => rfl
  | c :: l, m, q, b => by
    show fq _ _ (l ++ m) = fq (fq _ _ l).1 (fq _ _ l).2 m
    exact fq_app l m _ _
theorem Cl.app {l m : List UInt8} (h : Cl l) : Cl (l ++ m) ↔ Cl m := by
  unfold Cl at *
  rw [fq_app, h]
theorem st_plain {c : UInt8} (h : c ≠ 34) : stQ false false c.toNat = false ∧ stB false false c.toNat = false := by
  have h2 : ((c.toNat : Int) == 34) = false := by
    rw [beq_eq_false_iff_ne]
    intro e
    apply h
    apply UInt8.toNat.inj
    show c.toNat = 34
    omega
  unfold stQ stB
  simp [h2]
theorem Cl.plain : ∀ {l : List UInt8}, (∀ c ∈ l, c ≠ 34) → Cl l
  | [], _ => rfl
  | c :: l, h => by
    have h1 := st_plain (h c (List.mem_cons_self ..))
    show fq _ _ l = _
    rw [h1.1, h1.2]
    exact Cl.plain (fun d hd => h d (List.mem_cons_of_mem _ hd))
theorem blank_34 {c : UInt8} (h : blankB c = true) : c ≠ 34 := by
  rintro rfl
  revert h
  decide
theorem mem_tw {p : UInt8 → Bool} : ∀ {l : List UInt8} {c : UInt8}, c ∈ l.takeWhile p → p c = true
  | [], c, h => by simp at h
  | x :: l, c, h => by
    rw [List.takeWhile_cons] at h
    split at h
    · rename_i hx
      rcases List.mem_cons.1 h with rfl | h1
      · exact hx
      · exact mem_tw h1
    · simp at h
theorem trim_parts (l : List UInt8) : ∃ x y : List UInt8, l = x ++ trim l ++ y ∧ (∀ c ∈ x, blankB c = true) ∧ (∀ c ∈ y, blankB c = true) := by
  refine ⟨l.takeWhile blankB, ((trimL l).reverse.takeWhile blankB).reverse, ?_, fun c hc => ?_, fun c hc => ?_⟩
  · have h1 : (trimL l).reverse.takeWhile blankB ++ (trimL l).reverse.dropWhile blankB = (trimL l).reverse := List.takeWhile_append_dropWhile
    have h2 : trimL l = trim l ++ ((trimL l).reverse.takeWhile blankB).reverse := by
      have := congrArg List.reverse h1
      rw [List.reverse_append, List.reverse_reverse] at this
      exact this.symm
    rw [List.append_assoc, ← h2]
    exact (List.takeWhile_append_dropWhile (p := blankB) (l := l)).symm
  · exact mem_tw hc
  · exact mem_tw (List.mem_reverse.1 hc)
theorem Cl.of_trim {l : List UInt8} (h : Cl (trim l)) : Cl l := by
  obtain ⟨x, y, e, hx, hy⟩ := trim_parts l
  rw [e, List.append_assoc]
  rw [Cl.app (Cl.plain fun c hc => blank_34 (hx c hc)), Cl.app h]
  exact Cl.plain fun c hc => blank_34 (hy c hc)
theorem no_trim {l : List UInt8} (h : ∀ c ∈ trim l, c ≠ 34) : ∀ c ∈ l, c ≠ 34 := by
  obtain ⟨x, y, e, hx, hy⟩ := trim_parts l
  intro c hc
  rw [e] at hc
  rcases List.mem_append.1 hc with h1 | h1
  · rcases List.mem_append.1 h1 with h2 | h2
    · exact blank_34 (hx c h2)
    · exact h c h2
  · exact blank_34 (hy c h1)
theorem tok_no {l : List UInt8} (h : isTok l = true) : ∀ c ∈ l, c ≠ 34 := by
  unfold isTok allT at h
  rw [Bool.and_eq_true, List.all_eq_true] at h
  intro c hc e
  subst e
  have := h.2 _ hc
  revert this
  decide
theorem low_34 : ∀ c : Fin 256, UInt8.ofNat c.val = 34 → UInt8.ofNat (lowB (UInt8.ofNat c.val).toNat).toNat = 34 := by decide +kernel
theorem low_no {l : List UInt8} (h : ∀ c ∈ lower l, c ≠ 34) : ∀ c ∈ l, c ≠ 34 := by
  intro c hc e
  refine h _ (List.mem_map.2 ⟨c, hc, rfl⟩) ?_
  have := low_34 ⟨c.toNat, c.toNat_lt⟩
  simp only at this
  have h2 : UInt8.ofNat c.toNat = c := by simp
  rw [h2] at this
  exact this e
theorem cutB_is (c : UInt8) : ∀ l : List UInt8, l = (cutB c l).1 ++ (if (cutB c l).2.2 = true then c :: (cutB c l).2.1 else [])
  | [] => rfl
  | x :: l => by
    rw [cutB_cons]
    by_cases hx : x = c
    · rw [if_pos hx, hx]; rfl
    · rw [if_neg hx]
      show x :: l = x :: ((cutB c l).1 ++ _)
      rw [← cutB_is c l]
theorem Cl.ofR : ∀ (n : Nat) (l acc v : List UInt8), l.length ≤ n → Tp.qr acc l = some v → fq true false l = (false, false)
  | _, [], acc, v, _, h => by unfold Tp.qr at h; cases h
  | n, [c], acc, v, _, h => by
    unfold Tp.qr at h
    split at h
    · rename_i hc; subst hc; rfl
    · cases h
  | n, c :: d :: l, acc, v, hn, h => by
    unfold Tp.qr at h
    split at h
    · cases h
    · rename_i h34
      split at h
      · rename_i h92
        subst h92
        split at h
        · exact Cl.ofR (n - 2) l _ v (by simp at hn; omega) h
        · cases h
      · rename_i h92
        split at h
        · have e1 : ((c.toNat : Int) == 34) = false := by
            rw [beq_eq_false_iff_ne]; intro e; apply h34; apply UInt8.toNat.inj; show c.toNat = 34; omega
          have e2 : ((c.toNat : Int) == 92) = false := by
            rw [beq_eq_false_iff_ne]; intro e; apply h92; apply UInt8.toNat.inj; show c.toNat = 92; omega
          show fq (stQ true false c.toNat) (stB true false c.toNat) (d :: l) = _
          rw [show stQ true false c.toNat = true by unfold stQ; simp [e1, e2], show stB true false c.toNat = false by unfold stB; simp [e2]]
          exact Cl.ofR (n - 1) (d :: l) _ v (by simp at hn ⊢; omega) h
        · cases h
theorem Cl.ofQ {l v : List UInt8} (h : Tp.quoted l = some v) : Cl l := by
  cases l with
  | nil => cases h
  | cons c l =>
    rw [Tp.quoted_cons] at h
    split at h
    · rename_i hc
      subst hc
      exact Cl.ofR l.length l _ v (Nat.le_refl _) h
    · cases h
theorem Cl.ofP {s : List UInt8} {v : List UInt8 × List UInt8} (h : Ap.par s = some v) : Cl s := by
  unfold Ap.par at h
  split at h
  · rename_i hn
    have h1 : ∀ c ∈ (cutB 61 s).1, c ≠ 34 := no_trim (low_no (tok_no hn))
    rw [cutB_is 61 s, Cl.app (Cl.plain h1)]
    by_cases hf : (cutB 61 s).2.2 = true
    · rw [if_pos hf]
      have key : Cl (cutB 61 s).2.1 := by
        by_cases ht : isTok (trim (cutB 61 s).2.1) = true
        · exact Cl.plain (no_trim (tok_no ht))
        · rw [if_pos ⟨hf, by simpa using ht⟩] at h
          cases hq : Tp.quoted (trim (cutB 61 s).2.1) with
          | none => rw [hq] at h; cases h
          | some v => exact Cl.of_trim (Cl.ofQ hq)
      show Cl ([61] ++ _)
      rw [Cl.app (show Cl [61] by unfold Cl; decide)]
      exact key
    · rw [if_neg hf]; rfl
  · cases h
/-- whether a cut is found in a text, or behind it -/
theorem cutAt_app (b : Int) : ∀ (l m : List UInt8) (q z : Bool), cutAt b q z (l ++ m) = match cutAt b q z l with
    | some k => some k
    | none => (cutAt b (fq q z l).1 (fq q z l).2 m).map (· + l.length)
  | [], m, q, z => by simp [cutAt, fq]
  | c :: l, m, q, z => by
    rw [List.cons_append, cutAt, cutAt]
    split
    · rfl
    · rw [cutAt_app b l m]
      cases cutAt b (stQ q z c.toNat) (stB q z c.toNat) l with
      | some k => rfl
      | none =>
        show ((cutAt b (fq (stQ q z c.toNat) (stB q z c.toNat) l).1 (fq (stQ q z c.toNat) (stB q z c.toNat) l).2 m).map (· + l.length)).map (· + 1) = (cutAt b (fq q z (c :: l)).1 (fq q z (c :: l)).2 m).map (· + (c :: l).length)
        rw [Option.map_map]
        rfl
/-- ahead of a cut a text is shut -/
theorem cut_shut (b : Int) : ∀ (l : List UInt8) (q z : Bool) (k : Nat), cutAt b q z l = some k → (z = true → q = true) → fq q z (l.take k) = (false, false) ∧ k < l.length ∧ ((l.getD k 0).toNat : Int) = b
  | [], q, z, k, h, _ => by simp [cutAt] at h
  | c :: l, q, z, k, h, hz => by
    rw [cutAt] at h
    split at h
    · rename_i hc
      cases h
      rw [Bool.and_eq_true] at hc
      have hq : q = false := by simpa using hc.1
      have hzz : z = false := by cases z with
        | false => rfl
        | true => rw [hz rfl] at hq; cases hq
      subst hq; subst hzz
      exact ⟨rfl, by simp, by simpa using hc.2⟩
    · cases hk : cutAt b (stQ q z c.toNat) (stB q z c.toNat) l with
      | none => rw [hk] at h; cases h
      | some j =>
        rw [hk] at h
        cases h
        have := cut_shut b l _ _ j hk (by
          unfold stQ stB
          intro h
          cases z with
          | true => simp at h
          | false => simp at h ⊢; simp [h])
        exact ⟨this.1, by have := this.2.1; simp; omega, by simpa using this.2.2⟩
theorem Cl.sep {b : Int} {l : List UInt8} {k : Nat} (h : cutAt b false false l = some k) (hb : b ≠ 34) : Cl l ↔ Cl (l.drop (k + 1)) := by
  obtain ⟨h1, h2, h3⟩ := cut_shut b l false false k h (fun h => by cases h)
  have e : l = l.take k ++ ([l.getD k 0] ++ l.drop (k + 1)) := by
    rw [List.getD_eq_getElem?_getD, List.getElem?_eq_getElem h2]
    show l = l.take k ++ (l[k] :: l.drop (k + 1))
    rw [← List.drop_eq_getElem_cons h2, List.take_append_drop]
  have hne : l.getD k 0 ≠ 34 := by
    intro e2
    rw [e2] at h3
    exact hb h3.symm
  have c1 : Cl (l.take k) := h1
  have c2 : Cl [l.getD k 0] := Cl.plain fun c hc => by rw [List.mem_singleton] at hc; rw [hc]; exact hne
  rw [show Cl l ↔ Cl (l.take k ++ ([l.getD k 0] ++ l.drop (k + 1))) by rw [← e], Cl.app c1, Cl.app c2]
/-- a text is shut if the last of its parts is -/
theorem Cl.of_all {b : Int} (hb : b ≠ 34) : ∀ (n : Nat) (l : List UInt8), l.length ≤ n → (∀ p ∈ all l b, Cl p) → Cl l
  | n, l, hn, h => by
    rw [all_eq] at h
    cases hk : cutAt b false false l with
    | none =>
      have e : (cut l b).1 = trim l := by unfold cut; rw [hk]
      exact Cl.of_trim (e ▸ h _ (List.mem_cons_self ..))
    | some k =>
      have e : cut l b = (trim (l.take k), trim (l.drop (k + 1)), true) := by unfold cut; rw [hk]
      have hlt := cut_lt (l := l) (b := b) (by rw [e])
      rw [Cl.sep hk hb]
      refine Cl.of_trim ?_
      rw [e] at h hlt
      simp only [if_true] at h
      cases n with
      | zero => simp only at hlt; omega
      | succ n => exact Cl.of_all hb n _ (by simp only at hlt; omega) (fun p hp => h p (List.mem_cons_of_mem _ hp))
theorem takes_cl : ∀ {L : List (List UInt8)} {st st' : Nat × Int × Bool}, takes L st = some st' → ∀ p ∈ L, Cl p
  | [], st, st', h, p, hp => by cases hp
  | s :: L, st, st', h, p, hp => by
    unfold takes at h
    cases ht : take1 st s with
    | none => rw [ht] at h; cases h
    | some st2 =>
      rw [ht] at h
      rcases List.mem_cons.1 hp with rfl | h1
      · unfold take1 at ht
        split at ht
        · rename_i he; rw [he]; rfl
        · cases hpp : Ap.par p with
          | none => rw [hpp] at ht; cases ht
          | some nv => exact Cl.ofP hpp
      · exact takes_cl h p h1
theorem one_cl {s : List UInt8} {r : Ra} (h : one s = some r) : Cl s := by
  unfold one at h
  split at h
  · rename_i hc
    obtain ⟨h1, h2, h3, _⟩ := hc
    cases ht : takes ((all s 59).drop 1) (0, 1000, false) with
    | none => rw [ht] at h; cases h
    | some st =>
      have h4 := takes_cl ht
      refine Cl.of_all (b := 59) (by decide) s.length s (Nat.le_refl _) fun p hp => ?_
      have hpos := all_len_pos s 59
      cases ha : all s 59 with
      | nil => rw [ha] at hpos; simp at hpos
      | cons a L =>
        rw [ha] at hp h4 h1 h2 h3
        rcases List.mem_cons.1 hp with rfl | h5
        · simp only [List.getD_cons_zero] at h1 h2 h3
          refine Cl.plain (low_no ?_)
          intro c hc
          rw [cutB_is 47 (lower p), if_pos h1] at hc
          rcases List.mem_append.1 hc with h6 | h6
          · exact tok_no h2 c h6
          · rcases List.mem_cons.1 h6 with rfl | h7
            · decide
            · exact tok_no h3 c h7
        · exact h4 p (by simpa using h5)
  · cases h
theorem rd_cl : ∀ {L : List (List UInt8)} {acc l : List Ra}, rd L acc = some l → ∀ p ∈ L, Cl p
  | [], acc, l, h, p, hp => by cases hp
  | q :: L, acc, l, h, p, hp => by
    unfold rd at h
    split at h
    · rename_i he
      rcases List.mem_cons.1 hp with rfl | h1
      · rw [he]; rfl
      · exact rd_cl h p h1
    · cases ho : one q with
      | none => rw [ho] at h; cases h
      | some r =>
        rw [ho] at h
        rcases List.mem_cons.1 hp with rfl | h1
        · exact one_cl ho
        · exact rd_cl h p h1
theorem rd_app : ∀ (L M : List (List UInt8)) (acc : List Ra), rd (L ++ M) acc = (rd L acc).bind (rd M)
  | [], M, acc => rfl
  | p :: L, M, acc => by
    show rd (p :: (L ++ M)) acc = _
    unfold rd
    split
    · exact rd_app L M acc
    · cases one p with
      | none => rfl
      | some r => exact rd_app L M _
end Ap
end Go.Proofs.YtfacmnooklljnaaDoor

/- accept, plainly: a list with a range behind it is that list's ranges, and that one. No conditions but those that each law states. -/
namespace Go.Proofs.YtfacmnooklljnaaDoor
set_option linter.unusedVariables false
set_option linter.unusedSimpArgs false
namespace Ap
open Tp
theorem rt_suffix {x y : List UInt8} (h : trimR (x ++ y) = x ++ y) : trimR y = y := by
  unfold trimR at h ⊢
  rw [List.reverse_append, List.dropWhile_append] at h
  split at h
  · have h1 := congrArg List.length h
    rw [List.length_reverse, List.length_append] at h1
    have h2 := (List.dropWhile_sublist (l := x.reverse) blankB).length_le
    rw [List.length_reverse] at h2
    have : y = [] := List.eq_nil_of_length_eq_zero (by omega)
    rw [this]; rfl
  · rw [List.reverse_append, List.reverse_reverse] at h
    exact List.append_cancel_left h
theorem tl_idem : ∀ l : List UInt8, trimL (trimL l) = trimL l
  | [] => rfl
  | c :: l => by
    rw [trimL_cons]
    split
    · exact tl_idem l
    · rename_i h; rw [trimL_cons, if_neg h]
theorem tl_suffix (l : List UInt8) : ∃ x, l = x ++ trimL l := ⟨l.takeWhile blankB, (List.takeWhile_append_dropWhile (p := blankB) (l := l)).symm⟩
theorem trim_tl {l : List UInt8} (h : trim l = l) : trimL l = l ∧ trimR l = l := by
  have h1 : (trimL l).length ≤ l.length := (List.dropWhile_sublist _).length_le
  have h2 : (trim l).length ≤ (trimL l).length := by
    show (trimR (trimL l)).length ≤ _
    unfold trimR
    rw [List.length_reverse]
    refine Nat.le_trans (List.dropWhile_sublist _).length_le ?_
    rw [List.length_reverse]; exact Nat.le_refl _
  rw [h] at h2
  have h3 : trimL l = l := (List.dropWhile_sublist (l := l) blankB).eq_of_length_le h2
  refine ⟨h3, ?_⟩
  have h4 : trimR (trimL l) = l := h
  rw [h3] at h4
  exact h4
theorem tl_app (Y : List UInt8) : ∀ l : List UInt8, trimL (l ++ 44 :: Y) = trimL l ++ 44 :: Y
  | [] => by rw [List.nil_append, trimL_cons, if_neg (by decide)]; rfl
  | c :: l => by
    rw [List.cons_append, trimL_cons, trimL_cons]
    split
    · exact tl_app Y l
    · rfl
theorem trim_app {Y l : List UInt8} (hY : trimR (44 :: Y) = 44 :: Y) : trim (l ++ 44 :: Y) = trimL l ++ 44 :: Y := by
  show trimR (trimL _) = _
  rw [tl_app, trimR_append _ _ (by rw [hY]; simp), hY]
theorem all_ext {Y : List UInt8} (hY : trim Y = Y) (hR : trimR (44 :: Y) = 44 :: Y) : ∀ (n : Nat) (l : List UInt8), l.length ≤ n → trim l = l → (∀ p ∈ all l 44, Cl p) → all (l ++ 44 :: Y) 44 = all l 44 ++ all Y 44
  | n, l, hn, ht, h => by
    rw [all_eq l 44] at h ⊢
    have ha := cutAt_app 44 l (44 :: Y) false false
    cases hk : cutAt 44 false false l with
    | none =>
      rw [hk] at ha
      have e : cut l 44 = (trim l, [], false) := by unfold cut; rw [hk]
      rw [e] at h ⊢
      have hc : Cl l := by
        have := h _ (List.mem_cons_self ..)
        rwa [ht] at this
      unfold Cl at hc
      rw [hc] at ha
      have ha2 : cutAt 44 false false (l ++ 44 :: Y) = some l.length := by
        rw [ha]
        show (cutAt 44 false false (44 :: Y)).map (· + l.length) = _
        rw [cutAt]
        simp
      have e2 : cut (l ++ 44 :: Y) 44 = (trim l, Y, true) := by
        unfold cut
        rw [ha2]
        simp only
        rw [List.take_left, show (l ++ 44 :: Y).drop (l.length + 1) = Y by rw [← List.drop_drop]; simp, hY]
      rw [all_eq (l ++ 44 :: Y), e2]
      rfl
    | some k =>
      rw [hk] at ha
      simp only at ha
      have e : cut l 44 = (trim (l.take k), trim (l.drop (k + 1)), true) := by unfold cut; rw [hk]
      have hkl := (cut_shut 44 l false false k hk (fun h => by cases h)).2.1
      have hlt := cut_lt (l := l) (b := 44) (by rw [e])
      obtain ⟨hl1, hl2⟩ := trim_tl ht
      have hs : trimR (l.drop (k + 1)) = l.drop (k + 1) := rt_suffix (x := l.take (k + 1)) (by rw [List.take_append_drop]; exact hl2)
      have hs2 : trimR (trimL (l.drop (k + 1))) = trimL (l.drop (k + 1)) := by
        obtain ⟨x, hx⟩ := tl_suffix (l.drop (k + 1))
        refine rt_suffix (x := x) ?_
        rw [← hx]; exact hs
      have hd : trim (l.drop (k + 1)) = trimL (l.drop (k + 1)) := hs2
      have e2 : cut (l ++ 44 :: Y) 44 = (trim (l.take k), trim (l.drop (k + 1)) ++ 44 :: Y, true) := by
        unfold cut
        rw [ha]
        simp only
        rw [List.take_append_of_le_length (by omega), List.drop_append_of_le_length (by omega), trim_app hR, hd]
      rw [all_eq (l ++ 44 :: Y), e2]
      rw [e] at h hlt ⊢
      simp only [if_true] at h ⊢
      rw [List.cons_append]
      congr 1
      cases n with
      | zero => omega
      | succ n =>
        refine all_ext hY hR n _ (by simp only at hlt; omega) ?_ (fun p hp => h p (List.mem_cons_of_mem _ hp))
        rw [hd]
        show trimR (trimL (trimL _)) = _
        rw [tl_idem, hs2]
def exY : List UInt8 := [42, 47, 42, 59, 113, 61, 48, 46, 49]
theorem exY_all : all exY 44 = [exY] := by decide +kernel
theorem exY_one : one exY = some ([42], [42], 0, 100) := by decide +kernel
/-- a list with one more range behind it -/
theorem parse_ext {s : List UInt8} {l : List Ra} (h : parse s = some l) : parse (s ++ 44 :: exY) = some (l ++ [([42], [42], 0, 100)]) := by
  unfold parse at h ⊢
  split at h
  · rename_i hv
    unfold isVal at hv
    rw [Bool.and_eq_true] at hv
    have ht : trim s = s := by simpa using hv.1
    have hR : trimR (44 :: exY) = 44 :: exY := by decide +kernel
    have hv2 : isVal (s ++ 44 :: exY) = true := by
      unfold isVal
      rw [Bool.and_eq_true]
      refine ⟨?_, ?_⟩
      · rw [trim_app hR, (trim_tl ht).1]; simp
      · unfold allT at hv ⊢
        rw [List.all_append, hv.2]
        decide +kernel
    rw [if_pos hv2, all_ext (by decide +kernel) hR s.length s (Nat.le_refl _) ht (rd_cl h), rd_app, h, exY_all]
    show rd [exY] l = _
    unfold rd
    rw [if_neg (by decide), exY_one]
    rfl
  · cases h
end Ap
end Go.Proofs.YtfacmnooklljnaaDoor

/- accept, plainly: the quality of a number never falls. No conditions but those that each law states. -/
namespace Go.Proofs.YtfacmnooklljnaaDoor
set_option linter.unusedVariables false
set_option linter.unusedSimpArgs false
set_option maxRecDepth 100000
set_option maxHeartbeats 1000000
namespace Fl
open Ieee
theorem W_le (r : Nat) : W r ≤ 999 := by
  unfold W
  refine Nat.le_trans (List.countP_le_length) ?_
  rw [List.length_range]; exact Nat.le_refl _
theorem W_mono {a b : Nat} (h : a ≤ b) : W a ≤ W b := by
  unfold W
  exact List.countP_mono_left (fun j _ hj => by simp only [decide_eq_true_eq] at hj ⊢; omega)
theorem weigh_in (q : Nat) : 0 ≤ weigh q ∧ weigh q ≤ 1000 := by
  unfold weigh
  have := W_le q
  split
  · omega
  · split <;> omega
theorem sg_pos (s : Bool) (m k : Nat) : 0 < signed s m k ↔ (s = false ∧ 0 < m) := by
  unfold signed
  have h := Nat.two_pow_pos k
  rw [Nat.shiftLeft_eq]
  cases s with
  | true => simp; exact Int.natCast_nonneg _
  | false =>
    simp only [Bool.false_eq_true, if_false, true_and]
    constructor
    · intro h2
      rcases Nat.eq_zero_or_pos m with h3 | h3
      · subst h3; simp at h2
      · exact h3
    · intro h2
      have := Nat.mul_pos h2 h
      omega
theorem cmp_gt {x y : Int} (h : y < x) : compare x y = Ordering.gt := by
  show compareOfLessAndEq x y = _
  unfold compareOfLessAndEq
  rw [if_neg (by omega), if_neg (by omega)]
theorem cmp_lt_of {x y : Int} (h : compare x y = Ordering.gt) : y < x := by
  have h : compareOfLessAndEq x y = Ordering.gt := h
  unfold compareOfLessAndEq at h
  split at h
  · cases h
  · split at h
    · cases h
    · omega
theorem cmp_eq_of {x y : Int} (h : compare x y = Ordering.eq) : x = y := by
  have h : compareOfLessAndEq x y = Ordering.eq := h
  unfold compareOfLessAndEq at h
  split at h
  · cases h
  · split at h
    · assumption
    · cases h
theorem sg_zero (s : Bool) (k : Nat) : signed s 0 k = 0 := by unfold signed; simp
/-- what is above nought is above what is not -/
theorem gt_cross {a b : Nat} (ha : gt0 a = true) (hb : gt0 b = false) : double.order a b = some .gt ∨ double.order a b = none := by
  unfold gt0 Format.order at *
  rw [read_zero] at ha hb
  cases hra : double.read a with
  | nan s f => rw [hra] at ha; cases ha
  | infinity s =>
    rw [hra] at ha
    cases s with
    | true => cases ha
    | false =>
      cases hrb : double.read b with
      | nan s f => right; rfl
      | infinity t =>
        rw [hrb] at hb
        cases t with
        | true => left; rfl
        | false => cases hb
      | number t n j => left; rfl
  | number s m i =>
    rw [hra] at ha
    cases hrb : double.read b with
    | nan s f => right; rfl
    | infinity t =>
      rw [hrb] at hb
      cases t with
      | true => left; rfl
      | false => cases hb
    | number t n j =>
      rw [hrb] at hb
      left
      unfold Datum.order at ha hb ⊢
      simp only [sg_zero] at ha hb ⊢
      have h1 : 0 < signed s m (i - min i (-1074)).toNat := cmp_lt_of (by simpa using ha)
      have h2 : ¬ 0 < signed t n (j - min j (-1074)).toNat := fun h => by rw [cmp_gt h] at hb; cases hb
      rw [sg_pos] at h1 h2
      have h3 : 0 < signed s m (i - min i j).toNat := (sg_pos _ _ _).2 h1
      have h4 : ¬ 0 < signed t n (j - min i j).toNat := fun h => h2 ((sg_pos _ _ _).1 h)
      rw [cmp_gt (by omega)]
/-- what is one at least is above what is less -/
theorem ge_cross {a b : Nat} (h64 : a < 18446744073709551616) (ha : ge1 a = true) (hb : b < ONE) : double.order a b = some .gt := by
  rcases Nat.lt_or_ge a INF with h | h
  · have h1 := order_pos h (show ONE < INF by decide)
    have h2 := order_pos h (show b < INF from Nat.lt_trans hb (by decide))
    unfold ge1 at ha
    rw [h1, Nat.compare_eq_ite_lt] at ha
    rw [h2, Nat.compare_eq_ite_lt]
    have : ONE ≤ a := by
      rcases Nat.lt_or_ge a ONE with h3 | h3
      · rw [if_pos h3] at ha; cases ha
      · exact h3
    rw [if_neg (by omega), if_pos (by omega)]
  · obtain ⟨m, k, hrb, _⟩ := read_pos (show b < INF from Nat.lt_trans hb (by decide))
    unfold ge1 Format.order at ha
    unfold Format.order
    rw [read_one] at ha
    rw [hrb]
    cases hra : double.read a with
    | nan s f => rw [hra] at ha; cases ha
    | infinity s =>
      rw [hra] at ha
      cases s with
      | true => cases ha
      | false => rfl
    | number s m' p =>
      exfalso
      have h1 : double.signWeight = 9223372036854775808 := by decide
      have h2 : double.binade = 4503599627370496 := by decide
      have h3 : double.infRung = 9218868437227405312 := by decide
      unfold INF at h
      cases s with
      | false =>
        unfold Format.read at hra
        simp only [h1, h2, h3] at hra
        rcases Nat.lt_or_ge a 9223372036854775808 with hl | hl
        · rw [Nat.mod_eq_of_lt hl, if_neg (by omega), if_neg (by omega)] at hra
          split at hra <;> cases hra
        · have e1 : a / 9223372036854775808 = 1 := by omega
          rw [e1] at hra
          split at hra
          · cases hra
          · split at hra
            · cases hra
            · split at hra <;> cases hra
      | true =>
        rw [hra] at ha
        unfold Datum.order at ha
        simp only [Bool.or_eq_true, beq_iff_eq, Option.some.injEq] at ha
        have hone : ∀ z, 0 < signed false 4503599627370496 z := fun z => (sg_pos _ _ _).2 ⟨rfl, by decide⟩
        have hneg : ∀ z, ¬ 0 < signed true m' z := fun z h => by have := (sg_pos _ _ _).1 h; cases this.1
        rcases ha with ha | ha
        · have h5 := cmp_lt_of ha
          have h6 := hone ((-52 : Int) - min p (-52)).toNat
          have h7 := hneg (p - min p (-52)).toNat
          omega
        · have h5 := cmp_eq_of ha
          have h6 := hone ((-52 : Int) - min p (-52)).toNat
          have h7 := hneg (p - min p (-52)).toNat
          omega
theorem leq_mono {a b : Nat} (ha : a < 18446744073709551616) (hb : b < 18446744073709551616) (h : (double.order a b == some .lt || double.order a b == some .eq) = true) : weigh a ≤ weigh b := by
  have ia := weigh_in a
  have ib := weigh_in b
  have hx : ¬ (double.order a b = some .gt) ∧ ¬ (double.order a b = none) := ⟨fun e => (by rw [e] at h; cases h), fun e => (by rw [e] at h; cases h)⟩
  rcases cls b hb with ⟨b1, b2⟩ | ⟨b1, b2⟩ | ⟨b1, b2, b3, b4⟩
  · have : weigh b = 1000 := by unfold weigh; rw [if_pos b1]
    omega
  · rcases cls a ha with ⟨a1, a2⟩ | ⟨a1, a2⟩ | ⟨a1, a2, a3, a4⟩
    · rcases gt_cross a2 b2 with h1 | h1
      · exact absurd h1 hx.1
      · exact absurd h1 hx.2
    · have : weigh a = 0 := by unfold weigh; rw [if_neg (by rw [a1]; decide), if_neg (by rw [a2]; decide)]
      omega
    · rcases gt_cross a2 b2 with h1 | h1
      · exact absurd h1 hx.1
      · exact absurd h1 hx.2
  · rcases cls a ha with ⟨a1, a2⟩ | ⟨a1, a2⟩ | ⟨a1, a2, a3, a4⟩
    · exact absurd (ge_cross ha a1 b4) hx.1
    · have : weigh a = 0 := by unfold weigh; rw [if_neg (by rw [a1]; decide), if_neg (by rw [a2]; decide)]
      omega
    · have h1 : a ≤ b := by
        rcases Nat.lt_or_ge b a with h2 | h2
        · exfalso
          apply hx.1
          rw [order_pos (Nat.lt_trans a4 (by decide)) (Nat.lt_trans b4 (by decide)), Nat.compare_eq_ite_lt, if_neg (by omega), if_pos h2]
        · exact h2
      have e1 : weigh a = (W a : Int) := by unfold weigh; rw [if_neg (by rw [a1]; decide), if_pos a2]
      have e2 : weigh b = (W b : Int) := by unfold weigh; rw [if_neg (by rw [b1]; decide), if_pos b2]
      have := W_mono h1
      omega
/-- what is no number weighs nothing -/
theorem nan_nought {a : Nat} (ha : a < 18446744073709551616) (h : (double.order a a != some .eq) = true) : weigh a = 0 := by
  rcases cls a ha with ⟨a1, a2⟩ | ⟨a1, a2⟩ | ⟨a1, a2, a3, a4⟩
  · exfalso
    unfold Format.order at h
    unfold gt0 Format.order at a2
    rw [read_zero] at a2
    cases hra : double.read a with
    | nan s f => rw [hra] at a2; cases a2
    | infinity s => rw [hra] at h; cases s <;> revert h <;> decide
    | number s m i =>
      rw [hra] at h
      unfold Datum.order at h
      simp only [bne_iff_ne, ne_eq, Option.some.injEq] at h
      apply h
      show compareOfLessAndEq _ _ = _
      unfold compareOfLessAndEq
      rw [if_neg (by omega), if_pos rfl]
  · unfold weigh; rw [if_neg (by rw [a1]; decide), if_neg (by rw [a2]; decide)]
  · exfalso
    rw [order_pos (Nat.lt_trans a4 (by decide)) (Nat.lt_trans a4 (by decide)), Nat.compare_eq_ite_lt, if_neg (by omega), if_neg (by omega)] at h
    cases h
/-- so many thousandths weigh so much -/
theorem weigh_Tn {k : Nat} (hk : k ≤ 1000) : weigh (Tn k) = k := by
  rcases Nat.lt_or_ge k 1000 with h | h
  · have hlt : Tn k < ONE := by rw [← Tn_top]; exact Tn_lt h (Nat.le_refl _)
    have hw : W (Tn k) = k := W_is ⟨by omega, Nat.le_refl _, Tn_lt (by omega) (by omega)⟩
    rcases Nat.eq_zero_or_pos k with h0 | h0
    · subst h0
      decide +kernel
    · have hp : 0 < Tn k := by rw [← Tn_zero]; exact Tn_lt h0 (by omega)
      rcases cls (Tn k) (Nat.lt_trans hlt (by decide)) with ⟨a1, a2⟩ | ⟨a1, a2⟩ | ⟨a1, a2, a3, a4⟩
      · exfalso
        unfold ge1 at a1
        rw [order_pos (Nat.lt_trans hlt (by decide)) (by decide), Nat.compare_eq_ite_lt, if_pos hlt] at a1
        cases a1
      · exfalso
        unfold gt0 at a2
        rw [order_pos (Nat.lt_trans hlt (by decide)) (by decide), Nat.compare_eq_ite_lt, if_neg (by omega), if_pos hp] at a2
        cases a2
      · unfold weigh; rw [if_neg (by rw [a1]; decide), if_pos a2, hw]
  · obtain rfl : k = 1000 := by omega
    decide +kernel
end Fl
end Go.Proofs.YtfacmnooklljnaaDoor

/- AcceptHolds. No condition but those that the law states. -/
namespace Go.Proofs.YtfacmnooklljnaaDoor
set_option linter.unusedVariables false
set_option linter.unusedSimpArgs false
open Go.RowKit Go.Shelf
attribute [local go_sem] Oper.semAt_some
set_option maxHeartbeats 8000000
set_option maxRecDepth 100000
/-- what Parse tells, either way -/
def PrO (o : Option (List Ap.Ra)) (e : Ending) (w' : World) : Prop := ∃ v l en, e = .returned (.tuple #[v, .int .i64 en]) ∧ Rin raC 4 ra0 w' v l ∧ l.length ≤ 1000000 ∧ (∀ r ∈ l, 0 ≤ r.2.2.2 ∧ r.2.2.2 ≤ 1000) ∧ ((en = 0 ∧ o = some l) ∨ (en = 220 ∧ o = none ∧ l = []))
theorem ac_ParseR (s : ByteArray) (w : World) (hs : s.size ≤ 100000) :
    Calls Tryd.prog 9 #[.string s] w fun e w' => Below w.heap.size w w' ∧ PrO (Ap.parse s.data.toList) e w' := by
  refine (ac_Parse s w hs).mono ?_
  rintro e w' ⟨hb, hp⟩
  refine ⟨hb, ?_⟩
  have hsl : s.data.toList.length = s.size := rfl
  cases ho : Ap.parse s.data.toList with
  | none =>
    rw [ho] at hp
    exact ⟨_, [], 220, hp, Rin.nil _, by decide, fun r hr => (by cases hr), .inr ⟨rfl, rfl, rfl⟩⟩
  | some l =>
    rw [ho] at hp
    obtain ⟨v, rfl, hown⟩ := hp
    have h := Ap.parse_ok ho
    exact ⟨v, l, 0, rfl, Rin.of_own raC_len (by decide) hown, by omega, fun r hr => (h.1 r hr).2, .inl ⟨rfl, rfl⟩⟩
theorem ra_in (a b : ByteArray) (n q : Int) (W : World) : (Op.equalIn 10000 33 (.agg #[.string a, .string b, .int .i64 n, .int .i64 q]) (.agg #[.string a, .string b, .int .i64 n, .int .i64 q])).run Tryd.prog W = .ok true W := by
  have u9 := Tryd.underlying9
  have u3 := Tryd.underlying3
  have hS : Tryd.prog.underlying 33 = some (.struct (Tryd.prog.fieldsOf 33)) := by kernel_rfl
  have hp : Tryd.prog.stoodInHeld 33 = false := by kernel_rfl
  rw [show (10000 : Nat) = 9999 + 1 from rfl, run_equalIn_agg W 9999 33 _ _ hS hp]
  simp only [Program.fieldsOf, Tryd.underlying33]
  go_simp
theorem ra_neq (a b : ByteArray) (n q : Int) : ∀ W : World, (binOp .neq 33 (.agg #[.string a, .string b, .int .i64 n, .int .i64 q]) (.agg #[.string a, .string b, .int .i64 n, .int .i64 q])).run Tryd.prog W = .ok (.bool false) W := by
  intro W
  rw [run_neq_struct, ra_in]
  rfl
theorem walkAI (s : ByteArray) (a b k : Int) (w : World) (hs : s.size ≤ maxLen) (ha : (Lit.int .u64 a).wf = true) (hb : (Lit.int .u64 b).wf = true) (hk : (Lit.int .i64 k).wf = true) :
    Calls Tryd.prog 4 #[.string s, .int .u64 a, .int .u64 b, .int .i64 k] w fun e w' => e = .returned (.bool true) ∧ Below w.heap.size w w' := by
  have hb1 : 0 ≤ a ∧ a ≤ 18446744073709551615 := by
    have h := ha
    simp [Lit.wf] at h
    exact ⟨h.1, h.2⟩
  have hb2 : 0 ≤ b ∧ b ≤ 18446744073709551615 := by
    have h := hb
    simp [Lit.wf] at h
    exact ⟨h.1, h.2⟩
  have hsm : s.size ≤ 9223372036854775807 := by unfold maxLen at hs; omega
  obtain ⟨x, hx⟩ : ∃ q, a.toNat = q := ⟨_, rfl⟩
  obtain ⟨y, hy⟩ : ∃ q, b.toNat = q := ⟨_, rfl⟩
  have hx2 : x < 18446744073709551616 := by omega
  have hy2 : y < 18446744073709551616 := by omega
  have FX := fun W => fl_from a W
  have FY := fun W => fl_from b W
  simp only [hx] at FX
  simp only [hy] at FY
  have WX := Lib.hid (fun W => ac_Weigh x W hx2)
  have WY := Lib.hid (fun W => ac_Weigh y W hy2)
  have WK := Lib.hid (fun W => lw_works12 W)
  have NU := Lib.hid lw_num12
  have ix := Fl.weigh_in x
  obtain ⟨L, hL⟩ : ∃ L, (FloatKind.f64.format.order x y == some Ordering.lt || FloatKind.f64.format.order x y == some Ordering.eq) = L := ⟨_, rfl⟩
  obtain ⟨M, hM⟩ : ∃ M, (FloatKind.f64.format.order x x != some Ordering.eq) = M := ⟨_, rfl⟩
  have hLm : L = true → Fl.weigh x ≤ Fl.weigh y := fun h => Fl.leq_mono hx2 hy2 (hL.trans h)
  have hMm : M = true → Fl.weigh x = 0 := fun h => Fl.nan_nought hx2 (hM.trans h)
  obtain ⟨m, hm⟩ : ∃ n, Fl.weigh x = n := ⟨_, rfl⟩
  obtain ⟨n, hn⟩ : ∃ n, Fl.weigh y = n := ⟨_, rfl⟩
  rw [hm] at WX ix hLm hMm
  rw [hn] at WY hLm
  have HLM := Lib.hid hLm
  have HMM := Lib.hid hMm
  have HLL := Lib.hid hL
  have HM2 := Lib.hid hM
  have HIX := Lib.hid ix
  have TN := Lib.hid (fun (j : Nat) (hj : j ≤ 1000) (W : World) => by
    have h := ac_Weigh (Fl.Tn j) W (Nat.lt_of_le_of_lt (Fl.Tn_one hj) (by decide))
    rw [Fl.weigh_Tn hj] at h
    exact h)
  obtain ⟨B, hB⟩ : ∃ z, w.heap.size = z := ⟨_, rfl⟩
  have HB := Lib.hid hB
  rw [hB]
  have HFX := Lib.hid FX
  have HFY := Lib.hid FY
  clear hLm hMm hL hM ix hm hn hx hy hB ha hb hs FX FY
  by_cases hlen : 200 < s.size
  · have hI : (200 : Int) < (s.size : Int) := by omega
    go_enter Tryd.func4, Tryd.ntmps4
    go_wp2_with fail
    refine (WK.out _).mono ?_
    rintro e w1 ⟨rfl, hb⟩
    have HB1 := Lib.hid (show Below B w w1 from HB.out ▸ hb)
    clear hb
    go_wp2_with fail
    go_ret
    exact ⟨rfl, HB1.out⟩
  · have hI : ¬ (200 : Int) < (s.size : Int) := by omega
    have PA := Lib.hid (fun W => ac_ParseR s W (by omega))
    have PB := Lib.hid (fun W => by
      have h := ac_ParseR (s ++ ⟨#[44, 42, 47, 42, 59, 113, 61, 48, 46, 49]⟩) W (by rw [ByteArray.size_append]; show s.size + 10 ≤ _; omega)
      rw [show (s ++ ⟨#[44, 42, 47, 42, 59, 113, 61, 48, 46, 49]⟩ : ByteArray).data.toList = s.data.toList ++ 44 :: Ap.exY by rw [ByteArray.data_append, Array.toList_append]; rfl] at h
      exact h)
    go_enter Tryd.func4, Tryd.ntmps4
    go_wp2_with fail
    refine (PA.out _).mono ?_
    rintro e w1 ⟨hb, v, l, en, rfl, hin, hll, hql, hen⟩
    have HB1 := Lib.hid (show Below B w w1 from HB.out ▸ hb)
    have hen2 : en = 0 ∨ en = 220 := hen.imp (·.1) (·.1)
    obtain ⟨p, c, rfl⟩ := hin.slice
    obtain ⟨N, hN⟩ : ∃ z, l.length = z := ⟨_, rfl⟩
    rw [hN] at hll ⊢
    have HEN := Lib.hid hen
    have HIN := Lib.hid (show Rin raC 4 ra0 w1 (.slice p N c) l from hN ▸ hin)
    have HQL := Lib.hid hql
    have HN := Lib.hid hN
    clear hb hin hql hen hN
    go_wp2_with fail
    go_loopw [11] (fun i wr => ∃ k : Nat, k ≤ N ∧ i = .int .i64 k ∧ wr = w1) (fun i _ => N - (intOf i).toNat)
    case atStart => exact ⟨0, Nat.zero_le _, rfl, rfl⟩
    case round =>
      obtain ⟨k1, hk1, rfl, rfl⟩ := hrel
      by_cases hlt : k1 < N
      · have hI2 : (k1 : Int) < (N : Int) := by omega
        obtain ⟨g, oo, c', hsl, hx1⟩ := HIN.out.at (j := k1) (by rw [HN.out]; exact hlt)
        obtain ⟨rfl, rfl⟩ : p = some ⟨g, oo, none⟩ ∧ c = c' := by
          simp only [Value.slice.injEq] at hsl
          exact ⟨hsl.1, hsl.2.2⟩
        have hmem : l.getD k1 ra0 ∈ l := by rw [List.getD_eq_getElem?_getD, List.getElem?_eq_getElem (by rw [HN.out]; exact hlt)]; exact List.getElem_mem _
        obtain ⟨hq0, hq1⟩ := HQL.out _ hmem
        have x3 := hx1 3 _ rfl
        obtain ⟨q, hq⟩ : ∃ z, (l.getD k1 ra0).2.2.2 = z := ⟨_, rfl⟩
        rw [hq] at x3 hq0 hq1
        have hn0 : ¬ q < 0 := by omega
        have hn1 : ¬ (1000 : Int) < q := by omega
        clear hmem hx1 hq hsl hq0 hq1
        go_wp2_with fail
        go_roundw
        case rel => exact ⟨k1 + 1, hlt, by go_num, trivial⟩
        case measure => simp [intOf]; omega
      · obtain rfl : k1 = N := by omega
        have hI2 : ¬ (k1 : Int) < (k1 : Int) := by omega
        go_wp2_with fail
        refine (NU.out _ _ (by rcases hen2 with h | h <;> subst h <;> decide)).mono ?_
        rintro e w5 ⟨rfl, rfl⟩
        go_upto_if 50 with (fail)
        go_cut [12, 13, 14] from 51 to 82 (fun _ _ _ wx => Below B w wx)
        case first =>
          rcases hen2 with rfl | rfl
          · go_wp2_with fail
            refine (PB.out _).mono ?_
            rintro e w6 ⟨hb, v2, l2, en2, rfl, hin2, hll2, hql2, hen22⟩
            have HB6 := Lib.hid (HB1.out.trans (hb.mono (by have := HB.out; have := HB1.out.size; omega)))
            have HI1 := Lib.hid (HIN.out.below hb)
            have hpl : Ap.parse s.data.toList = some l := by
              rcases HEN.out with ⟨_, h⟩ | ⟨h, _⟩
              · exact h
              · cases h
            rw [Ap.parse_ext hpl] at hen22
            obtain ⟨rfl, hl2⟩ : en2 = 0 ∧ l ++ [([42], [42], 0, 100)] = l2 := by
              rcases hen22 with ⟨h1, h2⟩ | ⟨_, h2, _⟩
              · exact ⟨h1, Option.some.inj h2⟩
              · cases h2
            obtain ⟨p2, c2, rfl⟩ := hin2.slice
            have hn2 : l2.length = k1 + 1 := by rw [← hl2, List.length_append, HN.out]; rfl
            have HI2 := Lib.hid hin2
            have HL2 := Lib.hid hl2
            have HN2 := Lib.hid hn2
            have he2 : ((l2.length : Nat) : Int) = (k1 : Int) + 1 := by rw [hn2]; rfl
            rw [hn2] at HI2 ⊢
            have hE : ((k1 + 1 : Nat) : Int) = (k1 : Int) + 1 := rfl
            clear hb hpl hen22 hin2 hl2 hn2 he2 hll2 hql2
            go_wp2_with fail
            refine (NU.out _ _ (by decide)).mono ?_
            rintro e w7 ⟨rfl, rfl⟩
            go_wp2_with fail
            go_loopw [14] (fun i wr => ∃ k2 : Nat, k2 ≤ k1 ∧ i = .int .i64 k2 ∧ Below w7.heap.size w7 wr) (fun i _ => k1 - (intOf i).toNat)
            case atStart => exact ⟨0, Nat.zero_le _, rfl, Below.refl _ _⟩
            case round =>
              obtain ⟨k2, hk2, rfl, hbr⟩ := hrel
              have HI1r := Lib.hid (HI1.out.below hbr)
              have HI2r := Lib.hid (HI2.out.below hbr)
              have HBr := Lib.hid hbr
              clear hbr
              by_cases hlt2 : k2 < k1
              · have hI3 : (k2 : Int) < (k1 : Int) := by omega
                have hI4 : (k2 : Int) < (k1 : Int) + 1 := by omega
                obtain ⟨g, oo, c', hsl, hx1⟩ := HI1r.out.at (j := k2) (by rw [HN.out]; exact hlt2)
                obtain ⟨rfl, rfl⟩ : p = some ⟨g, oo, none⟩ ∧ c = c' := by
                  simp only [Value.slice.injEq] at hsl
                  exact ⟨hsl.1, hsl.2.2⟩
                obtain ⟨g2, o2, c2', hsl2, hy1⟩ := HI2r.out.at (j := k2) (by rw [HN2.out]; omega)
                obtain ⟨rfl, rfl⟩ : p2 = some ⟨g2, o2, none⟩ ∧ c2 = c2' := by
                  simp only [Value.slice.injEq] at hsl2
                  exact ⟨hsl2.1, hsl2.2.2⟩
                have hrr : l2.getD k2 ra0 = l.getD k2 ra0 := by
                  rw [← HL2.out, List.getD_eq_getElem?_getD, List.getD_eq_getElem?_getD, List.getElem?_append_left (by rw [HN.out]; exact hlt2)]
                rw [hrr] at hy1
                obtain ⟨r, hr⟩ : ∃ z, l.getD k2 ra0 = z := ⟨_, rfl⟩
                rw [hr] at hx1 hy1
                have x0 := hx1 0 _ rfl
                have x1 := hx1 1 _ rfl
                have x2 := hx1 2 _ rfl
                have x3 := hx1 3 _ rfl
                have y0 := hy1 0 _ rfl
                have y1 := hy1 1 _ rfl
                have y2 := hy1 2 _ rfl
                have y3 := hy1 3 _ rfl
                rw [Nat.add_zero] at x0 y0
                obtain ⟨xb, hxb⟩ : ∃ y : ByteArray, (⟨r.1.toArray⟩ : ByteArray) = y := ⟨_, rfl⟩
                obtain ⟨yb, hyb⟩ : ∃ y : ByteArray, (⟨r.2.1.toArray⟩ : ByteArray) = y := ⟨_, rfl⟩
                obtain ⟨pn, hpn⟩ : ∃ y, (r.2.2.1 : Int) = y := ⟨_, rfl⟩
                obtain ⟨qn, hqn⟩ : ∃ y, r.2.2.2 = y := ⟨_, rfl⟩
                unfold tx at x0 x1 y0 y1
                rw [hxb] at x0 y0
                rw [hyb] at x1 y1
                rw [hpn] at x2 y2
                rw [hqn] at x3 y3
                clear hsl hsl2 hx1 hy1 hrr hr hxb hyb hpn hqn
                have HNQ := Lib.hid (ra_neq xb yb pn qn)
                have hnq := HNQ.out
                go_wp2_with fail
                go_region
                go_wp2_with fail
                go_roundw
                case rel => exact ⟨k2 + 1, hlt2, by go_num, HBr.out.drew⟩
                case measure => simp [intOf]; omega
              · obtain rfl : k2 = k1 := by omega
                have hI3 : ¬ (k2 : Int) < (k2 : Int) := by omega
                go_wp2_with fail
                go_meet
                exact HB6.out.trans (HBr.out.mono (by have := HB.out; have := HB6.out.size; omega))
          · go_wp2_with fail
            go_meet
            exact HB1.out
        case rest =>
          have HBC := Lib.hid hcut
          clear hcut
          go_wp2_with (first | simp only [HFX.out] | simp only [HFY.out])
          go_wp2_with (first | simp only [HFX.out] | simp only [HFY.out])
          refine (WX.out _).mono ?_
          rintro e w8 ⟨rfl, rfl⟩
          go_wp2_with fail
          refine (WY.out _).mono ?_
          rintro e w9 ⟨rfl, rfl⟩
          go_upto_region 20 with (fail)
          have i0 : ¬ m < 0 := by have := HIX.out.1; omega
          have i1 : ¬ (1000 : Int) < m := by have := HIX.out.2; omega
          have e1 := HLL.out
          have e2 := HM2.out
          have key : ∀ z, (z = true → m ≤ n) → z = true → ¬ n < m := fun z h h2 => by have := h h2; omega
          have hkc : k < 0 ∨ (¬ k < 0 ∧ 1000 < k) ∨ ∃ j : Nat, j ≤ 1000 ∧ k = j := by
            by_cases h1 : k < 0
            · exact .inl h1
            · by_cases h2 : 1000 < k
              · exact .inr (.inl ⟨h1, h2⟩)
              · exact .inr (.inr ⟨k.toNat, by omega, by omega⟩)
          clear hk hb1 hb2
          cases L with
          | true =>
            have i2 : ¬ n < m := key _ HLM.out rfl
            cases M with
            | true =>
              have i3 : m = 0 := HMM.out rfl
              subst i3
              rcases hkc with hk0 | ⟨hk0, hk1⟩ | ⟨j, hj, rfl⟩
              · go_wp2_with fail
                refine (WK.out _).mono ?_
                rintro e w10 ⟨rfl, hb10⟩
                have HB10 := Lib.hid (HBC.out.trans (hb10.mono (by have := HB.out; have := HBC.out.size; omega)))
                clear hb10
                go_wp2_with fail
                go_ret
                exact ⟨rfl, HB10.out⟩
              · go_wp2_with fail
                refine (WK.out _).mono ?_
                rintro e w10 ⟨rfl, hb10⟩
                have HB10 := Lib.hid (HBC.out.trans (hb10.mono (by have := HB.out; have := HBC.out.size; omega)))
                clear hb10
                go_wp2_with fail
                go_ret
                exact ⟨rfl, HB10.out⟩
              · have hj0 : ¬ (j : Int) < 0 := by omega
                have hj1 : ¬ (1000 : Int) < (j : Int) := by omega
                have FT := fun t W => fl_T j hj t W
                go_wp2_with (simp only [FT])
                go_wp2_with fail
                refine (TN.out j hj _).mono ?_
                rintro e wa ⟨rfl, rfl⟩
                go_wp2_with fail
                refine (WK.out _).mono ?_
                rintro e w10 ⟨rfl, hb10⟩
                have HB10 := Lib.hid (HBC.out.trans (hb10.mono (by have := HB.out; have := HBC.out.size; omega)))
                clear hb10
                go_wp2_with fail
                go_ret
                exact ⟨rfl, HB10.out⟩
            | false =>
              rcases hkc with hk0 | ⟨hk0, hk1⟩ | ⟨j, hj, rfl⟩
              · go_wp2_with fail
                refine (WK.out _).mono ?_
                rintro e w10 ⟨rfl, hb10⟩
                have HB10 := Lib.hid (HBC.out.trans (hb10.mono (by have := HB.out; have := HBC.out.size; omega)))
                clear hb10
                go_wp2_with fail
                go_ret
                exact ⟨rfl, HB10.out⟩
              · go_wp2_with fail
                refine (WK.out _).mono ?_
                rintro e w10 ⟨rfl, hb10⟩
                have HB10 := Lib.hid (HBC.out.trans (hb10.mono (by have := HB.out; have := HBC.out.size; omega)))
                clear hb10
                go_wp2_with fail
                go_ret
                exact ⟨rfl, HB10.out⟩
              · have hj0 : ¬ (j : Int) < 0 := by omega
                have hj1 : ¬ (1000 : Int) < (j : Int) := by omega
                have FT := fun t W => fl_T j hj t W
                go_wp2_with (simp only [FT])
                go_wp2_with fail
                refine (TN.out j hj _).mono ?_
                rintro e wa ⟨rfl, rfl⟩
                go_wp2_with fail
                refine (WK.out _).mono ?_
                rintro e w10 ⟨rfl, hb10⟩
                have HB10 := Lib.hid (HBC.out.trans (hb10.mono (by have := HB.out; have := HBC.out.size; omega)))
                clear hb10
                go_wp2_with fail
                go_ret
                exact ⟨rfl, HB10.out⟩
          | false =>
            cases M with
            | true =>
              have i3 : m = 0 := HMM.out rfl
              subst i3
              rcases hkc with hk0 | ⟨hk0, hk1⟩ | ⟨j, hj, rfl⟩
              · go_wp2_with fail
                refine (WK.out _).mono ?_
                rintro e w10 ⟨rfl, hb10⟩
                have HB10 := Lib.hid (HBC.out.trans (hb10.mono (by have := HB.out; have := HBC.out.size; omega)))
                clear hb10
                go_wp2_with fail
                go_ret
                exact ⟨rfl, HB10.out⟩
              · go_wp2_with fail
                refine (WK.out _).mono ?_
                rintro e w10 ⟨rfl, hb10⟩
                have HB10 := Lib.hid (HBC.out.trans (hb10.mono (by have := HB.out; have := HBC.out.size; omega)))
                clear hb10
                go_wp2_with fail
                go_ret
                exact ⟨rfl, HB10.out⟩
              · have hj0 : ¬ (j : Int) < 0 := by omega
                have hj1 : ¬ (1000 : Int) < (j : Int) := by omega
                have FT := fun t W => fl_T j hj t W
                go_wp2_with (simp only [FT])
                go_wp2_with fail
                refine (TN.out j hj _).mono ?_
                rintro e wa ⟨rfl, rfl⟩
                go_wp2_with fail
                refine (WK.out _).mono ?_
                rintro e w10 ⟨rfl, hb10⟩
                have HB10 := Lib.hid (HBC.out.trans (hb10.mono (by have := HB.out; have := HBC.out.size; omega)))
                clear hb10
                go_wp2_with fail
                go_ret
                exact ⟨rfl, HB10.out⟩
            | false =>
              rcases hkc with hk0 | ⟨hk0, hk1⟩ | ⟨j, hj, rfl⟩
              · go_wp2_with fail
                refine (WK.out _).mono ?_
                rintro e w10 ⟨rfl, hb10⟩
                have HB10 := Lib.hid (HBC.out.trans (hb10.mono (by have := HB.out; have := HBC.out.size; omega)))
                clear hb10
                go_wp2_with fail
                go_ret
                exact ⟨rfl, HB10.out⟩
              · go_wp2_with fail
                refine (WK.out _).mono ?_
                rintro e w10 ⟨rfl, hb10⟩
                have HB10 := Lib.hid (HBC.out.trans (hb10.mono (by have := HB.out; have := HBC.out.size; omega)))
                clear hb10
                go_wp2_with fail
                go_ret
                exact ⟨rfl, HB10.out⟩
              · have hj0 : ¬ (j : Int) < 0 := by omega
                have hj1 : ¬ (1000 : Int) < (j : Int) := by omega
                have FT := fun t W => fl_T j hj t W
                go_wp2_with (simp only [FT])
                go_wp2_with fail
                refine (TN.out j hj _).mono ?_
                rintro e wa ⟨rfl, rfl⟩
                go_wp2_with fail
                refine (WK.out _).mono ?_
                rintro e w10 ⟨rfl, hb10⟩
                have HB10 := Lib.hid (HBC.out.trans (hb10.mono (by have := HB.out; have := HBC.out.size; omega)))
                clear hb10
                go_wp2_with fail
                go_ret
                exact ⟨rfl, HB10.out⟩
end Go.Proofs.YtfacmnooklljnaaDoor
