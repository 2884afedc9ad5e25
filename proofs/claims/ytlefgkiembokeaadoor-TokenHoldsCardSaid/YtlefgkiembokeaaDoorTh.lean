/- What TokenHolds rests on, as plain laws of lists: no program in sight. -/
import Derived.Test.YtlefgkiembokeaaDoorTi
import Derived.Test.YtlefgkiembokeaaDoorTwB
namespace Go.Proofs.YtlefgkiembokeaaDoor
set_option linter.unusedVariables false
set_option linter.unusedSimpArgs false
namespace Tp
theorem trimL_idem : ∀ l : List UInt8, trimL (trimL l) = trimL l
  | [] => rfl
  | c :: l => by
    rw [trimL_cons]
    by_cases h : blankB c = true
    · rw [if_pos h]; exact trimL_idem l
    · rw [if_neg h, trimL_cons, if_neg h]
theorem trimR_idem (l : List UInt8) : trimR (trimR l) = trimR l := by
  unfold trimR
  rw [List.reverse_reverse]
  have := trimL_idem l.reverse
  unfold trimL at this
  rw [this]
theorem trimL_head : ∀ l : List UInt8, trimL l = [] ∨ ∃ c m, trimL l = c :: m ∧ blankB c = false
  | [] => .inl rfl
  | c :: l => by
    rw [trimL_cons]
    by_cases h : blankB c = true
    · rw [if_pos h]; exact trimL_head l
    · rw [if_neg h]; exact .inr ⟨c, l, rfl, by simpa using h⟩
theorem trim_idem (l : List UInt8) : trim (trim l) = trim l := by
  unfold trim
  rcases trimL_head l with h | ⟨c, m, h, hb⟩
  · rw [h]; rfl
  · rw [h]
    obtain ⟨m', hm⟩ := trimR_head c m hb
    have h2 : trimL (trimR (c :: m)) = trimR (c :: m) := by rw [hm, trimL_cons, if_neg (by rw [hb]; decide)]
    rw [h2, trimR_idem]
theorem trim_mem {l : List UInt8} {c : UInt8} (h : c ∈ trim l) : c ∈ l := by
  unfold trim trimR at h
  have h1 := (List.dropWhile_sublist _).subset (List.mem_reverse.1 h)
  exact (List.dropWhile_sublist _).subset (List.mem_reverse.1 h1)
theorem lower_idem (l : List UInt8) : lower (lower l) = lower l := by
  unfold lower
  rw [List.map_map]
  apply List.map_congr_left
  intro c _
  show UInt8.ofNat (lowB ((UInt8.ofNat (lowB c.toNat).toNat).toNat : Int)).toNat = UInt8.ofNat (lowB c.toNat).toNat
  rw [lower_at]
  have : lowB (lowB (c.toNat : Int)) = lowB (c.toNat : Int) := by unfold lowB; by_cases h : 65 ≤ (c.toNat : Int) ∧ (c.toNat : Int) ≤ 90; rw [if_pos h, if_neg (by omega)]; rw [if_neg h, if_neg h]
  rw [this]
theorem parts_mem : ∀ (l a p : List UInt8), p ∈ parts a l → ∀ c ∈ p, c ∈ a ∨ c ∈ l
  | [], a, p, hp, c, hc => by
    have : p = a := by simpa [parts] using hp
    subst this
    exact .inl hc
  | d :: l, a, p, hp, c, hc => by
    unfold parts at hp
    by_cases h : d = 44
    · rw [if_pos h] at hp
      rcases List.mem_cons.1 hp with rfl | hp
      · exact .inl hc
      · rcases parts_mem l [] p hp c hc with h | h
        · cases h
        · exact .inr (List.mem_cons_of_mem _ h)
    · rw [if_neg h] at hp
      rcases parts_mem l _ p hp c hc with h | h
      · rcases List.mem_append.1 h with h | h
        · exact .inl h
        · have : c = d := by simpa using h
          subst this
          exact .inr (List.mem_cons_self ..)
      · exact .inr (List.mem_cons_of_mem _ h)
theorem parts_comma : ∀ (l a p : List UInt8), (∀ c ∈ a, c ≠ 44) → p ∈ parts a l → ∀ c ∈ p, c ≠ 44
  | [], a, p, ha, hp, c, hc => by
    have : p = a := by simpa [parts] using hp
    subst this
    exact ha c hc
  | d :: l, a, p, ha, hp, c, hc => by
    unfold parts at hp
    by_cases h : d = 44
    · rw [if_pos h] at hp
      rcases List.mem_cons.1 hp with rfl | hp
      · exact ha c hc
      · exact parts_comma l [] p (fun _ h => by cases h) hp c hc
    · rw [if_neg h] at hp
      refine parts_comma l _ p (fun e he => ?_) hp c hc
      rcases List.mem_append.1 he with he | he
      · exact ha e he
      · have : e = d := by simpa using he
        subst this
        exact h
theorem items_mem {l p : List UInt8} (h : p ∈ items l) : some? p = true ∧ ∃ r, r ∈ parts [] l ∧ p = trim r := by
  obtain ⟨h1, h2⟩ := List.mem_filter.1 h
  obtain ⟨r, hr, e⟩ := List.mem_map.1 h1
  exact ⟨h2, r, hr, e.symm⟩
theorem items_comma {l p : List UInt8} (h : p ∈ items l) : ∀ c ∈ p, c ≠ 44 := by
  obtain ⟨_, r, hr, rfl⟩ := items_mem h
  intro c hc
  exact parts_comma l [] r (fun _ h => by cases h) hr c (trim_mem hc)
theorem allT_mem {f : Int → Bool} {l : List UInt8} : allT f l = true ↔ ∀ c ∈ l, f (c.toNat : Int) = true := by
  unfold allT
  exact List.all_eq_true
theorem items_val {l p : List UInt8} (hv : isVal l = true) (h : p ∈ items l) : isVal p = true := by
  obtain ⟨_, r, hr, rfl⟩ := items_mem h
  have ha : allT valB l = true := by unfold isVal at hv; exact (Bool.and_eq_true_iff.1 hv).2
  unfold isVal
  rw [trim_idem, beq_self_eq_true, Bool.true_and]
  refine allT_mem.2 fun c hc => ?_
  rcases parts_mem l [] r hr c (trim_mem hc) with h | h
  · cases h
  · exact allT_mem.1 ha c h
/-- a backslash ahead of each byte -/
def esc : List UInt8 → List UInt8
  | [] => []
  | c :: l => 92 :: c :: esc l
theorem esc_snoc : ∀ (l : List UInt8) (c : UInt8), esc (l ++ [c]) = esc l ++ [92, c]
  | [], c => rfl
  | d :: l, c => by
    show 92 :: d :: esc (l ++ [c]) = 92 :: d :: (esc l ++ [92, c])
    rw [esc_snoc l c]
theorem esc_length : ∀ l : List UInt8, (esc l).length = 2 * l.length
  | [] => rfl
  | c :: l => by
    show (esc l).length + 1 + 1 = 2 * (l.length + 1)
    rw [esc_length l]
    omega
theorem qr_esc : ∀ (l acc : List UInt8), allT valB l = true → qr acc (esc l ++ [34]) = some (acc ++ l)
  | [], acc, _ => by rw [List.append_nil]; exact qr_end acc
  | c :: l, acc, h => by
    rw [allT_cons] at h
    obtain ⟨h1, h2⟩ := Bool.and_eq_true_iff.1 h
    show qr acc (92 :: c :: (esc l ++ [34])) = _
    rw [qr_back, if_pos h1, qr_esc l _ h2, List.append_assoc]
    rfl
theorem quoted_esc {l : List UInt8} (h : allT valB l = true) : quotedS (34 :: (esc l ++ [34])) = l ∧ quotedE (34 :: (esc l ++ [34])) = 0 := by
  refine qs_some ?_
  rw [quoted_cons, if_pos rfl, qr_esc l [] h, List.nil_append]
end Tp
end Go.Proofs.YtlefgkiembokeaaDoor
