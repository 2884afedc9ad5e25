/- A line of a chunk: the parts, and the bytes with which lines end. -/
import Derived.Test.YtoidopdpnnogaaaDoorCk2
namespace Go.Proofs.YtoidopdpnnogaaaDoor
set_option linter.unusedVariables false
set_option linter.unusedSimpArgs false
open Go.RowKit Go.Shelf
set_option maxHeartbeats 2000000
theorem info8s : (Tryd.prog.info? 22).map (fun i => (i.zero, i.size, i.bytes)) = some (some (.slice none 0 0), 1, 24) := by kernel_rfl
theorem brows_vals {w : World} {L : List (List UInt8)} {g o n : Nat} (hn : L.length = n) (h : ∀ k, k < n → ∃ x, w.cell? ⟨g, o + k, none⟩ = some x ∧ BRow w x (L.getD k [])) :
    ∃ xs : List Value, xs.length = n ∧ ∀ k, k < n → w.cell? ⟨g, o + k, none⟩ = some (xs.getD k (.slice none 0 0)) ∧ BRow w (xs.getD k (.slice none 0 0)) (L.getD k []) := by
  refine ⟨(List.range n).map fun k => if hk : k < n then Classical.choose (h k hk) else .slice none 0 0, by simp, fun k hk => ?_⟩
  have e : ((List.range n).map fun k => if hk : k < n then Classical.choose (h k hk) else .slice none 0 0).getD k (.slice none 0 0) = Classical.choose (h k hk) := by
    rw [List.getD_eq_getElem?_getD, List.getElem?_map, List.getElem?_range hk]
    simp [hk]
  rw [e]
  exact Classical.choose_spec (h k hk)
/-- what a slice of slices of the call's own owns -/
theorem brows_own {w : World} {base n : Nat} {v : Value} {xs : List Value} {L : List (List UInt8)} (h : w.ownsRow base 22 1 v n xs) (hn : L.length = n) (hx : ∀ k, k < n → BRow w (xs.getD k (.slice none 0 0)) (L.getD k [])) : BRows w v L := by
  subst hn
  rcases h.2 with ⟨rfl, h0⟩ | ⟨g, cap, cur, rfl, hb, hg, hn, hm, hs, ht⟩
  · have : L = [] := List.length_eq_zero_iff.1 h0
    subst this
    exact ⟨none, 0, rfl, Nat.le_refl _, .inl ⟨rfl, rfl, rfl⟩⟩
  · refine ⟨_, cap, rfl, hn, .inr ⟨g, 0, rfl, fun k hk => ⟨_, ?_, hx k hk⟩⟩⟩
    rw [Nat.zero_add]
    unfold World.cell?
    rw [show (⟨g, k, none⟩ : Addr).block = g from rfl, hg]
    show (if (none : Option _).isSome then none else cur[k]?) = _
    have h1 : (cur.toList.take (L.length * 1))[k]? = xs[k]? := by rw [ht]
    rw [List.getElem?_take_of_lt (by omega)] at h1
    have hlt : k < xs.length := by rw [h.1]; omega
    rw [if_neg (by simp), ← Array.getElem?_toList, h1, List.getD_eq_getElem?_getD, List.getElem?_eq_getElem hlt]
    rfl
theorem cell_one_any (w : World) (x : Value) {t : TypeId} (j : Nat) (u : Value) (hj : [x][j]? = some u) : (w.alloc (.cells #[x] t)).cell? ((⟨w.heap.size, 0, none⟩ : Addr).add j) = some u := by
  match j, hj with
  | 0, hj =>
    obtain rfl : x = u := by simpa using hj
    exact (Boxed.new w t x).cell
set_option maxRecDepth 100000 in
theorem ck_line (K : Nat) (T : TypeId) (v pv : Value) (acc : List UInt8) (L : List (List UInt8)) (w : World) (hK : BufAt w K T v) (hv : BRow w v acc) (hp : BRows w pv L)
    (hne : ∀ p ∈ L, p ≠ []) (hl : acc.length + (cat L).length ≤ 900000) (hL : L.length ≤ 900) :
    Calls Tryd.prog 85 #[.pointer (some ⟨K, 0, none⟩), pv] w fun e w' => e = .returned (.tuple #[]) ∧ ∃ v', BufAt w' K T v' ∧ BRow w' v' (acc ++ cat L ++ [13, 10]) ∧ w.grownBy w' (some K) := by
  obtain ⟨i0, hi, hz0, hz1, hz2⟩ := info_parts info8s
  have HK0 := Lib.hid hK
  have HV0 := Lib.hid hv
  have HNE := Lib.hid hne
  have HL := Lib.hid hl
  have hKlt : K < w.heap.size := lt_of_cell hK.cell
  obtain ⟨p, c, rfl, hc, h⟩ := hp
  obtain ⟨n, hn⟩ : ∃ n, L.length = n := ⟨_, rfl⟩
  rw [hn] at h hL hc ⊢
  have HN := Lib.hid hn
  clear hK hv hne hl
  have KEY : ∀ (w1 : World) (w2 : World) (b E : Nat) (xs : List Value) (v2 : Value), Below w.heap.size w w1 → w.heap.size ≤ b → BRow w1 (.slice (some ⟨E, 0, none⟩) 2 2) [13, 10] → xs.length = n → (∀ k, k < n → BRow w1 (xs.getD k (.slice none 0 0)) (L.getD k [])) →
      w2.ownsRow b 22 1 v2 (n + 1) (xs ++ [.slice (some ⟨E, 0, none⟩) 2 2]) → w1.grownBy w2 none →
      Calls Tryd.prog 108 #[.pointer (some ⟨K, 0, none⟩), v2] w2 fun e w' => e = .returned (.tuple #[]) ∧ ∃ v', BufAt w' K T v' ∧ BRow w' v' (acc ++ cat L ++ [13, 10]) ∧ w.grownBy w' (some K) := by
    intro w1 w2 b E xs v2 hb1 hbb hE hxl hxs hown hgw
    have hw2 : Below w.heap.size w w2 := hb1.grown hgw hb1.size (fun _ e => by cases e)
    have hw12 : Below w1.heap.size w1 w2 := ⟨hgw.os, hgw.tape, hgw.output, hgw.size, fun k hk => hgw.block k hk (by simp)⟩
    have hc1 : cat (L ++ [[13, 10]]) = cat L ++ [13, 10] := by unfold cat; simp
    have hrows : BRows w2 v2 (L ++ [[13, 10]]) := by
      refine brows_own hown (by rw [List.length_append, HN.out]; rfl) (fun k hk => ?_)
      by_cases hk1 : k < n
      · rw [List.getD_eq_getElem?_getD, List.getElem?_append_left (by omega), List.getD_eq_getElem?_getD, List.getElem?_append_left (by rw [HN.out]; exact hk1)]
        have := (hxs k hk1).below hw12
        rwa [List.getD_eq_getElem?_getD, List.getD_eq_getElem?_getD] at this
      · obtain rfl : k = n := by omega
        rw [List.getD_eq_getElem?_getD, List.getElem?_append_right (by omega), List.getD_eq_getElem?_getD, List.getElem?_append_right (by rw [HN.out]; exact Nat.le_refl _), hxl, HN.out, Nat.sub_self]
        exact hE.below hw12
    obtain ⟨g3, cap3, rfl⟩ := own_form hown (by omega)
    have hg3 : b ≤ g3 := own8_ge hown g3 rfl
    refine (ck_put K T v (.slice (some ⟨g3, 0, none⟩) (n + 1) cap3) acc (L ++ [[13, 10]]) w2 ((hw2.block K hKlt).trans HK0.out) (HV0.out.below hw2) hrows (fun p m c e => by cases e; show g3 ≠ K; omega) ?_ ?_ ?_).mono ?_
    · intro x hx
      rcases List.mem_append.1 hx with hx | hx
      · exact HNE.out x hx
      · have : x = [13, 10] := by simpa using hx
        rw [this]; simp
    · have := HL.out
      rw [hc1, List.length_append]
      show _ + (_ + 2) ≤ _
      omega
    · rw [List.length_append, HN.out]; show n + 1 ≤ _; omega
    · rintro e w' ⟨he, v', h1, h2, h3⟩
      exact ⟨he, v', h1, by rw [List.append_assoc, ← hc1]; exact h2, grownBy_trans ⟨hw2.os, hw2.tape, hw2.output, hw2.size, fun k hk _ => hw2.block k hk⟩ h3⟩
  have HKEY := Lib.hid KEY
  clear KEY
  go_enter Tryd.func85, Tryd.ntmps85
  go_wp2_with fail
  refine (ck_ends _).mono ?_
  rintro e w1 ⟨rfl, hb1⟩
  have HB1 := Lib.hid hb1
  clear hb1
  go_wp2_with fail
  obtain ⟨E, hE⟩ : ∃ E, w1.heap.size = E := ⟨_, rfl⟩
  obtain ⟨W2, hW2⟩ : ∃ W2, w1.alloc (.cells #[.int .u8 13, .int .u8 10] 144) = W2 := ⟨_, rfl⟩
  have HBW : Hid (Below w.heap.size w W2) := Lib.hid (by rw [← hW2]; exact HB1.out.alloc HB1.out.size _)
  have HE : Hid (BRow W2 (.slice (some ⟨E, 0, none⟩) 2 2) [13, 10]) := Lib.hid (by
    refine ⟨_, 2, rfl, Nat.le_refl _, .inr ⟨E, 0, rfl, fun j hj => ?_⟩⟩
    rw [← hW2, ← hE, Nat.zero_add]
    rw [World.cell?_alloc_new]
    match j, hj with
    | 0, _ => rfl
    | 1, _ => rfl
    | n + 2, h => exact absurd h (by simp))
  have H2 := Lib.hid (fun (h : ∃ g o, p = some ⟨g, o, none⟩ ∧ ∀ k, k < n → ∃ x, w.cell? ⟨g, o + k, none⟩ = some x ∧ BRow w x (L.getD k [])) => h)
  rw [hE, hW2]
  rcases h with ⟨rfl, hL0, rfl⟩ | ⟨g, o, rfl, hcell⟩
  · have hn0 : n = 0 := by rw [← HN.out, hL0]; rfl
    subst hn0
    obtain ⟨XS, hXS⟩ : ∃ XS : List Value, [] = XS := ⟨_, rfl⟩
    have HXL : Hid (XS.length = 0) := Lib.hid (by rw [← hXS]; rfl)
    have HXS : Hid (∀ k, k < 0 → BRow W2 (XS.getD k (.slice none 0 0)) (L.getD k [])) := Lib.hid (fun k hk => absurd hk (by omega))
    clear hL0 hXS hE hW2 hc H2
    go_region_law (first | (refine step_append_grows rfl (.tmp 14) (.tmp 16) 24 rfl 22 i0 (.slice none 0 0) 1 24 Tryd.underlying24 hi hz0 hz1 hz2 rfl (by decide) none 0 0 XS (by simp [Act.eval, Act.put]) (fun _ => ⟨rfl, rfl⟩) (HXL.out.trans (Nat.mul_one _).symm) (fun b e => by cases e) ⟨_, 0, none⟩ 1 1 [.slice (some ⟨E, 0, none⟩) 2 2] (by simp [Act.eval, Act.put]) rfl (fun j u hj => cell_one_any _ _ j u hj) (fun u hu => by simp at hu; subst hu; rfl) (by omega) (by unfold maxLen; omega) (by omega) ?_; intro v2 w2 hown hgw; have HP := Lib.hid (HKEY.out _ w2 (W2.heap.size + 1) E XS v2 (by first | exact (HBW.out.drew).alloc HBW.out.size _ | exact (HBW.out.alloc HBW.out.size _).drew) (by have := HBW.out.size; omega) (HE.out.below (by first | exact (Below.refl _ W2).drew.alloc (Nat.le_refl _) _ | exact ((Below.refl _ W2).alloc (Nat.le_refl _) _).drew)) HXL.out (fun k hk => (HXS.out k hk).below (by first | exact (Below.refl _ W2).drew.alloc (Nat.le_refl _) _ | exact ((Below.refl _ W2).alloc (Nat.le_refl _) _).drew)) (by simpa using hown) hgw); clear hown hgw) | (go_simp; go_at_call 108; refine HP.out.mono ?_; rintro e w3 ⟨rfl, hpost⟩; have HPOST := Lib.hid hpost; clear hpost))
    all_goals
      go_wp2_with fail
      go_end0
      exact ⟨rfl, HPOST.out⟩
  · obtain ⟨XS, hxl, hxs⟩ := brows_vals HN.out hcell
    have HXL := Lib.hid hxl
    have HXS : Hid (∀ k, k < n → BRow W2 (XS.getD k (.slice none 0 0)) (L.getD k [])) := Lib.hid (fun k hk => ((hxs k hk).2).below HBW.out)
    have HCL : Hid (∀ j u, XS[j]? = some u → W2.cell? ((⟨g, o, none⟩ : Addr).add j) = some u) := Lib.hid (fun j u hj => by
      have hlt := (List.getElem?_eq_some_iff.1 hj).1
      have h1 := (hxs j (by omega)).1
      rw [List.getD_eq_getElem?_getD, hj] at h1
      rw [Lib.add_plain]
      exact cell_below HBW.out h1)
    have HCL2 : Hid (∀ o', ∀ j u, XS[j]? = some u → (W2.drew.alloc o').cell? ((⟨g, o, none⟩ : Addr).add j) = some u) := Lib.hid (fun o' j u hj => by
      have h1 := HCL.out j u hj
      rw [Lib.add_plain] at h1 ⊢
      exact cell_below ((Below.refl _ W2).drew.alloc (Nat.le_refl _) _) h1)
    clear hxl hxs hcell hE hW2 H2
    go_region_law (first | (refine step_append_grows rfl (.tmp 14) (.tmp 16) 24 rfl 22 i0 (.slice none 0 0) 1 24 Tryd.underlying24 hi hz0 hz1 hz2 rfl (by decide) (some ⟨g, o, none⟩) n n XS (by simp [Act.eval, Act.put]) (fun e => by cases e) (HXL.out.trans (Nat.mul_one _).symm) (fun b e => by cases e; exact HCL2.out _) ⟨_, 0, none⟩ 1 1 [.slice (some ⟨E, 0, none⟩) 2 2] (by simp [Act.eval, Act.put]) rfl (fun j u hj => cell_one_any _ _ j u hj) (fun u hu => by simp at hu; subst hu; rfl) (by omega) (by unfold maxLen; omega) (by omega) ?_; intro v2 w2 hown hgw; have HP := Lib.hid (HKEY.out _ w2 (W2.heap.size + 1) E XS v2 (by first | exact (HBW.out.drew).alloc HBW.out.size _ | exact (HBW.out.alloc HBW.out.size _).drew) (by have := HBW.out.size; omega) (HE.out.below (by first | exact (Below.refl _ W2).drew.alloc (Nat.le_refl _) _ | exact ((Below.refl _ W2).alloc (Nat.le_refl _) _).drew)) HXL.out (fun k hk => (HXS.out k hk).below (by first | exact (Below.refl _ W2).drew.alloc (Nat.le_refl _) _ | exact ((Below.refl _ W2).alloc (Nat.le_refl _) _).drew)) (by simpa using hown) hgw); clear hown hgw) | (go_simp; go_at_call 108; refine HP.out.mono ?_; rintro e w3 ⟨rfl, hpost⟩; have HPOST := Lib.hid hpost; clear hpost))
    all_goals
      go_wp2_with fail
      go_end0
      exact ⟨rfl, HPOST.out⟩
end Go.Proofs.YtoidopdpnnogaaaDoor
