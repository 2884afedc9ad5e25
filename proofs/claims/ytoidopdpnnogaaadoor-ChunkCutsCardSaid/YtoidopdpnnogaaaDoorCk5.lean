/- The program's chunks: Encode, Last. -/
import Derived.Test.YtoidopdpnnogaaaDoorCk3
import Derived.Test.YtoidopdpnnogaaaDoorCk4
import Derived.Lib.ConvBytes
namespace Go.Proofs.YtoidopdpnnogaaaDoor
set_option linter.unusedVariables false
set_option linter.unusedSimpArgs false
open Go.RowKit Go.Shelf
set_option maxHeartbeats 2000000
theorem brow_world (w : World) (s : ByteArray) (cap : Nat) (hc : s.size ≤ cap) (B : Nat) (hB : B = w.heap.size) : BRow (Lib.bytesWorld w 5 s) (.slice (some ⟨B, 0, none⟩) s.size cap) s.data.toList :=
  ⟨_, cap, rfl, hc, .inr ⟨B, 0, rfl, fun j hj => bytes_bytesWorld_at w 5 s B hB j hj⟩⟩
theorem brows_one {w : World} {x : Value} {l : List UInt8} {B : Nat} (h : BRow w x l) (hB : B = w.heap.size) : BRows (w.alloc (.cells #[x] 22)) (.slice (some ⟨B, 0, none⟩) 1 1) [l] := by
  subst hB
  refine ⟨_, 1, rfl, Nat.le_refl _, .inr ⟨w.heap.size, 0, rfl, fun k hk => ?_⟩⟩
  obtain rfl : k = 0 := by simpa using hk
  exact ⟨x, (Boxed.new w _ _).cell, h.below ((Below.refl _ w).alloc (Nat.le_refl _) _)⟩
theorem brows_none (w : World) : BRows w (.slice none 0 0) [] := ⟨none, 0, rfl, Nat.le_refl _, .inl ⟨rfl, rfl, rfl⟩⟩
set_option maxRecDepth 100000 in
theorem ck_encode (v : Value) (L : List (List UInt8)) (w : World) (h : BRows w v L) (hl : (cat L).length ≤ 100000) (hL : L.length ≤ 900) (ht : Tabs w) :
    Calls Tryd.prog 50 #[v] w fun e w' => ∃ r, e = .returned r ∧ BRow w' r (enc (cat L)) ∧ Below w.heap.size w w' := by
  have K := Lib.hid (ck_concat v L w h (by omega) (by omega))
  have HT := Lib.hid ht
  obtain ⟨l, hll⟩ : ∃ l, cat L = l := ⟨_, rfl⟩
  rw [hll] at K hl ⊢
  clear h hL ht hll
  have hcv := fun (W : World) (s : ByteArray) => Lib.run_convert_string_bytes (P := Tryd.prog) W 9 22 5 s Tryd.underlying9 Tryd.underlying22 Tryd.underlying5
  go_enter Tryd.func50, Tryd.ntmps50
  go_wp2_with fail
  refine K.out.mono ?_
  rintro e w1 ⟨r, rfl, hr, hb1⟩
  have HR := Lib.hid hr
  have HB1 := Lib.hid hb1
  obtain ⟨ao, cap, rfl, _, _⟩ := hr
  clear hb1
  by_cases h0 : l = []
  · have HE : Hid (enc l = []) := Lib.hid (if_pos h0)
    subst h0
    rw [show ([] : List UInt8).length = 0 from rfl] at HR ⊢
    go_wp2_with fail
    go_ret
    exact ⟨_, rfl, by rw [HE.out]; exact BRow.nil _, HB1.out⟩
  · obtain ⟨n, hn⟩ : ∃ n, l.length = n := ⟨_, rfl⟩
    have hn0 : 0 < n := by rw [← hn]; exact List.length_pos_iff.2 h0
    have hne : ((n : Int) == 0) = false := beq_eq_false_iff_ne.2 (by omega)
    rw [hn] at HR hl ⊢
    have HH := Lib.hid (fun W (h : Tabs W) => dec_hex n W (by omega) h)
    obtain ⟨s, hs⟩ : ∃ s : ByteArray, (⟨(Dp.digs 16 n).toArray⟩ : ByteArray) = s := ⟨_, rfl⟩
    have hsl : s.data.toList = Dp.digs 16 n := by rw [← hs]
    have hss : s.size ≤ 16 := by
      have := Dp.digs_length_le (b := 16) (by omega) 16 n (by omega) (by omega)
      rw [← hsl] at this
      exact this
    rw [hs] at HH
    have HE : Hid (enc l = s.data.toList ++ [13, 10] ++ l ++ [13, 10]) := Lib.hid (by unfold enc; rw [if_neg h0, hn, hsl])
    have HS0 : Hid (s.data.toList ≠ []) := Lib.hid (by rw [hsl]; exact Dp.digs_ne 16 n)
    have HN := Lib.hid hn
    have H0 := Lib.hid h0
    clear hs hsl hn h0
    obtain ⟨B, hB⟩ : ∃ B, w1.heap.size = B := ⟨_, rfl⟩
    obtain ⟨W2, hW2⟩ : ∃ W2, w1.alloc (.cells #[.slice none 0 0] 142) = W2 := ⟨_, rfl⟩
    have HBW : Hid (Below w.heap.size w W2) := Lib.hid (by rw [← hW2]; exact HB1.out.alloc HB1.out.size _)
    have HBB : Hid (w.heap.size ≤ B) := Lib.hid (by rw [← hB]; exact HB1.out.size)
    have HBU : Hid (BufAt W2 B 142 (.slice none 0 0)) := Lib.hid (by rw [← hW2, ← hB]; exact Boxed.new _ _ _)
    have HR2 : Hid (BRow W2 (.slice ao n cap) l) := Lib.hid (by rw [← hW2]; exact HR.out.below ((Below.refl _ _).alloc (Nat.le_refl _) _))
    clear HR
    go_wp2_with fail
    clear hB hW2
    refine (HH.out W2 (HT.out.below HBW.out)).mono ?_
    rintro e w3 ⟨rfl, hb3⟩
    have HB3 := Lib.hid hb3
    clear hb3
    go_wp2_with fail
    obtain ⟨D, hD⟩ : ∃ D, w3.heap.size = D := ⟨_, rfl⟩
    obtain ⟨cp, hcp⟩ : ∃ c, grownCap w3 s.size 0 5 = c := ⟨_, rfl⟩
    obtain ⟨W4, hW4⟩ : ∃ W4, Lib.bytesWorld w3 5 s = W4 := ⟨_, rfl⟩
    have HS4 : Hid (BRow W4 (.slice (some ⟨D, 0, none⟩) s.size cp) s.data.toList) := Lib.hid (by
      rw [← hW4, ← hcp]
      exact brow_world w3 s _ (grownCap_ge _ _ _ _) D hD.symm)
    have HB4 : Hid (Below W2.heap.size W2 W4) := Lib.hid (by
      rw [← hW4]
      exact HB3.out.trans ((below_bytesWorld w3.heap.size w3 5 s (Nat.le_refl _)).mono HB3.out.size))
    rw [hD, hcp, hW4]
    clear hD hcp hW4
    obtain ⟨G, hG⟩ : ∃ G, W4.heap.size = G := ⟨_, rfl⟩
    obtain ⟨W5, hW5⟩ : ∃ W5, W4.alloc (.cells #[.slice (some ⟨D, 0, none⟩) s.size cp] 22) = W5 := ⟨_, rfl⟩
    have HP5 : Hid (BRows W5 (.slice (some ⟨G, 0, none⟩) 1 1) [s.data.toList]) := Lib.hid (by rw [← hW5]; exact brows_one HS4.out hG.symm)
    have HB5 : Hid (Below W2.heap.size W2 W5) := Lib.hid (by rw [← hW5]; exact HB4.out.alloc HB4.out.size _)
    rw [hG, hW5]
    clear hG hW5
    have hKlt : B < W2.heap.size := lt_of_cell HBU.out.cell
    have C1 := Lib.hid (ck_line B 142 (.slice none 0 0) (.slice (some ⟨G, 0, none⟩) 1 1) [] [s.data.toList] W5 ((HB5.out.block B hKlt).trans HBU.out) (BRow.nil _) HP5.out (fun p hp => by rw [List.mem_singleton.1 hp]; exact HS0.out) (by have : s.data.toList.length = s.size := rfl; show 0 + (s.data.toList ++ []).length ≤ _; rw [List.append_nil]; omega) (by simp))
    go_wp2_with fail
    refine C1.out.mono ?_
    rintro e w6 ⟨rfl, v6, hbu6, hrow6, hgr6⟩
    have HBU6 := Lib.hid hbu6
    have HROW6 := Lib.hid hrow6
    have HGR6 := Lib.hid hgr6
    clear hbu6 hrow6 hgr6
    have HR6 : Hid (BRow w6 (.slice ao n cap) l) := Lib.hid ((HR2.out.below HB5.out).grown ((HB5.out.block B hKlt).trans HBU.out) (fun k m e => by cases e) HGR6.out)
    have HB6 : Hid (Below w.heap.size w w6) := Lib.hid ((HBW.out.trans (HB5.out.mono HBW.out.size)).grown HGR6.out ((HBW.out.trans (HB5.out.mono HBW.out.size)).size) (fun k e => by cases e; exact HBB.out))
    obtain ⟨M, hM⟩ : ∃ M, w6.heap.size = M := ⟨_, rfl⟩
    obtain ⟨W7, hW7⟩ : ∃ W7, w6.alloc (.cells #[.slice ao n cap] 22) = W7 := ⟨_, rfl⟩
    have HP7 : Hid (BRows W7 (.slice (some ⟨M, 0, none⟩) 1 1) [l]) := Lib.hid (by rw [← hW7]; exact brows_one HR6.out hM.symm)
    have HB7 : Hid (Below w6.heap.size w6 W7) := Lib.hid (by rw [← hW7]; exact (Below.refl _ _).alloc (Nat.le_refl _) _)
    have hK6 : B < w6.heap.size := lt_of_cell HBU6.out.cell
    have C2 := Lib.hid (ck_line B 142 v6 (.slice (some ⟨M, 0, none⟩) 1 1) _ [l] W7 ((HB7.out.block B hK6).trans HBU6.out) (HROW6.out.below HB7.out) HP7.out (fun p hp => by rw [List.mem_singleton.1 hp]; exact H0.out) (by
      have h1 : s.data.toList.length = s.size := rfl
      have h2 := HN.out
      show ([] ++ cat [s.data.toList] ++ [13, 10]).length + (l ++ []).length ≤ _
      simp only [cat, List.flatten_cons, List.flatten_nil, List.append_nil, List.nil_append, List.length_append, List.length_cons, List.length_nil]
      omega) (by simp))
    go_wp2_with fail
    clear hM hW7
    refine C2.out.mono ?_
    rintro e w8 ⟨rfl, v8, hbu8, hrow8, hgr8⟩
    have c8 := hbu8.cell
    have HROW8 := Lib.hid hrow8
    have HGR8 := Lib.hid hgr8
    clear hbu8 hrow8 hgr8
    go_wp2
    go_ret
    refine ⟨_, rfl, ?_, (HB6.out.trans (HB7.out.mono HB6.out.size)).grown HGR8.out ((HB6.out.trans (HB7.out.mono HB6.out.size)).size) (fun k e => by cases e; exact HBB.out)⟩
    have h := HROW8.out
    have e1 : [] ++ cat [s.data.toList] ++ [13, 10] ++ cat [l] ++ [13, 10] = enc l := by
      rw [HE.out]
      simp [cat]
    rw [e1] at h
    exact h
end Go.Proofs.YtoidopdpnnogaaaDoor
