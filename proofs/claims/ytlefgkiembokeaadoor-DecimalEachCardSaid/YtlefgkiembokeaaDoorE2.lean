/- DecimalEach returns true for any number of 64 bits and any count: the walk. The tables of the library read as they are laid. -/
import Derived.Test.YtlefgkiembokeaaDoorEd
import Derived.Test.YtlefgkiembokeaaDoorDu
import Derived.Test.YtlefgkiembokeaaDoorDwk
import Derived.Test.YtlefgkiembokeaaDoorDs
namespace Go.Proofs.YtlefgkiembokeaaDoor
set_option linter.unusedVariables false
set_option linter.unusedSimpArgs false
open Go.RowKit Go.Shelf
attribute [local go_sem] Oper.semAt_some
set_option maxHeartbeats 1000000
theorem dec_each (u : Int) (w : World) :
    Calls Tryd.prog 44 #[.int .u64 u] w fun e w' => e = .returned (.func (.func 84) #[] #[.pointer (some ⟨w.heap.size, 0, none⟩)]) ∧ w' = w.alloc (.cells #[.int .u64 u] 23) := by
  go_enter Tryd.func44, Tryd.ntmps44
  go_wp2
  go_ret
  exact ⟨rfl, rfl⟩
theorem run_max_i64 (ts : Array TypeId) (t : TypeId) (a b : Int) (w : World) : (Builtin.max_ ts t #[.int .i64 a, .int .i64 b]).run Tryd.prog w = .ok (.int .i64 (if b > a then b else a)) w := by
  simp [Builtin.max_, Builtin.max2, go_sem]
theorem run_min_i64 (ts : Array TypeId) (t : TypeId) (a b : Int) (w : World) : (Builtin.min_ ts t #[.int .i64 a, .int .i64 b]).run Tryd.prog w = .ok (.int .i64 (if b < a then b else a)) w := by
  simp [Builtin.min_, Builtin.min2, go_sem]
theorem dec_index_at (u : ByteArray) (w : World) (k : Nat) (h : k < u.size) : (Instr.index 9 (.string u) (.int .i64 (k : Int))).run Tryd.prog w = .ok (.int .u8 ((u[k]).toNat : Int)) w := by
  have hi : (0 : Int) ≤ (k : Int) ∧ (k : Int) < u.size := by omega
  rw [run_index_string w 9 u .i64 _ Tryd.underlying9, dif_pos hi]
  simp only [Int.toNat_natCast]
theorem each_nil (fn : Fn) (f c : Array Value) (W : World) : (binOp BinOp.eql 50 (.func fn f c) .nilFunc).run Tryd.prog W = .ok (.bool false) W := by kernel_rfl
/-- what stays through a turn of the law: the boxes -/
structure EB (w W : World) (many u : Int) (S : ByteArray) (B : Nat) : Prop where
  hb : Below w.heap.size w W
  hB : w.heap.size = B
  m : Boxed W B 3 (.int .i64 many)
  r : Boxed W (B + 1) 4 (.bool false)
  s : Boxed W (B + 1 + 1) 9 (.string S)
  u : Boxed W (B + 1 + 1 + 1) 23 (.int .u64 u)
theorem EB.alloc {w W : World} {many u : Int} {S : ByteArray} {B : Nat} (h : EB w W many u S B) (o : Obj) : EB w (W.alloc o) many u S B :=
  ⟨h.hb.alloc h.hb.size _, h.hB, h.m.alloc _, h.r.alloc _, h.s.alloc _, h.u.alloc _⟩
theorem EB.turn {w W W' : World} {many u : Int} {S : ByteArray} {B E : Nat} {own : Nat → Prop} (h : EB w W many u S B) (ht : Turn E own W W') (hE : B + 4 ≤ E) (ho : ∀ b, own b → B + 4 ≤ b) : EB w W' many u S B :=
  ⟨h.hb.trans (ht.below (by have := h.hB; omega) h.hb.size (fun b hb => by have := ho b hb; have := h.hB; omega)), h.hB, ht.boxed h.m (fun hb => by have := ho _ hb; omega), ht.boxed h.r (fun hb => by have := ho _ hb; omega), ht.boxed h.s (fun hb => by have := ho _ hb; omega), ht.boxed h.u (fun hb => by have := ho _ hb; omega)⟩
theorem EB.set {w W : World} {many u : Int} {S : ByteArray} {B b : Nat} (h : EB w W many u S B) (hb : B + 4 ≤ b) (v : Value) : EB w (W.setCell ⟨b, 0, none⟩ v) many u S B :=
  ⟨h.hb.setCell (p := ⟨b, 0, none⟩) (by have := h.hB; show _ ≤ b; omega) v, h.hB, h.m.other (by omega) v, h.r.other (by omega) v, h.s.other (by omega) v, h.u.other (by omega) v⟩
set_option maxRecDepth 100000 in
theorem walkDE (a m : Int) (w : World) (ha : (Lit.int .u64 a).wf = true) (hm : (Lit.int .i64 m).wf = true) (ht : Tabs w) :
    Calls Tryd.prog 8 #[.int .u64 a, .int .i64 m] w fun e w' => e = .returned (.bool true) ∧ Below w.heap.size w w' := by
  have HT := Lib.hid ht
  have hU := u64_wf ha
  clear ht ha
  obtain ⟨u, rfl⟩ : ∃ u : Nat, a = u := ⟨a.toNat, by unfold Dp.U at hU; omega⟩
  have hu : u < 18446744073709551616 := by unfold Dp.U at hU; omega
  have K1 := Lib.hid (fun W => ref_text u hu W)
  obtain ⟨S, hS⟩ : ∃ S : ByteArray, ⟨(Dp.digs 10 u).toArray⟩ = S := ⟨_, rfl⟩
  obtain ⟨N, hN⟩ : ∃ N, (Dp.digs 10 u).length = N := ⟨_, rfl⟩
  have hNS : S.size = N := by rw [← hS, ← hN]; rfl
  have hDN := Dp.digs_digN u hu
  rw [hN] at hDN
  rw [hS] at K1
  have HB := Lib.hid (fun k hk h => Dp.dig_byte (k := k) hS hN hk h)
  have HDN := Lib.hid hDN
  have HSZ := Lib.hid hNS
  clear hS hN hU hDN hNS
  have hnil := each_nil
  refine callsIn_wide.1 (callsIn_of_wp_marks (F := Fence.wide) (n := 9) Tryd.func8 rfl trivial ?_ rfl)
  simp only [Tryd.ntmps8, List.size_toArray, List.length_cons, List.length_nil, Nat.reduceAdd, Nat.reduceSub, Array.replicate_succ, Array.replicate_zero, List.push_toArray, List.append_toArray, List.nil_append, List.cons_append]
  gi_wp2_with fail
  refine ⟨trivial, (callsIn_wide.2 (K1.out _)).mono ?_⟩
  rintro e w' ⟨rfl, rfl⟩
  gi_wp2_with fail
  refine ⟨trivial, (callsIn_wide.2 (dec_each _ _)).mono ?_⟩
  rintro e w' ⟨rfl, rfl⟩
  gi_wp2_with fail
  obtain ⟨B, hB⟩ : ∃ B, w.heap.size = B := ⟨_, rfl⟩
  obtain ⟨W0, hW0⟩ : ∃ W0, ((((w.alloc (.cells #[.int .i64 m] 3)).alloc (.cells #[.bool false] 4)).alloc (.cells #[.string S] 9)).alloc (.cells #[.int .u64 (u : Int)] 23)).alloc (.cells #[.int .i64 0] 3) = W0 := ⟨_, rfl⟩
  have e0 : EB w W0 m u S B ∧ Boxed W0 (B + 1 + 1 + 1 + 1) 3 (.int .i64 0) := by
    subst hW0
    have b1 := Boxed.new w 3 (.int .i64 m)
    have b2 := Boxed.new (w.alloc (.cells #[.int .i64 m] 3)) 4 (.bool false)
    have b3 := Boxed.new ((w.alloc (.cells #[.int .i64 m] 3)).alloc (.cells #[.bool false] 4)) 9 (.string S)
    have b4 := Boxed.new (((w.alloc (.cells #[.int .i64 m] 3)).alloc (.cells #[.bool false] 4)).alloc (.cells #[.string S] 9)) 23 (.int .u64 (u : Int))
    have b5 := Boxed.new ((((w.alloc (.cells #[.int .i64 m] 3)).alloc (.cells #[.bool false] 4)).alloc (.cells #[.string S] 9)).alloc (.cells #[.int .u64 (u : Int)] 23)) 3 (.int .i64 0)
    simp only [World.size_alloc, hB] at b1 b2 b3 b4 b5
    exact ⟨⟨((((((Below.refl _ w).alloc (Nat.le_refl _) _).alloc (by simp) _).alloc (by simp; omega) _).alloc (by simp; omega) _).alloc (by simp; omega) _), hB,
      (((b1.alloc _).alloc _).alloc _).alloc _, ((b2.alloc _).alloc _).alloc _, (b3.alloc _).alloc _, b4.alloc _⟩, b5⟩
  rw [hB, hW0]
  obtain ⟨T, hT⟩ : ∃ T, B + 1 + 1 + 1 + 1 = T := ⟨_, rfl⟩
  rw [hT] at e0 ⊢
  have hTB : B + 4 ≤ T := by omega
  clear hT hW0 hB
  obtain ⟨E0, bT⟩ := e0
  refine wpIn_loop_rounds 3 ?_
  rw [roundsIn_succ]
  have hz : T < W0.heap.size := bT.lt
  have c7 := bT.cell
  obtain ⟨W1, hW1⟩ : ∃ W1, W0.alloc (.cells #[.int .i64 0] 3) = W1 := ⟨_, rfl⟩
  have E1 : EB w W1 m u S B := by rw [← hW1]; exact E0.alloc _
  have bT1 : Boxed W1 T 3 (.int .i64 0) := by rw [← hW1]; exact bT.alloc _
  have bn1 : Boxed W1 W0.heap.size 3 (.int .i64 0) := by rw [← hW1]; exact Boxed.new _ _ _
  obtain ⟨C, hC⟩ : ∃ C, W0.heap.size = C := ⟨_, rfl⟩
  have hs1 : W1.heap.size = C + 1 := by rw [← hW1, ← hC]; simp
  rw [hC] at bn1 hz
  have HW1 := Lib.hid hW1
  have HC := Lib.hid hC
  clear hW1 hC
  gi_wp2_with fail
  rw [HW1.out, HC.out]
  have hTC : T < C := by have := bT.lt; have := HC.out; omega
  clear c7
  refine rf_break (id := 2) (N := N) (own := fun b => C + 3 ≤ b ∧ b < C + 5) (Kp := Keep (fun b => C + 3 ≤ b ∧ b < C + 5)) (encs := fun k => #[.int .i64 k, .int .u8 (((u / 10 ^ k : Nat) : Int) % 10)]) rfl (by omega) (gf := 84) (lb := #[.pointer (some ⟨B + 1 + 1 + 1, 0, none⟩)]) rfl trivial (enters_of Tryd.func84 (by kernel_rfl) rfl)
    (fun _ => rfl) (fun b hb => by omega)
    (fun X hX hs => (each1_it u N (B + 1 + 1 + 1) (C + 3) _ (fun _ _ h => h) HDN.out hu X (by omega) ((hX.block _ (by omega)).trans E1.u)).any _)
    Keep.trans (fun X o o' h2 h3 => Keep.putObj _ _ _ (by omega))
    (fun k X => EB w X m u S B ∧ Boxed X T 3 (.int .i64 0) ∧ Boxed X C 3 (.int .i64 (k : Int)) ∧ (1 ≤ k → (k : Int) < m))
    (fun X => ∃ k : Nat, 1 ≤ k ∧ k ≤ N ∧ (k = N ∨ m ≤ (k : Int)) ∧ (2 ≤ k → (k : Int) - 1 < m) ∧ EB w X m u S B ∧ Boxed X T 3 (.int .i64 0) ∧ Boxed X C 3 (.int .i64 (k : Int)))
    (fun k X Y hs ht => ⟨hs.1.turn ht (by omega) (fun b hb => by omega), ht.boxed hs.2.1 (by omega), ht.boxed hs.2.2.1 (by omega), hs.2.2.2⟩)
    (fun X Y hs ht => by
      obtain ⟨k, h2, h3, h4, h5, h6, h7, h8⟩ := hs
      exact ⟨k, h2, h3, h4, h5, h6.turn ht (by omega) (fun b hb => by omega), ht.boxed h7 (by omega), ht.boxed h8 (by omega)⟩)
    ⟨E1, bT1, bn1, by omega⟩
    (fun k b _ => b = { tmps := #[.int .u64 (u : Int), .int .i64 m, undef, .pointer (some ⟨B, 0, none⟩), .pointer (some ⟨B + 1, 0, none⟩), .pointer (some ⟨B + 1 + 1, 0, none⟩), .func (.func 84) #[] #[.pointer (some ⟨B + 1 + 1 + 1, 0, none⟩)], .pointer (some ⟨T, 0, none⟩), .pointer (some ⟨C, 0, none⟩), .int .i64 (k : Int), .int .u8 (((u / 10 ^ k : Nat) : Int) % 10), .int .u64 (u : Int), .string S, .int .u64 (u : Int), .func (.func 84) #[] #[.pointer (some ⟨B + 1 + 1 + 1, 0, none⟩)], .func (.func 84) #[] #[.pointer (some ⟨B + 1 + 1 + 1, 0, none⟩)], .bool false, .int .i64 0, .bool true, undef, undef, .func (.func 84) #[] #[.pointer (some ⟨B + 1 + 1 + 1, 0, none⟩)], .int .i64 (k : Int), .int .u8 (((u / 10 ^ k : Nat) : Int) % 10), undef, undef, undef, undef, undef, undef, undef, undef, undef, undef, undef, undef, undef, undef, undef, undef, undef, undef, undef, undef, undef, undef, undef, undef, undef, undef, undef, undef, undef, undef, undef, undef, undef, undef, undef, undef, undef, undef, undef, undef, undef, undef, undef, undef, undef, undef, undef, undef, undef, undef, undef, undef, undef, undef, undef, undef, undef], defers := [] })
    (fun _ _ _ _ hs _ => hs) ?assign ?body ?all ?fin
  case assign =>
    intro l' k X K hk hi hK
    gi_wp2
    exact hK _ _ (KeepsFrom.refl _ _) (fun _ _ => rfl) hi rfl
  case body =>
    rintro l' k b X hl' ⟨r, hr⟩ hk ⟨E2, bT2, bn2, hkm⟩ rfl
    have cn := bn2.cell
    have fn := bn2.frozen
    have cT := bT2.cell
    have cs := E2.s.cell
    have cm := E2.m.cell
    have cr := E2.r.cell
    have fr := E2.r.frozen
    have HBk := HB.out k hk
    have h20 := HDN.out.2.1
    obtain ⟨d, hd⟩ : ∃ d : Int, (((u / 10 ^ k : Nat) : Int) % 10) = d := ⟨_, rfl⟩
    have hd0 : 0 ≤ d := by rw [← hd]; omega
    have hd9 : d ≤ 9 := by rw [← hd]; omega
    rw [hd] at HBk ⊢
    clear hd
    have HE2 := Lib.hid E2
    have HbT2 := Lib.hid bT2
    have Hbn2 := Lib.hid bn2
    have HKM := Lib.hid hkm
    clear E2 bT2 bn2 hkm
    have hix : ∀ W, (Instr.index 9 (.string S) (.int .i64 ((N : Int) - 1 - (k : Int)))).run Tryd.prog W = .ok (.int .u8 (48 + d)) W := fun W => by
      have h1 : N - 1 - k < S.size := by have := HSZ.out; omega
      have e1 : ((N : Int) - 1 - (k : Int)) = ((N - 1 - k : Nat) : Int) := by omega
      rw [e1, ← HBk h1]
      exact dec_index_at S W _ h1
    have hsz := HSZ.out
    clear HBk
    gi_wp2
    · have h1 : m ≤ (k : Int) + 1 := by assumption
      exact ⟨(KeepsOthers.setCell _ _ _).from _, rfl, k + 1, by omega, by omega, .inr (by omega), fun h => by have := HKM.out (by omega); omega, HE2.out.set (by omega) _, HbT2.out.other (by omega) _, Hbn2.out.set _⟩
    · have h1 : (k : Int) + 1 < m := by assumption
      exact ⟨(KeepsOthers.setCell _ _ _).from _, fun b hb => Below.heap_setCell _ _ _ _ (by show b ≠ C; omega), HE2.out.set (by omega) _, HbT2.out.other (by omega) _, Hbn2.out.set _, fun _ => by omega⟩
  case all =>
    rintro X ⟨h1, h2, h3, h4⟩
    exact ⟨N, HDN.out.1, Nat.le_refl _, .inl rfl, fun h => by have := h4 (by omega); omega, h1, h2, h3⟩
  case fin =>
    rintro D1 X hD1 ⟨k, hk1, hkN, hkm, hkl, E2, bT2, bn2⟩ hK1
    have cn := bn2.cell
    have cT := bT2.cell
    have fT := bT2.frozen
    have cs := E2.s.cell
    have cm := E2.m.cell
    have HE2 := Lib.hid E2
    have HbT2 := Lib.hid bT2
    have HK1 := Lib.hid hK1
    have Hbn2 := Lib.hid bn2
    have hsz := HSZ.out
    obtain ⟨mx, hmx, hmi⟩ : ∃ mx : Int, (∀ W, (Builtin.max_ #[3, 3] 3 #[.int .i64 1, .int .i64 m]).run Tryd.prog W = .ok (.int .i64 mx) W) ∧ (∀ W, (Builtin.min_ #[3, 3] 3 #[.int .i64 (N : Int), .int .i64 mx]).run Tryd.prog W = .ok (.int .i64 (k : Int)) W) := by
      refine ⟨if m > 1 then m else 1, fun W => run_max_i64 _ _ _ _ W, fun W => ?_⟩
      rw [run_min_i64]
      congr 2
      split <;> split <;> omega
    clear E2 bT2 bn2 hkm hK1 hkl
    gi_wp2_with fail
    rw [roundsIn_succ]
    obtain ⟨T2, hT2⟩ : ∃ T2, X.heap.size = T2 := ⟨_, rfl⟩
    obtain ⟨W2, hW2⟩ : ∃ W2, X.alloc (.cells #[.int .i64 1] 3) = W2 := ⟨_, rfl⟩
    obtain ⟨W3, hW3⟩ : ∃ W3, W2.alloc (.cells #[.int .i64 0] 3) = W3 := ⟨_, rfl⟩
    have hCX : C < X.heap.size := by have := Hbn2.out.lt; omega
    have E3 : EB w W3 m u S B := by rw [← hW3, ← hW2]; exact (HE2.out.alloc _).alloc _
    have bT3 : Boxed W3 T2 3 (.int .i64 1) := by rw [← hW3, ← hW2, ← hT2]; exact (Boxed.new _ _ _).alloc _
    obtain ⟨C2, hC2⟩ : ∃ C2, W2.heap.size = C2 := ⟨_, rfl⟩
    have hTC2 : C2 = T2 + 1 := by rw [← hC2, ← hW2, ← hT2]; simp
    have bn3 : Boxed W3 C2 3 (.int .i64 0) := by rw [← hW3, ← hC2]; exact Boxed.new _ _ _
    have hs3 : W3.heap.size = C2 + 1 := by rw [← hW3, ← hC2]; simp
    have hD1s : D1 < T2 := by rw [← hT2]; exact (Array.getElem?_eq_some_iff.1 HK1.out).1
    have K3 : W3.heap[D1]? = some (.deferred (some [])) := by
      rw [← hW3, ← hW2]
      exact (Below.heap_alloc _ _ _ (by simp; omega)).trans ((Below.heap_alloc _ _ _ (by omega)).trans HK1.out)
    have cT2 : W2.cell? ⟨T2, 0, none⟩ = some (.int .i64 1) := by rw [← hW2, ← hT2]; exact (Boxed.new _ _ _).cell
    have cT2b : (W2.alloc (.cells #[.int .i64 0] 3)).cell? ⟨T2, 0, none⟩ = some (.int .i64 1) := by rw [hW3]; exact bT3.cell
    rw [hT2, hW2]
    have HW3 := Lib.hid hW3
    have HC2 := Lib.hid hC2
    have HTC2 := Lib.hid hTC2
    have hTT : T < T2 := by omega
    clear hW3 hC2 hT2 hW2 hTC2 cn cT fT cs cm
    gi_wp2_with fail
    rw [HW3.out, HC2.out]
    have hTC2 : T2 < C2 := by have := HTC2.out; omega
    clear cT2 cT2b
    refine rf_break (id := 2) (N := N) (own := fun b => C2 + 3 ≤ b ∧ b < C2 + 5) (Kp := Keep (fun b => C2 + 3 ≤ b ∧ b < C2 + 5)) (encs := fun i => #[.int .i64 i, .int .u8 (((u / 10 ^ i : Nat) : Int) % 10)]) rfl (by omega) (gf := 84) (lb := #[.pointer (some ⟨B + 1 + 1 + 1, 0, none⟩)]) rfl trivial (enters_of Tryd.func84 (by kernel_rfl) rfl)
      (fun _ => rfl) (fun b hb => by omega)
      (fun Y hY hs => (each1_it u N (B + 1 + 1 + 1) (C2 + 3) _ (fun _ _ h => h) HDN.out hu Y (by omega) ((hY.block _ (by omega)).trans E3.u)).any _)
      Keep.trans (fun Y o o' h2 h3 => Keep.putObj _ _ _ (by omega))
      (fun i Y => EB w Y m u S B ∧ Boxed Y T2 3 (.int .i64 1) ∧ Boxed Y C2 3 (.int .i64 (i : Int)) ∧ Y.heap[D1]? = some (.deferred (some [])))
      (fun Y => EB w Y m u S B ∧ Boxed Y T2 3 (.int .i64 1) ∧ Boxed Y C2 3 (.int .i64 (N : Int)) ∧ Y.heap[D1]? = some (.deferred (some [])))
      (fun i Y Z hs ht => ⟨hs.1.turn ht (by omega) (fun b hb => by omega), ht.boxed hs.2.1 (by omega), ht.boxed hs.2.2.1 (by omega), ht.low hs.2.2.2 (by omega) (by omega)⟩)
      (fun Y Z hs ht => ⟨hs.1.turn ht (by omega) (fun b hb => by omega), ht.boxed hs.2.1 (by omega), ht.boxed hs.2.2.1 (by omega), ht.low hs.2.2.2 (by omega) (by omega)⟩)
      ⟨E3, bT3, bn3, K3⟩
      (fun i b _ => b = { tmps := #[.int .u64 (u : Int), .int .i64 m, undef, .pointer (some ⟨B, 0, none⟩), .pointer (some ⟨B + 1, 0, none⟩), .pointer (some ⟨B + 1 + 1, 0, none⟩), .func (.func 84) #[] #[.pointer (some ⟨B + 1 + 1 + 1, 0, none⟩)], .pointer (some ⟨T2, 0, none⟩), .pointer (some ⟨C2, 0, none⟩), .int .i64 (i : Int), .int .u8 (((u / 10 ^ i : Nat) : Int) % 10), .int .u64 (u : Int), .string S, .int .u64 (u : Int), .func (.func 84) #[] #[.pointer (some ⟨B + 1 + 1 + 1, 0, none⟩)], .func (.func 84) #[] #[.pointer (some ⟨B + 1 + 1 + 1, 0, none⟩)], .bool false, .int .i64 1, .bool true, .int .i64 0, .int .i64 1, .func (.func 84) #[] #[.pointer (some ⟨B + 1 + 1 + 1, 0, none⟩)], .int .i64 (i : Int), .int .u8 (((u / 10 ^ i : Nat) : Int) % 10), undef, undef, undef, undef, undef, undef, undef, undef, undef, undef, undef, undef, undef, undef, undef, undef, undef, undef, undef, undef, undef, undef, undef, undef, undef, undef, undef, undef, undef, undef, undef, undef, undef, undef, .int .i64 0, .bool true, .bool true, .int .i64 (k : Int), .string S, .int .i64 (N : Int), .int .i64 m, .int .i64 mx, .int .i64 (k : Int), .bool false, .bool false, .bool false, .int .i64 0, .bool false, .bool false, undef, undef, undef, undef, .bool false, .bool false, .int .i64 0, undef], defers := [] })
      (fun _ _ _ _ hs _ => hs) ?assign2 ?body2 ?all2 ?fin2
    case assign2 =>
      intro l' i Y K hk hi hK
      gi_wp2
      exact hK _ _ (KeepsFrom.refl _ _) (fun _ _ => rfl) hi rfl
    case body2 =>
      rintro l' i b Y hl' ⟨r, hr⟩ hk ⟨E4, bT4, bn4, K4⟩ rfl
      have cn := bn4.cell
      have fn := bn4.frozen
      have cT := bT4.cell
      have cs := E4.s.cell
      have cm := E4.m.cell
      have cr := E4.r.cell
      have fr := E4.r.frozen
      have HBk := HB.out i hk
      have h20 := HDN.out.2.1
      obtain ⟨d, hd⟩ : ∃ d : Int, (((u / 10 ^ i : Nat) : Int) % 10) = d := ⟨_, rfl⟩
      have hd0 : 0 ≤ d := by rw [← hd]; omega
      have hd9 : d ≤ 9 := by rw [← hd]; omega
      rw [hd] at HBk ⊢
      clear hd
      have HE4 := Lib.hid E4
      have HbT4 := Lib.hid bT4
      have Hbn4 := Lib.hid bn4
      have HK4 := Lib.hid K4
      clear E4 bT4 bn4 K4 hmx hmi
      have hix : ∀ W, (Instr.index 9 (.string S) (.int .i64 ((N : Int) - 1 - (i : Int)))).run Tryd.prog W = .ok (.int .u8 (48 + d)) W := fun W => by
        have h1 : N - 1 - i < S.size := by have := HSZ.out; omega
        have e1 : ((N : Int) - 1 - (i : Int)) = ((N - 1 - i : Nat) : Int) := by omega
        rw [e1, ← HBk h1]
        exact dec_index_at S W _ h1
      clear HBk
      gi_wp2
      exact ⟨(KeepsOthers.setCell _ _ _).from _, fun b hb => Below.heap_setCell _ _ _ _ (by show b ≠ C2; omega), HE4.out.set (by omega) _, HbT4.out.other (by omega) _, Hbn4.out.set _, (Below.heap_setCell _ _ _ _ (by show D1 ≠ C2; omega)).trans HK4.out⟩
    case all2 =>
      rintro Y ⟨h1, h2, h3, h4⟩
      exact ⟨h1, h2, h3, h4⟩
    case fin2 =>
      rintro D2 Y hD2 ⟨E5, bT5, bn5, K5⟩ hK2
      have cn := bn5.cell
      have cT := bT5.cell
      have cs := E5.s.cell
      have cm := E5.m.cell
      have HE5 := Lib.hid E5
      have HK5 := Lib.hid K5
      have HK2 := Lib.hid hK2
      clear E5 bT5 bn5 K5 hK2 hmx hmi
      gi_wp2_with fail
      rw [roundsIn_succ]
      obtain ⟨Z, hZ⟩ : ∃ Z, Y.alloc (.cells #[.int .i64 2] 3) = Z := ⟨_, rfl⟩
      obtain ⟨T3, hT3⟩ : ∃ T3, Y.heap.size = T3 := ⟨_, rfl⟩
      have cZ : Z.cell? ⟨T3, 0, none⟩ = some (.int .i64 2) := by rw [← hZ, ← hT3]; exact (Boxed.new _ _ _).cell
      have E6 : EB w Z m u S B := by rw [← hZ]; exact HE5.out.alloc _
      have K6 : Z.heap[D1]? = some (.deferred (some [])) := by rw [← hZ]; exact (Below.heap_alloc _ _ _ (Array.getElem?_eq_some_iff.1 HK5.out).1).trans HK5.out
      have K7 : Z.heap[D2]? = some (.deferred (some [])) := by rw [← hZ]; exact (Below.heap_alloc _ _ _ (Array.getElem?_eq_some_iff.1 HK2.out).1).trans HK2.out
      rw [hT3, hZ]
      have HE6 := Lib.hid E6
      have HK6 := Lib.hid K6
      have HK7 := Lib.hid K7
      have WK := Lib.hid (law01_works Z (HT.out.below E6.hb))
      clear hT3 hZ E6 K6 K7 cn cT cs cm
      gi_wp2_with fail
      refine ⟨trivial, (callsIn_wide.2 WK.out).mono ?_⟩
      rintro e V ⟨rfl, hbV⟩
      have bR : Boxed V (B + 1) 4 (.bool false) := (hbV.block _ HE6.out.r.lt).trans HE6.out.r
      have K8 : V.heap[D1]? = some (.deferred (some [])) := (hbV.block _ (Array.getElem?_eq_some_iff.1 HK6.out).1).trans HK6.out
      have K9 : V.heap[D2]? = some (.deferred (some [])) := (hbV.block _ (Array.getElem?_eq_some_iff.1 HK7.out).1).trans HK7.out
      have bV := HE6.out.hb.trans (hbV.mono HE6.out.hb.size)
      have cR := bR.cell
      have fR := bR.frozen
      have HK8 := Lib.hid K8
      have HK9 := Lib.hid K9
      have HbR := Lib.hid bR
      have HbV := Lib.hid bV
      clear bR K8 K9 bV hbV
      gi_wp2
      have hBw := HE6.out.hB
      have d2 : B + 1 < D2 := by omega
      have d1 : B + 1 < D1 := by omega
      have d12 : D1 ≠ D2 := by omega
      have L9 : (V.setCell ⟨B + 1, 0, none⟩ (.bool true)).heap[D2]? = some (.deferred (some [])) := (Below.heap_setCell _ _ _ _ (by show D2 ≠ B + 1; omega)).trans HK9.out
      have L8 : ((V.setCell ⟨B + 1, 0, none⟩ (.bool true)).putObj D2 (.deferred none)).heap[D1]? = some (.deferred (some [])) := (World.putObj_heap_other d12).trans ((Below.heap_setCell _ _ _ _ (by show D1 ≠ B + 1; omega)).trans HK8.out)
      have L0 : Boxed (((V.setCell ⟨B + 1, 0, none⟩ (.bool true)).putObj D2 (.deferred none)).putObj D1 (.deferred none)) (B + 1) 4 (.bool true) := (World.putObj_heap_other (by omega)).trans ((World.putObj_heap_other (by omega)).trans (HbR.out.set _))
      have c0 := L0.cell
      refine ⟨by simp, .inl ⟨_, _, rfl, run_takeDeferred L9, ?_⟩⟩
      refine ⟨by simp, .inl ⟨_, _, rfl, run_takeDeferred L8, ?_⟩⟩
      refine ⟨.bool true, ?_, rfl, ?_⟩
      · simp [results, Tryd.results8, go_sem, c0]
      · refine (HbV.out.setCell (p := ⟨B + 1, 0, none⟩) (by show w.heap.size ≤ B + 1; omega) _).trans ((belowK_b (w := w) (Nat.le_refl _) _ D2 _ _ (by omega) L9 rfl rfl).trans (belowK_b (w := w) (Nat.le_refl _) _ D1 _ _ (by omega) L8 rfl rfl))
end Go.Proofs.YtlefgkiembokeaaDoor
