/- ChunkHolds returns true for any two slices of bytes and any number: the walk. The tables of the library read as they are laid. -/
import Derived.Test.YtlefgkiembokeaaDoorCkB
import Derived.Test.YtlefgkiembokeaaDoorCkD
import Derived.Test.YtlefgkiembokeaaDoorCkG
import Derived.Deep.Cut
import Derived.Deep.DeepCutAuto
namespace Go.Proofs.YtlefgkiembokeaaDoor
set_option linter.unusedVariables false
set_option linter.unusedSimpArgs false
open Go.RowKit Go.Shelf
set_option maxHeartbeats 2000000
/-- what the slots of the two chunks hold -/
def ChF (va vb : Value) (A B : List UInt8) : Nat → World → Value → Prop
  | 0, _, v => v = va
  | 1, w, v => BRows w v [A]
  | 2, w, v => BRow w v (enc A)
  | 3, _, v => v = .string ⟨(enc A).toArray⟩
  | 4, _, v => v = vb
  | 5, w, v => BRows w v [B]
  | 6, w, v => BRow w v (enc B)
  | 7, _, v => v = .string ⟨(enc B).toArray⟩
  | 8, _, v => v = .string ⟨(enc A).toArray⟩
  | 9, _, v => v = .string ⟨(enc B).toArray⟩
  | _, _, _ => False
theorem ChF.below {va vb : Value} {A B : List UInt8} (i : Nat) (w w' : World) (v : Value) (h : ChF va vb A B i w v) (hb : Below w.heap.size w w') : ChF va vb A B i w' v := by
  match i, h with
  | 0, h => exact h
  | 1, h => exact BRows.below h hb
  | 2, h => exact BRow.below h hb
  | 3, h => exact h
  | 4, h => exact h
  | 5, h => exact BRows.below h hb
  | 6, h => exact BRow.below h hb
  | 7, h => exact h
  | 8, h => exact h
  | 9, h => exact h
  | n + 10, h => exact h
def chSlot (i : Nat) : Nat := ([22, 23, 24, 25, 26, 27, 28, 29, 7, 8] : List Nat).getD i 22
theorem chSlot_lt (i : Nat) : chSlot i < 137 := by
  unfold chSlot
  match i with
  | 0 | 1 | 2 | 3 | 4 | 5 | 6 | 7 | 8 | 9 => decide
  | n + 10 => simp
theorem chSlot_inj : ∀ i, i < 10 → ∀ j, j < 10 → chSlot i = chSlot j → i = j := by decide
theorem pien_ex (len M : Nat) (h : 1 ≤ M) : ∃ N, PieN len M N := by
  refine ⟨(len + M - 1) / M, fun k => ?_⟩
  rw [show k < (len + M - 1) / M ↔ k + 1 ≤ (len + M - 1) / M from Iff.rfl, Nat.le_div_iff_mul_le (by omega), Nat.add_mul]
  omega
set_option maxRecDepth 100000 in
theorem walkCH (a : Option Addr) (la ca : Nat) (za : List Int) (b : Option Addr) (lb cb : Nat) (zb : List Int) (n : Int) (w : World) (ha : IsBytes .u8 w a la ca za) (hb : IsBytes .u8 w b lb cb zb) (hn : (Lit.int .i64 n).wf = true) (ht : Tabs w) :
    Calls Tryd.prog 7 #[.slice a la ca, .slice b lb cb, .int .i64 n] w fun e w' => e = .returned (.bool true) ∧ Below w.heap.size w w' := by
  have WK := Lib.hid (fun W (h : Tabs W) => law16_works W h)
  have HT := Lib.hid ht
  have hnn : -9223372036854775808 ≤ n ∧ n ≤ 9223372036854775807 := by simpa [Lit.wf, IntKind.min, IntKind.max, IntKind.signed, IntKind.bits] using hn
  obtain ⟨A, hA, hAl⟩ := ha.brow
  obtain ⟨B, hB, hBl⟩ := hb.brow
  have HA := Lib.hid hA
  have HB := Lib.hid hB
  have HAL := Lib.hid hAl
  have HBL := Lib.hid hBl
  have HN := Lib.hid hnn
  clear ha hb hn ht hA hB hnn hAl hBl
  by_cases hla : la ≤ 300
  · by_cases hlb : lb ≤ 300
    · go_enter Tryd.func7, Tryd.ntmps7
      go_wp2_with fail
      refine region_slots chSlot (ChF (.slice a la ca) (.slice b lb cb) A B) (by kernel_rfl) (by kernel_rfl) chSlot_lt (fun i j hi hj => chSlot_inj i hi j hj) ChF.below ?dst ?step ?done
      case dst =>
        intro i o ho
        match i, ho with
        | 0, ho | 1, ho | 2, ho | 3, ho | 4, ho | 5, ho | 6, ho | 7, ho | 8, ho | 9, ho => cases ho; rfl
        | n + 10, ho => exact absurd ho (by simp)
      case step =>
        intro f a' W i o ho hpre hbel hrest
        have KA := fun v h => Lib.hid (ck_encode v [A] W h (by have := HAL.out; simp [cat]; omega) (by simp) (HT.out.below hbel))
        have KB := fun v h => Lib.hid (ck_encode v [B] W h (by have := HBL.out; simp [cat]; omega) (by simp) (HT.out.below hbel))
        match i, ho with
        | 0, ho => cases ho; exact st_move 0 (.slice a la ca) rfl (hrest 0 (by decide)) rfl
        | 1, ho => cases ho; exact st_build1 22 a la ca rfl (hpre { on := 0, ground := .data } (by simp) rfl) (brows_one (HA.out.below hbel) rfl)
        | 2, ho => 
          cases ho
          have p0 : BRows W (a'.tmps.getD 23 undef) [A] := (hpre { on := 1, ground := .data } (by simp) rfl)
          exact st_call 23 37 _ _ rfl rfl (enters_of Tryd.func37 (by kernel_rfl) rfl) ((KA _ p0).out.mono fun e w1 ⟨r, he, hr, hb⟩ => ⟨r, he, (by rw [show cat [A] = A by simp [cat]] at hr; exact hr), hb⟩)
        | 3, ho => cases ho; exact st_conv 24 _ _ _ _ rfl rfl (conv_brow (l := enc A) (hpre { on := 2, ground := .data } (by simp) rfl)) rfl
        | 4, ho => cases ho; exact st_move 1 (.slice b lb cb) rfl (hrest 1 (by decide)) rfl
        | 5, ho => cases ho; exact st_build1 26 b lb cb rfl (hpre { on := 4, ground := .data } (by simp) rfl) (brows_one (HB.out.below hbel) rfl)
        | 6, ho => 
          cases ho
          have p0 : BRows W (a'.tmps.getD 27 undef) [B] := (hpre { on := 5, ground := .data } (by simp) rfl)
          exact st_call 27 37 _ _ rfl rfl (enters_of Tryd.func37 (by kernel_rfl) rfl) ((KB _ p0).out.mono fun e w1 ⟨r, he, hr, hb⟩ => ⟨r, he, (by rw [show cat [B] = B by simp [cat]] at hr; exact hr), hb⟩)
        | 7, ho => cases ho; exact st_conv 28 _ _ _ _ rfl rfl (conv_brow (l := enc B) (hpre { on := 6, ground := .data } (by simp) rfl)) rfl
        | 8, ho => cases ho; exact st_assign 25 _ rfl (hpre { on := 3, ground := .data } (by simp) rfl) rfl
        | 9, ho => cases ho; exact st_assign 29 _ rfl (hpre { on := 7, ground := .data } (by simp) rfl) rfl
        | n + 10, ho => exact absurd ho (by simp)
      case done =>
        intro vs W hbel hvs
        have e8 : vs 8 = .string ⟨(enc A).toArray⟩ := hvs 8 (by decide)
        have e9 : vs 9 = .string ⟨(enc B).toArray⟩ := hvs 9 (by decide)
        have HW := Lib.hid hbel
        clear hvs hbel
        obtain ⟨X, hX⟩ : ∃ X, enc A = X := ⟨_, rfl⟩
        obtain ⟨Y, hY⟩ : ∃ Y, enc B = Y := ⟨_, rfl⟩
        have HX := Lib.hid hX
        have HY := Lib.hid hY
        rw [hX] at e8
        rw [hY] at e9
        clear hX hY
        simp only [fillN, List.size_toArray, List.length_cons, List.length_nil, Nat.reduceAdd, show List.range 10 = [0, 1, 2, 3, 4, 5, 6, 7, 8, 9] from rfl, List.foldl_cons, List.foldl_nil, show chSlot 0 = 22 from rfl, show chSlot 1 = 23 from rfl, show chSlot 2 = 24 from rfl, show chSlot 3 = 25 from rfl, show chSlot 4 = 26 from rfl, show chSlot 5 = 27 from rfl, show chSlot 6 = 28 from rfl, show chSlot 7 = 29 from rfl, show chSlot 8 = 7 from rfl, show chSlot 9 = 8 from rfl, e8, e9]
        obtain ⟨u0, hu⟩ : ∃ u, vs 0 = u := ⟨_, rfl⟩
        rw [hu]
        clear hu
        have hSA : ∀ Z : World, Below W.heap.size W Z → (convert 41 9 (.slice a la ca)).run Tryd.prog Z = .ok (.string ⟨A.toArray⟩) Z := fun Z hz => conv_brow ((HA.out.below HW.out).below hz)
        have HSA := Lib.hid hSA
        have cva := hSA W (Below.refl _ _)
        have cvb : (convert 41 9 (.slice b lb cb)).run Tryd.prog W = .ok (.string ⟨B.toArray⟩) W := conv_brow (HB.out.below HW.out)
        clear hSA
        go_simp
        go_upto_region 4 with (fail)
        go_cut [71] (fun s71 wx => s71 = .bool false ∧ wx = W)
        case first =>
          by_cases hAB : A = B
          · subst hAB
            have hxy : X = Y := by rw [← HX.out, HY.out]
            subst hxy
            go_wp2_with fail
            all_goals (go_meet; exact ⟨rfl, rfl⟩)
          · have hne : (A == B) = false := by simpa using hAB
            have h1 := HAL.out
            have h2 := HBL.out
            by_cases h0a : 0 < la
            · by_cases h0b : 0 < lb
              · have hpb := enc_pre (A := A) (B := B) (by omega) (by omega) (by intro h; rw [h] at h1; simp at h1; omega) (by intro h; rw [h] at h2; simp at h2; omega) hAB
                rw [HX.out, HY.out] at hpb
                clear h1 h2 hAB
                go_wp2_with fail
                all_goals go_meet
                all_goals (first | exact ⟨rfl, rfl⟩ | (exfalso; simp_all))
              · obtain rfl : lb = 0 := by omega
                clear h1 h2 hAB
                go_wp2_with fail
                all_goals (go_meet; exact ⟨rfl, rfl⟩)
            · obtain rfl : la = 0 := by omega
              clear h1 h2 hAB
              go_wp2_with fail
              all_goals (go_meet; exact ⟨rfl, rfl⟩)
        case rest =>
          obtain ⟨rfl, rfl⟩ := hcut
          clear cva cvb HX HY
          have HTW : Hid (Tabs wc) := Lib.hid (HT.out.below HW.out)
          by_cases hn1 : n < 1
          · go_wp2_with fail
            refine (ck_cut_wrong _ n _ hn1).mono ?_
            rintro e w2 ⟨rfl, hb2⟩
            have HB2 := Lib.hid hb2
            clear hb2
            go_wp2_with fail
            refine (ck_num 2 _).mono ?_
            rintro e w3 ⟨rfl, rfl⟩
            go_wp2_with fail
            refine (WK.out _ (HTW.out.below HB2.out)).mono ?_
            rintro e w4 ⟨rfl, hb4⟩
            have HB4 := Lib.hid hb4
            clear hb4
            go_wp2
            go_ret
            exact ⟨rfl, (HW.out.trans (HB2.out.mono HW.out.size)).trans (HB4.out.mono (Nat.le_trans HW.out.size HB2.out.size))⟩
          · obtain ⟨M, hM⟩ : ∃ M : Nat, min n ((la : Int) + 1) = M := ⟨(min n ((la : Int) + 1)).toNat, by omega⟩
            obtain ⟨N, hN⟩ := pien_ex la M (by omega)
            have HM := Lib.hid hM
            have HPN := Lib.hid hN
            have hNb := pien_bound hN (by omega) hla
            have HCUT := Lib.hid (ck_cut a la ca M N A n wc (HA.out.below HW.out) (by omega) hn1 hM hN)
            clear hM hN
            go_wp2_with fail
            refine HCUT.out.mono ?_
            rintro e w2 ⟨r, rfl, hr, hb2⟩
            have HB2 := Lib.hid hb2
            have cva2 := HSA.out w2 hb2
            obtain ⟨p, c, rfl, hc, hrr⟩ := hr
            have hpl := pies_len M N A
            rw [hpl] at hc hrr ⊢
            have HRR := Lib.hid hrr
            clear hb2 hc hrr hpl
            go_wp2_with fail
            refine (ck_num 0 _).mono ?_
            rintro e w3 ⟨rfl, rfl⟩
            go_wp2_with fail
            go_loopw [11, 12] (fun s i wr => ∃ k : Nat, k ≤ N ∧ i = .int .i64 k ∧ s = .string ⟨(cat ((pies M N A).take k)).toArray⟩ ∧ wr = w3) (fun _ i _ => N - (intOf i).toNat)
            case atStart => exact ⟨0, Nat.zero_le _, rfl, rfl, rfl⟩
            case round =>
              obtain ⟨k, hk, rfl, rfl, rfl⟩ := hrel
              obtain ⟨T, hT⟩ : ∃ T, cat ((pies M N A).take k) = T := ⟨_, rfl⟩
              have HTT := Lib.hid hT
              rw [hT]
              clear hT
              by_cases hlt : k < N
              · obtain ⟨g, o, rfl, hcell⟩ := HRR.out.resolve_left (fun ⟨_, h, _⟩ => by have h1 := pies_len M N A; rw [h] at h1; simp at h1; omega)
                obtain ⟨x, hx, hbx⟩ := hcell k hlt
                have hpl := pie_len (A := A) (by rw [HAL.out]; exact HPN.out) (by have := HM.out; omega) hlt
                have hct := cat_take (pies M N A) k (by rw [pies_len]; exact hlt)
                have hcl := cat_len (pies M N A) (k + 1)
                rw [pies_cat (by rw [HAL.out]; exact HPN.out), HAL.out] at hcl
                obtain ⟨P, hP⟩ : ∃ P, (pies M N A).getD k [] = P := ⟨_, rfl⟩
                rw [hP] at hbx hpl hct
                rw [HTT.out] at hct
                rw [hct, List.length_append] at hcl
                have HCT := Lib.hid hct
                have cvx := conv_brow hbx
                obtain ⟨ap, cp, rfl, _, _⟩ := hbx
                have hM := HM.out
                have hk2 := fun h => (HPN.out (k + 1)).2 h
                obtain ⟨e, he⟩ : ∃ e, P.length = e := ⟨_, rfl⟩
                rw [he] at hx cvx hpl hcl
                have HE := Lib.hid he
                have he0 : 0 < e := by omega
                have hen : (e : Int) ≤ n := by omega
                have hlast : k + 1 < N → n = e := fun h => by
                  have h1 := hpl.2.2 h
                  have h2 := hk2 h
                  rw [Nat.add_mul] at h2
                  omega
                have hTP : ¬ 9223372036854775807 < T.length + P.length := by omega
                have heb : ((e : Int) == 0) = false := by simp; omega
                have HPL := Lib.hid hpl
                clear hpl hct hk2 hM hcell hP he
                by_cases hk1 : k + 1 < N
                · have hge : n ≤ (e : Int) := by have := hlast hk1; omega
                  have hnb : ((e : Int) == n) = true := by have := hlast hk1; simp; omega
                  clear hlast
                  go_wp2_with fail
                  all_goals (first
                    | exact ⟨⟨k + 1, by omega, by go_num, by rw [bytes_app, HCT.out], trivial⟩, by simp [intOf]; omega⟩
                    | exact ⟨⟨_, _, _, ⟨k + 1, by omega, rfl, rfl⟩, rfl, by rw [bytes_app, HCT.out], by go_num⟩, by simp [intOf]; omega⟩
                    | (refine ⟨?rel, ?measure⟩; case measure => (simp [intOf]; omega); case rel => (repeat (first | refine Exists.intro _ ?_); trace_state; sorry))
                    | (exfalso; omega)
                    | (exfalso; rename_i hq _; rcases hq with hq | hq; · { rw [heb] at hq; cases hq }; · omega)
                    | (exfalso; simp_all; done)
                    | (exfalso; simp_all; omega)
                    | (trace_state; sorry))
                · clear hlast
                  go_wp2_with fail
                  all_goals (first
                    | exact ⟨⟨k + 1, by omega, by go_num, by rw [bytes_app, HCT.out], trivial⟩, by simp [intOf]; omega⟩
                    | exact ⟨⟨_, _, _, ⟨k + 1, by omega, rfl, rfl⟩, rfl, by rw [bytes_app, HCT.out], by go_num⟩, by simp [intOf]; omega⟩
                    | (refine ⟨?rel, ?measure⟩; case measure => (simp [intOf]; omega); case rel => (repeat (first | refine Exists.intro _ ?_); trace_state; sorry))
                    | (exfalso; omega)
                    | (exfalso; rename_i hq _; rcases hq with hq | hq; · { rw [heb] at hq; cases hq }; · omega)
                    | (exfalso; simp_all; done)
                    | (exfalso; simp_all; omega)
                    | (trace_state; sorry))
              · obtain rfl : k = N := by omega
                have hTA : T = A := by
                  rw [← HTT.out, List.take_of_length_le (by rw [pies_len]; exact Nat.le_refl _), pies_cat (by rw [HAL.out]; exact HPN.out)]
                subst hTA
                go_wp2_with fail
                refine (WK.out _ (HTW.out.below HB2.out)).mono ?_
                rintro e w4 ⟨rfl, hb4⟩
                have HB4 := Lib.hid hb4
                clear hb4
                go_wp2
                go_ret
                exact ⟨rfl, (HW.out.trans (HB2.out.mono HW.out.size)).trans (HB4.out.mono (Nat.le_trans HW.out.size HB2.out.size))⟩
    · go_enter Tryd.func7, Tryd.ntmps7
      go_wp2_with fail
      refine (WK.out _ HT.out).mono ?_
      rintro e w1 ⟨rfl, hb1⟩
      go_wp2
      go_ret
      exact ⟨rfl, hb1⟩
  · go_enter Tryd.func7, Tryd.ntmps7
    go_wp2_with fail
    refine (WK.out _ HT.out).mono ?_
    rintro e w1 ⟨rfl, hb1⟩
    go_wp2
    go_ret
    exact ⟨rfl, hb1⟩
end Go.Proofs.YtlefgkiembokeaaDoor
