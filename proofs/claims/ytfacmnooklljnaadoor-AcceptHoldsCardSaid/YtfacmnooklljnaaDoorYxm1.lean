/- Texts of this claim, one behind the other: Kit, Tp, Tw1, Tq, Tw2, Shelf, Tw3, Tw4, Tw5, Ti, Tw6, Tw7, Tw9, Tw8, TwA, Tk, Yp, Ye, Yb, G1, Yc, Yl, TwB, Tb, TwC. -/
import Derived.Test.YtfacmnooklljnaaDoorRows
import Derived.WalkKit
import Derived.WalkLawsBesides
import Derived.WalkSpells
import Derived.Outline
import Derived.OneCell
import Derived.Laws.EntriesVeiled
import Derived.WalkMore
import Derived.Lib.ConvBytes
import Derived.Lib.Hide
import Derived.Below
import Derived.Lib.SlTrimSet
import Derived.Shelf.Abstract
import Derived.Lib.IndexBytes
import Derived.Shelf.Strings.Builder1
import Derived.Shelf.Strings.Trim
import Derived.Shelf.Small.Utf8
import Derived.Shelf.Small.Strs
import Derived.Shelf.Strings.BuilderF
import Derived.Shelf.Strings.BuilderK
import Derived.Shelf.Strings.Search1
import Derived.Shelf.Strings.Search2
import Derived.Shelf.Strings.Cut
import Derived.Shelf.LaysM
import Derived.Shelf.Strings.Shaped
import Derived.Shelf.Unicode.Decode
import Derived.Shelf.Strings.Runes
import Derived.Shelf.Strings.AsciiSet
import Derived.Shelf.Unicode.DecodeSlow
import Derived.Shelf.Unicode.DecodeAny
import Derived.Shelf.Unicode.DecodeLast
import Derived.Test.YtfacmnooklljnaaDoorProg
import Derived.Shelf.Strings.SlTrimAscii
import Derived.Lib.ItoaMem
import Derived.Lib.SplitLaws
import Derived.Lib.Replace
import Derived.Deep.QuietTactic
import Derived.BigQuiet
import Derived.IntWalk
import Derived.Lib.QuietBelow
import Derived.Lib.DecodeN
import Derived.Laws.RangeString
import Derived.Laws.Runes
import Derived.Defers
import Derived.Recover
import Derived.BigCall
import Derived.DefersIn
import Derived.Deep.Cut
import Derived.Deep.DeepCutAuto
import Derived.Laws.Externs
import Derived.Lib.UnsafeStr
/- Small lemmas that the walks of this claim use: how an ending is closed, how worlds go on. No conditions but those that each lemma states. -/
namespace Go.Proofs.YtfacmnooklljnaaDoor
set_option linter.unusedVariables false
set_option linter.unusedSimpArgs false
open Go.RowKit
theorem ret_int {k : IntKind} {a b : Int} (h : a = b) : Ending.returned (.int k a) = Ending.returned (.int k b) := by rw [h]
theorem ret_bool {a b : Bool} (h : a = b) : Ending.returned (.bool a) = Ending.returned (.bool b) := by rw [h]
theorem ret_str {a b : ByteArray} (h : a = b) : Ending.returned (.string a) = Ending.returned (.string b) := by rw [h]
theorem ret_pair {k k' : IntKind} {a b c d : Int} (h : a = c) (h' : b = d) : Ending.returned (.tuple #[.int k a, .int k' b]) = Ending.returned (.tuple #[.int k c, .int k' d]) := by rw [h, h']
/-- below a heap's size: all old cells and marks read as before -/
theorem bcell {W w1 : World} (hb : Below W.heap.size W w1) : (∀ b o, b < W.heap.size → w1.cell? ⟨b, o, none⟩ = W.cell? ⟨b, o, none⟩) ∧ (∀ b o, b < W.heap.size → w1.frozen? ⟨b, o, none⟩ = W.frozen? ⟨b, o, none⟩) :=
  ⟨fun b o h => hb.cell (p := ⟨b, o, none⟩) h, fun b o h => hb.frozen (p := ⟨b, o, none⟩) h⟩
/-- a cell that holds something lies in the heap -/
theorem lt_of_cell {w : World} {b o : Nat} {v : Value} (h : w.cell? ⟨b, o, none⟩ = some v) : b < w.heap.size := by
  rcases Nat.lt_or_ge b w.heap.size with h' | h'
  · exact h'
  · simp [World.cell?, Array.getElem?_eq_none h'] at h
theorem cell_below {W w1 : World} (hb : Below W.heap.size W w1) {b o : Nat} {v : Value} (h : W.cell? ⟨b, o, none⟩ = some v) : w1.cell? ⟨b, o, none⟩ = some v :=
  (hb.cell (p := ⟨b, o, none⟩) (lt_of_cell h)).trans h
theorem take_snoc (s : ByteArray) (k : Nat) (h : k < s.size) : s.data.toList.take (k + 1) = s.data.toList.take k ++ [s[k]] := by
  rw [List.take_succ_eq_append_getElem (by simpa using h)]; rfl
theorem below_freeze (B : Nat) (w : World) (a : Addr) (n : Nat) (h : B ≤ a.block) : Below B w (w.freeze a n) := by
  unfold World.freeze
  split
  · exact Below.refl _ _
  · refine ⟨rfl, rfl, rfl, by simp, fun k hk => ?_⟩
    simp only [Array.getElem?_modify]
    rw [if_neg (by omega)]
theorem below_bytesWorld (B : Nat) (w : World) (e : TypeId) (s : ByteArray) (h : B ≤ w.heap.size) : Below B w (Lib.bytesWorld w e s) := by
  unfold Lib.bytesWorld
  exact ((Below.refl B w).drew.alloc h _).trans (below_freeze _ _ _ _ h)
/-- a row of bytes in memory -/
def Bytes (w : World) (B off : Nat) (l : List UInt8) : Prop := ∀ i, i < l.length → w.cell? ⟨B, off + i, none⟩ = some (.int .u8 (l.getD i 0).toNat)
theorem bytes_bytesWorld (w : World) (e : TypeId) (s : ByteArray) : Bytes (Lib.bytesWorld w e s) w.heap.size 0 s.data.toList := by
  intro i hi
  rw [Nat.zero_add]
  exact Lib.bytesWorld_cell w e s i (by simpa using hi)
theorem bytes_bytesWorld_at (w : World) (e : TypeId) (s : ByteArray) (B : Nat) (hB : B = w.heap.size) : Bytes (Lib.bytesWorld w e s) B 0 s.data.toList := by
  subst hB
  exact bytes_bytesWorld w e s
theorem Bytes.below {w w' : World} {B off : Nat} {l : List UInt8} (h : Bytes w B off l) (hb : Below w.heap.size w w') : Bytes w' B off l :=
  fun i hi => cell_below hb (h i hi)
/-- a jump forward to the label of the scope around it -/
def onGoto (l : Nat) (K : Act → World → Prop) (Q : Exit → Act → World → Prop) : Exit → Act → World → Prop
  | .goto l', a, w => l' = l ∧ K a w
  | e, a, w => Q e a w
section
variable {l : Nat} {K : Act → World → Prop} {Q : Exit → Act → World → Prop} {a : Act} {w : World}
@[go_sem] theorem onGoto_normal : onGoto l K Q .normal a w = Q .normal a w := rfl
@[go_sem] theorem onGoto_exit (id : Nat) : onGoto l K Q (.exit id) a w = Q (.exit id) a w := rfl
@[go_sem] theorem onGoto_ret : onGoto l K Q .ret a w = Q .ret a w := rfl
@[go_sem] theorem onGoto_panic (ch : List PanicEntry) : onGoto l K Q (.panic ch) a w = Q (.panic ch) a w := rfl
theorem onGoto_goto (h : K a w) : onGoto l K Q (.goto l) a w := ⟨rfl, h⟩
theorem wp_scope_fwd {P : Program} {c rest : Code} (l : Nat) (hl : findLabel c l = some rest) (h : c.wp P (onGoto l (fun a w => rest.wp P (Exit.noGoto Q) a w) Q) a w) : (Code.scope c).wp P Q a w := by
  intro b k cs
  obtain ⟨e, a₁, w₁, hq, harr⟩ := h b (.inScope c :: k) cs
  cases e with
  | normal => exact ⟨.normal, a₁, w₁, hq, .head step_scope (Steps.trans harr (.one step_inScope))⟩
  | exit id => exact ⟨.exit id, a₁, w₁, hq, fun k' hk => .head step_scope (harr k' (by simp [exitTo, hk]))⟩
  | goto l' =>
    obtain ⟨rfl, hK⟩ := hq
    have hs := harr (.code rest :: .inScope c :: k) (by simp [gotoIn, hl])
    obtain ⟨e, a₂, w₂, hq₂, harr₂⟩ := hK b (.inScope c :: k) cs
    cases e with
    | normal => exact ⟨.normal, a₂, w₂, hq₂, .head step_scope (Steps.trans hs (Steps.trans harr₂ (.one step_inScope)))⟩
    | exit id => exact ⟨.exit id, a₂, w₂, hq₂, fun k' hk => .head step_scope (Steps.trans hs (harr₂ k' (by simp [exitTo, hk])))⟩
    | goto _ => exact hq₂.elim
    | ret => exact ⟨_, a₂, w₂, hq₂, .of_steps (.head step_scope hs) harr₂⟩
    | panic ch => exact ⟨_, a₂, w₂, hq₂, .of_steps (.head step_scope hs) harr₂⟩
    | outgrown => exact ⟨_, a₂, w₂, hq₂, .of_steps (.head step_scope hs) harr₂⟩
  | ret => exact ⟨_, a₁, w₁, hq, .of_steps (.one step_scope) harr⟩
  | panic ch => exact ⟨_, a₁, w₁, hq, .of_steps (.one step_scope) harr⟩
  | outgrown => exact ⟨_, a₁, w₁, hq, .of_steps (.one step_scope) harr⟩
end
end Go.Proofs.YtfacmnooklljnaaDoor

/- What layer 9 (token) tells of bytes and texts, as plain functions: no program in sight. -/
namespace Go.Proofs.YtfacmnooklljnaaDoor
set_option linter.unusedVariables false
set_option linter.unusedSimpArgs false
namespace Tp
/-- the signs of a token that are no letters and no digits -/
def SG : ByteArray := ⟨#[33, 35, 36, 37, 38, 39, 42, 43, 45, 46, 94, 95, 96, 124, 126]⟩
def signB (c : Int) : Bool := SG.data.toList.any fun x => decide ((x.toNat : Int) = c)
/-- a token's byte -/
def tokB (c : Int) : Bool := decide (97 ≤ c ∧ c ≤ 122) || decide (65 ≤ c ∧ c ≤ 90) || decide (48 ≤ c ∧ c ≤ 57) || signB c
/-- a value's byte -/
def valB (c : Int) : Bool := decide (c = 9) || (decide (32 ≤ c) && decide (c ≠ 127))
def lowB (c : Int) : Int := if 65 ≤ c ∧ c ≤ 90 then c + 32 else c
def blank (c : Int) : Bool := decide (c = 9) || decide (c = 32)
def allT (f : Int → Bool) (l : List UInt8) : Bool := l.all fun c => f c.toNat
theorem allT_no {f : Int → Bool} {l : List UInt8} {k : Nat} (hk : k < l.length) (h : f (l[k].toNat : Int) = false) : allT f l = false := by
  unfold allT
  rw [List.all_eq_false]
  exact ⟨l[k], List.getElem_mem hk, by simpa using h⟩
theorem allT_snoc {f : Int → Bool} {l : List UInt8} {c : UInt8} (h : allT f l = true) (hc : f (c.toNat : Int) = true) : allT f (l ++ [c]) = true := by
  unfold allT at *
  rw [List.all_append, h]
  simpa using hc
def SGx (j : Nat) : Int := (SG.data.toList.getD j 0).toNat
theorem SG_size : SG.size = 15 := by decide
theorem SG_at (j : Nat) (h : j < SG.size) : ((SG[j]'h).toNat : Int) = SGx j := by
  unfold SGx
  rw [List.getD_eq_getElem?_getD, List.getElem?_eq_getElem (by simpa using h)]
  rfl
theorem SG_ascii (j : Nat) (h : j < SG.size) : (SG[j]'h).toNat < 128 := by
  have : ∀ x ∈ SG.data.toList, x.toNat < 128 := by decide
  exact this _ (by exact List.getElem_mem (l := SG.data.toList) (by simpa using h))
theorem signB_yes {c : Int} {j : Nat} (h : j < 15) (hc : SGx j = c) : signB c = true := by
  unfold signB
  rw [List.any_eq_true]
  exact ⟨SG.data.toList.getD j 0, by rw [List.getD_eq_getElem?_getD, List.getElem?_eq_getElem (by exact h)]; exact List.getElem_mem _, decide_eq_true hc⟩
theorem signB_no {c : Int} (h : ∀ j, j < 15 → SGx j ≠ c) : signB c = false := by
  unfold signB
  rw [List.any_eq_false]
  intro x hx
  obtain ⟨j, hj, rfl⟩ := List.mem_iff_getElem.1 hx
  have := h j (by exact hj)
  unfold SGx at this
  rw [List.getD_eq_getElem?_getD, List.getElem?_eq_getElem hj] at this
  simpa using this
end Tp
end Go.Proofs.YtfacmnooklljnaaDoor

/- The bytes of tokens and values, the program's and the reference's, are those of the text Tp. Bytes are from 0 to 255. -/
namespace Go.Proofs.YtfacmnooklljnaaDoor
set_option linter.unusedVariables false
set_option linter.unusedSimpArgs false
open Go.RowKit Go.Shelf
set_option maxHeartbeats 1000000
theorem tok_sign (c : Int) (w : World) (h0 : 0 ≤ c) (h1 : c < 256) :
    Calls Tryd.prog 40 #[.int .u8 c] w fun e w' => e = .returned (.bool (Tp.signB c)) ∧ Below w.heap.size w w' := by
  go_enter Tryd.func40, Tryd.ntmps40
  go_wp2_with fail
  go_loopw [4] (fun _ wr => ∃ pos : Nat, wr = w.iter Tp.SG pos ∧ pos ≤ 15 ∧ ∀ j, j < pos → Tp.SGx j ≠ c) (fun _ wr => 15 - wr.iterPos w.heap.size)
  case atStart => exact ⟨0, rfl, by omega, fun j hj => absurd hj (by omega)⟩
  case round =>
    obtain ⟨pos, rfl, hp, hno⟩ := hrel
    have HN := Lib.hid hno
    clear hno
    by_cases hlt : pos < 15
    · have hsz : pos < Tp.SG.size := by rw [Tp.SG_size]; exact hlt
      have hnx : ∀ ty, (Instr.next (.pointer (some ⟨w.heap.size, 0, none⟩)) true ty).run Tryd.prog (w.iter Tp.SG pos) = .ok (.tuple #[.bool true, .int .i64 pos, .int .i32 (Tp.SGx pos)]) (w.iter Tp.SG (pos + 1)) := fun ty => by
        rw [run_next_ascii w Tp.SG pos ty hsz (Tp.SG_ascii pos hsz), Tp.SG_at pos hsz]
      clear hsz
      obtain ⟨x, hx⟩ : ∃ x, Tp.SGx pos = x := ⟨_, rfl⟩
      rw [hx] at hnx
      have HX := Lib.hid hx
      clear hx
      by_cases hc : x = c
      · have hc1 : (x == c) = true := beq_iff_eq.2 hc
        have HC := Lib.hid (Tp.signB_yes hlt (HX.out.trans hc))
        clear hc
        go_wp2
        go_ret
        exact ⟨ret_bool HC.out.symm, (Below.refl _ _).alloc (Nat.le_refl _) _⟩
      · have hc1 : (x == c) = false := beq_eq_false_iff_ne.2 hc
        have HC := Lib.hid hc
        clear hc
        go_wp2
        go_roundw
        case rel =>
          refine ⟨pos + 1, rfl, by omega, fun j hj => ?_⟩
          by_cases hjp : j = pos
          · rw [hjp, HX.out]; exact HC.out
          · exact HN.out j (by omega)
        case measure => simp; omega
    · have hsz : ¬ pos < Tp.SG.size := by rw [Tp.SG_size]; exact hlt
      have hnx : ∀ ty, (Instr.next (.pointer (some ⟨w.heap.size, 0, none⟩)) true ty).run Tryd.prog (w.iter Tp.SG pos) = _ := fun ty => run_next_end w Tp.SG pos ty hsz
      go_wp2
      go_ret
      exact ⟨ret_bool (Tp.signB_no (fun j hj => HN.out j (by omega))).symm, (Below.refl _ _).alloc (Nat.le_refl _) _⟩
theorem tok_class0 (c : Int) (w : World) (h0 : 0 ≤ c) (h1 : c < 256) :
    Calls Tryd.prog 39 #[.int .u8 c] w fun e w' => e = .returned (.bool (Tp.tokB c)) ∧ Below w.heap.size w w' := by
  have K := Lib.hid (tok_sign c w h0 h1)
  go_enter Tryd.func39, Tryd.ntmps39
  go_wp2_with (go_at_call 40; refine K.out.mono ?_; rintro e w' ⟨rfl, hb⟩)
  all_goals go_ret
  all_goals refine ⟨ret_bool ?_, by first | exact Below.refl _ _ | assumption⟩
  all_goals (unfold Tp.tokB; generalize Tp.signB c = s; cases s <;> rw [Bool.eq_iff_iff] <;> simp <;> omega)
theorem tok_class1 (c : Int) (w : World) (h0 : 0 ≤ c) (h1 : c < 256) :
    Calls Tryd.prog 41 #[.int .u8 c] w fun e w' => e = .returned (.bool (Tp.valB c)) ∧ w = w' := by
  go_enter Tryd.func41, Tryd.ntmps41
  go_wp2
  all_goals go_ret
  all_goals refine ⟨ret_bool ?_, rfl⟩
  all_goals (unfold Tp.valB; rw [Bool.eq_iff_iff]; simp; omega)
/-- a class of bytes, handed on as a function value -/
def ClsAt (g : Nat) (f : Int → Bool) : Prop := ∀ (c : Int) (w : World), 0 ≤ c → c < 256 → Calls Tryd.prog g #[.int .u8 c] w fun e w' => e = .returned (.bool (f c)) ∧ Below w.heap.size w w'
theorem cls0 : ClsAt 39 Tp.tokB := fun c w h0 h1 => tok_class0 c w h0 h1
theorem cls1 : ClsAt 41 Tp.valB := fun c w h0 h1 => (tok_class1 c w h0 h1).mono fun _ _ h => ⟨h.1, h.2 ▸ Below.refl _ _⟩
theorem tok_all (g : Nat) (f : Int → Bool) (hg : g = 39 ∨ g = 41) (hf : ClsAt g f) (s : ByteArray) (w : World) (hs : s.size ≤ 9223372036854775807) :
    Calls Tryd.prog 27 #[.agg #[.string s], .func (.func g) #[] #[]] w fun e w' => e = .returned (.bool (Tp.allT f s.data.toList)) ∧ Below w.heap.size w w' := by
  have HF := Lib.hid hf
  have en : ∀ args w, (callFunc g args).run Tryd.prog w = .ok (.enter g args) w := by
    rcases hg with rfl | rfl
    · exact enters_of Tryd.func39 (by kernel_rfl) rfl
    · exact enters_of Tryd.func41 (by kernel_rfl) rfl
  clear hf hg
  go_enter Tryd.func27, Tryd.ntmps27
  go_wp2_with fail
  go_loopw [5, 9] (fun _ i wr => ∃ k : Nat, k ≤ s.size ∧ i = .int .i64 k ∧ Tp.allT f (s.data.toList.take k) = true ∧ Below (w.heap.size + 1) (w.alloc (.cells #[.string s] 61)) wr) (fun _ i _ => s.size - (intOf i).toNat)
  case atStart => exact ⟨0, Nat.zero_le _, rfl, rfl, Below.refl _ _⟩
  case round =>
    obtain ⟨k, hk, rfl, hall, hB⟩ := hrel
    have HA := Lib.hid hall
    have HB := Lib.hid hB
    have hc : wr.cell? ⟨w.heap.size, 0, none⟩ = some (.string s) := (hB.cell (p := ⟨w.heap.size, 0, none⟩) (by simp)).trans (by simp)
    clear hall hB
    by_cases hlt : k < s.size
    · have K := Lib.hid (HF.out ((s[k]).toNat : Int) wr (by omega) (by have := (s[k]).toNat_lt; omega))
      have HT := Lib.hid (take_snoc s k hlt)
      go_wp2_with fail
      refine K.out.mono ?_
      rintro e w' ⟨rfl, hb⟩
      have hB2 : Below (w.heap.size + 1) (w.alloc (.cells #[.string s] 61)) w' := HB.out.trans (hb.mono (by have := HB.out.size; simpa using this))
      have hc2 : w'.cell? ⟨w.heap.size, 0, none⟩ = some (.string s) := (hB2.cell (p := ⟨w.heap.size, 0, none⟩) (by simp)).trans (by simp)
      have HB2 := Lib.hid hB2
      clear hb hB2
      obtain ⟨d, hd⟩ : ∃ d, f ((s[k]).toNat : Int) = d := ⟨_, rfl⟩
      rw [hd]
      have HD := Lib.hid hd
      clear hd
      cases d
      · go_wp2
        go_ret
        have hn := Tp.allT_no (f := f) (l := s.data.toList) (k := k) (by simpa using hlt) (by exact HD.out)
        exact ⟨ret_bool hn.symm, ((Below.refl _ _).alloc (Nat.le_refl _) _).trans (HB2.out.mono (by omega))⟩
      · go_wp2
        go_roundw
        case rel => exact ⟨k + 1, by omega, by go_num, by rw [HT.out]; exact Tp.allT_snoc HA.out HD.out, HB2.out⟩
        case measure => simp [intOf]; omega
    · go_wp2
      go_ret
      have h1 : s.data.toList.take k = s.data.toList := List.take_of_length_le (by simp; omega)
      have h2 := HA.out
      rw [h1] at h2
      exact ⟨ret_bool h2.symm, ((Below.refl _ _).alloc (Nat.le_refl _) _).trans (HB.out.mono (by omega))⟩
end Go.Proofs.YtfacmnooklljnaaDoor

/- How layer 9 (token) trims texts and makes their letters small, as plain functions: no program in sight. -/
namespace Go.Proofs.YtfacmnooklljnaaDoor
set_option linter.unusedVariables false
set_option linter.unusedSimpArgs false
namespace Tp
def blankB (c : UInt8) : Bool := blank (c.toNat : Int)
def trimL (l : List UInt8) : List UInt8 := l.dropWhile blankB
def trimR (l : List UInt8) : List UInt8 := (l.reverse.dropWhile blankB).reverse
/-- a text without the blanks at its ends -/
def trim (l : List UInt8) : List UInt8 := trimR (trimL l)
theorem blankB_is (c : UInt8) : blankB c = ([32, 9] : List UInt8).contains c := by
  have : ∀ c : Fin 256, blankB (UInt8.ofNat c.val) = ([32, 9] : List UInt8).contains (UInt8.ofNat c.val) := by decide +kernel
  have h := this ⟨c.toNat, c.toNat_lt⟩
  simpa using h
theorem trimL_nil : trimL [] = [] := rfl
theorem trimL_cons (c : UInt8) (l : List UInt8) : trimL (c :: l) = if blankB c then trimL l else c :: l := by unfold trimL; rw [List.dropWhile_cons]
theorem trimR_nil : trimR [] = [] := rfl
theorem trimR_snoc (l : List UInt8) (c : UInt8) : trimR (l ++ [c]) = if blankB c then trimR l else l ++ [c] := by
  unfold trimR
  rw [List.reverse_append]
  show ((c :: l.reverse).dropWhile blankB).reverse = _
  rw [List.dropWhile_cons]
  split
  · rfl
  · simp
theorem trimR_append (x y : List UInt8) (h : trimR y ≠ []) : trimR (x ++ y) = x ++ trimR y := by
  unfold trimR at *
  have hne : y.reverse.dropWhile blankB ≠ [] := fun e => h (by rw [e]; rfl)
  rw [List.reverse_append, List.dropWhile_append]
  have : (y.reverse.dropWhile blankB).isEmpty = false := by cases hd : y.reverse.dropWhile blankB with
    | nil => exact absurd hd hne
    | cons _ _ => rfl
  rw [this]
  simp
theorem trimR_head (c : UInt8) (l : List UInt8) (h : blankB c = false) : ∃ m, trimR (c :: l) = c :: m := by
  unfold trimR
  rw [List.reverse_cons, List.dropWhile_append]
  split
  · exact ⟨[], by rw [List.dropWhile_cons]; simp [h]⟩
  · exact ⟨_, by rw [List.reverse_append]; rfl⟩
theorem trimS_is (l : List UInt8) : Lib.trimS l [32, 9] = trim l := by
  have hp : (([32, 9] : List UInt8).contains ·) = blankB := by funext c; exact (blankB_is c).symm
  have e1 : ∀ l, Lib.trimLeftS l [32, 9] = trimL l := fun l => by unfold Lib.trimLeftS trimL; rw [hp]
  have e2 : ∀ l, Lib.trimRightS l [32, 9] = trimR l := fun l => by unfold Lib.trimRightS trimR; rw [hp]
  unfold Lib.trimS trim
  rw [e1, e2]
  induction l with
  | nil => rfl
  | cons c l ih =>
    rw [trimL_cons]
    by_cases hc : blankB c = true
    · rw [if_pos hc]
      by_cases hr : trimR l = []
      · have h1 : trimR (c :: l) = [] := by
          have : c :: l = [c] ++ l := rfl
          unfold trimR at hr ⊢
          have hd : l.reverse.dropWhile blankB = [] := by simpa using hr
          rw [this, List.reverse_append, List.dropWhile_append, hd]
          simp [hc]
        rw [h1, ← ih, hr]
      · have h1 := trimR_append [c] l hr
        rw [List.singleton_append] at h1
        rw [h1, List.singleton_append, trimL_cons, if_pos hc, ih]
    · have hc' : blankB c = false := by simpa using hc
      rw [if_neg hc]
      obtain ⟨m, hm⟩ := trimR_head c l hc'
      rw [hm, trimL_cons, if_neg hc]
/-- small letters -/
def lower (l : List UInt8) : List UInt8 := l.map fun c => UInt8.ofNat (lowB c.toNat).toNat
theorem lower_at (c : UInt8) : (((UInt8.ofNat (lowB c.toNat).toNat).toNat : Nat) : Int) = lowB c.toNat := by
  have h := c.toNat_lt
  have : 0 ≤ lowB c.toNat ∧ lowB c.toNat < 256 := by unfold lowB; split <;> omega
  rw [UInt8.toNat_ofNat_of_lt' (by show (lowB (c.toNat : Int)).toNat < 256; omega)]
  omega
def isTok (l : List UInt8) : Bool := !l.isEmpty && allT tokB l
def isVal (l : List UInt8) : Bool := (trim l == l) && allT valB l
end Tp
end Go.Proofs.YtfacmnooklljnaaDoor

/- The reference's bytes of tokens and values, and its trimming, are those of the texts Tp and Tq. Texts have a length that Go knows. -/
namespace Go.Proofs.YtfacmnooklljnaaDoor
set_option linter.unusedVariables false
set_option linter.unusedSimpArgs false
open Go.RowKit Go.Shelf
set_option maxHeartbeats 1000000
theorem isEmpty_size (s : ByteArray) : s.data.toList.isEmpty = decide (s.size = 0) := by
  by_cases h : s.size = 0
  · rw [decide_eq_true h]; exact List.isEmpty_iff_length_eq_zero.2 (by simpa using h)
  · rw [decide_eq_false h]
    cases he : s.data.toList.isEmpty with
    | false => rfl
    | true => exact absurd (by simpa using List.isEmpty_iff_length_eq_zero.1 he) h
theorem sg_index (k : Nat) (h : k < 15) (w : World) : (Instr.index 9 (.string ⟨#[33, 35, 36, 37, 38, 39, 42, 43, 45, 46, 94, 95, 96, 124, 126]⟩) (.int .i64 (k : Int))).run Tryd.prog w = .ok (.int .u8 (Tp.SGx k)) w :=
  match k, h with
  | 0, _ => by kernel_rfl
  | 1, _ => by kernel_rfl
  | 2, _ => by kernel_rfl
  | 3, _ => by kernel_rfl
  | 4, _ => by kernel_rfl
  | 5, _ => by kernel_rfl
  | 6, _ => by kernel_rfl
  | 7, _ => by kernel_rfl
  | 8, _ => by kernel_rfl
  | 9, _ => by kernel_rfl
  | 10, _ => by kernel_rfl
  | 11, _ => by kernel_rfl
  | 12, _ => by kernel_rfl
  | 13, _ => by kernel_rfl
  | 14, _ => by kernel_rfl
  | n + 15, h => absurd h (by omega)
end Go.Proofs.YtfacmnooklljnaaDoor

/-
  DERIVED: THE SHELF's CONTRACTS AT THIS DUMP, IN PLAIN WORDS (tools/lay-plain.mjs out of 'TrydShelf.lean', which tools/lay-shelf.mjs wrote): THE SAME DECLARATIONS UNDER THE SAME NAMES: 'import', 'namespace', 'open', 'def', 'theorem' AND NOTHING ELSE: no command of the shelf's: FOR A HAND-IN. Each laying: the table of numbers ('.._ren') and one theorem, a field a fact of the dump's own or the kernel's comparison; each contract: ONE APPLICATION.
-/
namespace Go.Proofs
open Go.Shelf
def Tryd.lays169_ren : Go.Shelf.Ren := ⟨fun | 169 => 56 | n => n, fun | 70 => 91 | 9 => 9 | 0 => 0 | 72 => 93 | 37 => 76 | 127 => 104 | 3 => 3 | 5 => 5 | n => n, fun | n => n⟩
theorem Tryd.lays169 : Go.Proofs.Lays.n169 Tryd.prog Tryd.lays169_ren := {
  mixed := by kernel_rfl
  f169 := Tryd.func56.trans (congrArg some (by kernel_rfl))
  t0 := Tryd.underlying0
  a0 := Tryd.isAgg0
  z0 := Tryd.sizeOf0
  v0 := Tryd.zeroValue0
  t3 := Tryd.underlying3
  a3 := Tryd.isAgg3
  z3 := Tryd.sizeOf3
  v3 := Tryd.zeroValue3
  t9 := Tryd.underlying9
  a9 := Tryd.isAgg9
  z9 := Tryd.sizeOf9
  v9 := Tryd.zeroValue9
  t37 := Tryd.underlying76
  a37 := Tryd.isAgg76
  z37 := Tryd.sizeOf76
  v37 := Tryd.zeroValue76
  t70 := Tryd.underlying91
  a70 := Tryd.isAgg91
  z70 := Tryd.sizeOf91
  v70 := Tryd.zeroValue91
  t72 := Tryd.underlying93
  a72 := Tryd.isAgg93
  z72 := Tryd.sizeOf93
  v72 := Tryd.zeroValue93
  t127 := Tryd.underlying104
  a127 := Tryd.isAgg104
  z127 := Tryd.sizeOf104
  v127 := Tryd.zeroValue104 }
theorem Tryd.Builder_Extra_169 : Builder.Extra Tryd.prog Tryd.lays169_ren := {
  sizeBuilder := by kernel_rfl
  liesBuilder := by kernel_rfl
  t5 := Tryd.underlying5
  a5 := Tryd.isAgg5
  z5 := Tryd.sizeOf5
  v5 := Tryd.zeroValue5
  infoByte := by kernel_rfl
  cellsByte := by kernel_rfl
  sizeByte := by kernel_rfl
  neB5 := by decide }
open Go.RowKit in
/-- (*strings.Builder).String: "String returns the accumulated string.": OF A BUILDER THAT HOLDS AT LEAST ONE BYTE. ✋ THE MODEL FREEZES THOSE BYTES IN THE BUFFER (unsafe.String): a later write INTO them ends the model's run without an answer; a later append BEHIND them goes on. The statement's order of evaluation is drawn: one draw. (LAID: no walk: one application.) -/
theorem Tryd.Builder_String (B b : Nat) (l : List UInt8) (w : World) (h : Lib.IsBuilder 93 5 B b (Lib.byteCells l) w) (h0 : l ≠ []) :
    Calls Tryd.prog 56 #[.pointer (some ⟨b, 0, none⟩)] w fun e w' => e = .returned (.string ⟨l.toArray⟩) ∧ Below B w w' := Any.Builder_String Tryd.lays169 Tryd.Builder_Extra_169 B b l w h h0
open Go.RowKit in
/-- (*strings.Builder).String OF A BUILDER THAT HOLDS NO BYTE: the empty string. (Its buffer is nil, or a row of which it has taken nothing yet; where that row has NO capacity the model lays one new block for unsafe.SliceData's 'some address'.) One draw. (LAID: no walk: one application.) -/
theorem Tryd.Builder_String_empty (B b : Nat) (w : World) (h : Lib.IsBuilder 93 5 B b [] w) (hBw : B ≤ w.heap.size) :
    Calls Tryd.prog 56 #[.pointer (some ⟨b, 0, none⟩)] w fun e w' => e = .returned (.string ⟨#[]⟩) ∧ Below B w w' := Any.Builder_String_empty Tryd.lays169 Tryd.Builder_Extra_169 B b w h hBw
open Go.RowKit in
/-- (*strings.Builder).String: "String returns the accumulated string.": WHATEVER THE BUILDER HOLDS. (LAID: no walk: one application.) -/
theorem Tryd.Builder_String_any (B b : Nat) (l : List UInt8) (w : World) (h : Lib.IsBuilder 93 5 B b (Lib.byteCells l) w) (hBw : B ≤ w.heap.size) :
    Calls Tryd.prog 56 #[.pointer (some ⟨b, 0, none⟩)] w fun e w' => e = .returned (.string ⟨l.toArray⟩) ∧ Below B w w' := Any.Builder_String_any Tryd.lays169 Tryd.Builder_Extra_169 B b l w h hBw
def Tryd.lays231_ren : Go.Shelf.Ren := ⟨fun | 231 => 47 | n => n, fun | 9 => 9 | 5 => 5 | 3 => 3 | 4 => 4 | n => n, fun | n => n⟩
theorem Tryd.lays231 : Go.Proofs.Lays.n231 Tryd.prog Tryd.lays231_ren := {
  mixed := by kernel_rfl
  f231 := Tryd.func47.trans (congrArg some (by kernel_rfl))
  t3 := Tryd.underlying3
  a3 := Tryd.isAgg3
  z3 := Tryd.sizeOf3
  v3 := Tryd.zeroValue3
  t4 := Tryd.underlying4
  a4 := Tryd.isAgg4
  z4 := Tryd.sizeOf4
  v4 := Tryd.zeroValue4
  t5 := Tryd.underlying5
  a5 := Tryd.isAgg5
  z5 := Tryd.sizeOf5
  v5 := Tryd.zeroValue5
  t9 := Tryd.underlying9
  a9 := Tryd.isAgg9
  z9 := Tryd.sizeOf9
  v9 := Tryd.zeroValue9 }
open Go.RowKit in
/-- strings.trimLeftByte (no doc; what TrimLeft and Trim call at a cutset of one ASCII byte): the leading bytes that are c are cut off. The world is as it was. (LAID: no walk: one application.) -/
theorem Tryd.strings_trimLeftByte (s : ByteArray) (c : UInt8) (w : World) :
    Calls Tryd.prog 47 #[.string s, .int .u8 c.toNat] w fun e w' => e = .returned (.string ⟨(Lib.trimLeftB s.data.toList c).toArray⟩) ∧ w' = w := Any.strings_trimLeftByte Tryd.lays231 s c w
def Tryd.lays232_ren : Go.Shelf.Ren := ⟨fun | 232 => 48 | n => n, fun | 9 => 9 | 5 => 5 | 3 => 3 | 4 => 4 | n => n, fun | n => n⟩
theorem Tryd.lays232 : Go.Proofs.Lays.n232 Tryd.prog Tryd.lays232_ren := {
  mixed := by kernel_rfl
  f232 := Tryd.func48.trans (congrArg some (by kernel_rfl))
  t3 := Tryd.underlying3
  a3 := Tryd.isAgg3
  z3 := Tryd.sizeOf3
  v3 := Tryd.zeroValue3
  t4 := Tryd.underlying4
  a4 := Tryd.isAgg4
  z4 := Tryd.sizeOf4
  v4 := Tryd.zeroValue4
  t5 := Tryd.underlying5
  a5 := Tryd.isAgg5
  z5 := Tryd.sizeOf5
  v5 := Tryd.zeroValue5
  t9 := Tryd.underlying9
  a9 := Tryd.isAgg9
  z9 := Tryd.sizeOf9
  v9 := Tryd.zeroValue9 }
open Go.RowKit in
/-- strings.trimRightByte (no doc; what TrimRight and Trim call at a cutset of one ASCII byte): the trailing bytes that are c are cut off. The world is as it was. ('hs': a string's length is a number that an int holds.) (LAID: no walk: one application.) -/
theorem Tryd.strings_trimRightByte (s : ByteArray) (c : UInt8) (w : World) (hs : s.size ≤ 9223372036854775807) :
    Calls Tryd.prog 48 #[.string s, .int .u8 c.toNat] w fun e w' => e = .returned (.string ⟨(Lib.trimRightB s.data.toList c).toArray⟩) ∧ w' = w := Any.strings_trimRightByte Tryd.lays232 s c w hs
def Tryd.lays160_ren : Go.Shelf.Ren := ⟨fun | 160 => 38 | 232 => 48 | 231 => 47 | 227 => 49 | 234 => 51 | 233 => 50 | 236 => 53 | 235 => 52 | 228 => 58 | 271 => 61 | 151 => 60 | 197 => 59 | 120 => 69 | 152 => 68 | 260 => 67 | 137 => 73 | 119 => 74 | 224 => 64 | 225 => 63 | 217 => 62 | 266 => 70 | n => n, fun | 9 => 9 | 4 => 4 | 3 => 3 | 5 => 5 | 117 => 83 | 116 => 82 | 0 => 0 | 124 => 86 | 21 => 21 | 105 => 98 | 46 => 103 | 119 => 111 | 139 => 114 | 138 => 113 | n => n, fun | 3 => 2 | 4 => 3 | n => n⟩
theorem Tryd.lays160 : Go.Proofs.Lays.n160 Tryd.prog Tryd.lays160_ren := {
  mixed := by kernel_rfl
  f119 := Tryd.func74.trans (congrArg some (by kernel_rfl))
  f120 := Tryd.func69.trans (congrArg some (by kernel_rfl))
  f137 := Tryd.func73.trans (congrArg some (by kernel_rfl))
  f151 := Tryd.func60.trans (congrArg some (by kernel_rfl))
  f152 := Tryd.func68.trans (congrArg some (by kernel_rfl))
  f160 := Tryd.func38.trans (congrArg some (by kernel_rfl))
  f197 := Tryd.func59.trans (congrArg some (by kernel_rfl))
  f217 := Tryd.func62.trans (congrArg some (by kernel_rfl))
  f224 := Tryd.func64.trans (congrArg some (by kernel_rfl))
  f225 := Tryd.func63.trans (congrArg some (by kernel_rfl))
  f227 := Tryd.func49.trans (congrArg some (by kernel_rfl))
  f228 := Tryd.func58.trans (congrArg some (by kernel_rfl))
  f231 := Tryd.func47.trans (congrArg some (by kernel_rfl))
  f232 := Tryd.func48.trans (congrArg some (by kernel_rfl))
  f233 := Tryd.func50.trans (congrArg some (by kernel_rfl))
  f234 := Tryd.func51.trans (congrArg some (by kernel_rfl))
  f235 := Tryd.func52.trans (congrArg some (by kernel_rfl))
  f236 := Tryd.func53.trans (congrArg some (by kernel_rfl))
  f260 := Tryd.func67.trans (congrArg some (by kernel_rfl))
  f266 := Tryd.func70.trans (congrArg some (by kernel_rfl))
  f271 := Tryd.func61.trans (congrArg some (by kernel_rfl))
  t0 := Tryd.underlying0
  a0 := Tryd.isAgg0
  z0 := Tryd.sizeOf0
  v0 := Tryd.zeroValue0
  t3 := Tryd.underlying3
  a3 := Tryd.isAgg3
  z3 := Tryd.sizeOf3
  v3 := Tryd.zeroValue3
  t4 := Tryd.underlying4
  a4 := Tryd.isAgg4
  z4 := Tryd.sizeOf4
  v4 := Tryd.zeroValue4
  t5 := Tryd.underlying5
  a5 := Tryd.isAgg5
  z5 := Tryd.sizeOf5
  v5 := Tryd.zeroValue5
  t9 := Tryd.underlying9
  a9 := Tryd.isAgg9
  z9 := Tryd.sizeOf9
  v9 := Tryd.zeroValue9
  t21 := Tryd.underlying21
  a21 := Tryd.isAgg21
  z21 := Tryd.sizeOf21
  v21 := Tryd.zeroValue21
  t46 := Tryd.underlying103
  a46 := Tryd.isAgg103
  z46 := Tryd.sizeOf103
  v46 := Tryd.zeroValue103
  t105 := Tryd.underlying98
  a105 := Tryd.isAgg98
  z105 := Tryd.sizeOf98
  v105 := Tryd.zeroValue98
  t116 := Tryd.underlying82
  a116 := Tryd.isAgg82
  z116 := Tryd.sizeOf82
  t117 := Tryd.underlying83
  a117 := Tryd.isAgg83
  z117 := Tryd.sizeOf83
  v117 := Tryd.zeroValue83
  t119 := Tryd.underlying111
  a119 := Tryd.isAgg111
  z119 := Tryd.sizeOf111
  t124 := Tryd.underlying86
  a124 := Tryd.isAgg86
  z124 := Tryd.sizeOf86
  v124 := Tryd.zeroValue86
  t138 := Tryd.underlying113
  a138 := Tryd.isAgg113
  z138 := Tryd.sizeOf113
  v138 := Tryd.zeroValue113
  t139 := Tryd.underlying114
  a139 := Tryd.isAgg114
  z139 := Tryd.sizeOf114
  v139 := Tryd.zeroValue114
  g3 := by kernel_rfl
  g4 := by kernel_rfl }
open Go.RowKit in
/-- strings.Trim: "Trim returns a slice of the string s with all leading and trailing Unicode code points contained in cutset removed.": AT A cutset OF ONE ASCII BYTE. THE WORLD BEHIND IT: as it was, or (where s is not empty) with ONE DRAW MORE off the tape: the statement 'return trimLeftByte(trimRightByte(s, c), c)' draws its order of evaluation. (LAID: no walk: one application.) -/
theorem Tryd.strings_Trim_one (s : ByteArray) (c : UInt8) (hc : c.toNat < 128) (w : World) (hs : s.size ≤ 9223372036854775807) :
    Calls Tryd.prog 38 #[.string s, .string ⟨#[c]⟩] w fun e w' => e = .returned (.string ⟨(Lib.trimB s.data.toList c).toArray⟩) ∧ (w' = w ∨ w' = w.drew) := Any.strings_Trim_one Tryd.lays160 s c hc w hs
def Tryd.lays119_ren : Go.Shelf.Ren := ⟨fun | 119 => 74 | n => n, fun | 21 => 21 | 4 => 4 | n => n, fun | n => n⟩
theorem Tryd.lays119 : Go.Proofs.Lays.n119 Tryd.prog Tryd.lays119_ren := {
  mixed := by kernel_rfl
  f119 := Tryd.func74.trans (congrArg some (by kernel_rfl))
  t4 := Tryd.underlying4
  a4 := Tryd.isAgg4
  z4 := Tryd.sizeOf4
  v4 := Tryd.zeroValue4
  t21 := Tryd.underlying21
  a21 := Tryd.isAgg21
  z21 := Tryd.sizeOf21
  v21 := Tryd.zeroValue21 }
/-- utf8.ValidRune: "ValidRune reports whether r can be legally encoded as UTF-8. Code points that are out of range or a surrogate half are illegal.": IT RETURNS 'Lib.validRune r'; the world is as it was. (LAID: no walk: one application.) -/
theorem Tryd.utf8_ValidRune (r : Int) (w : World) :
    Calls Tryd.prog 74 #[.int .i32 r] w fun e w' => e = .returned (.bool (Lib.validRune r)) ∧ w' = w := Any.utf8_ValidRune Tryd.lays119 r w
def Tryd.lays120_ren : Go.Shelf.Ren := ⟨fun | 120 => 69 | n => n, fun | 5 => 5 | 4 => 4 | n => n, fun | n => n⟩
theorem Tryd.lays120 : Go.Proofs.Lays.n120 Tryd.prog Tryd.lays120_ren := {
  mixed := by kernel_rfl
  f120 := Tryd.func69.trans (congrArg some (by kernel_rfl))
  t4 := Tryd.underlying4
  a4 := Tryd.isAgg4
  z4 := Tryd.sizeOf4
  v4 := Tryd.zeroValue4
  t5 := Tryd.underlying5
  a5 := Tryd.isAgg5
  z5 := Tryd.sizeOf5
  v5 := Tryd.zeroValue5 }
/-- utf8.RuneStart: "RuneStart reports whether the byte could be the first byte of an encoded, possibly invalid rune. Second and subsequent bytes always have the top two bits set to 10.": IT RETURNS 'Lib.runeStart b'; the world is as it was. ('h0', 'h1': b is a byte: a caller has it of every byte that it was handed.) (LAID: no walk: one application.) -/
theorem Tryd.utf8_RuneStart (b : Int) (w : World) (h0 : 0 ≤ b) (h1 : b < 256) :
    Calls Tryd.prog 69 #[.int .u8 b] w fun e w' => e = .returned (.bool (Lib.runeStart b)) ∧ w' = w := Any.utf8_RuneStart Tryd.lays120 b w h0 h1
def Tryd.lays137_ren : Go.Shelf.Ren := ⟨fun | 137 => 73 | 217 => 62 | 266 => 70 | n => n, fun | 9 => 9 | 5 => 5 | 3 => 3 | n => n, fun | n => n⟩
theorem Tryd.lays137 : Go.Proofs.Lays.n137 Tryd.prog Tryd.lays137_ren := {
  mixed := by kernel_rfl
  f137 := Tryd.func73.trans (congrArg some (by kernel_rfl))
  f217 := Tryd.func62.trans (congrArg some (by kernel_rfl))
  f266 := Tryd.func70.trans (congrArg some (by kernel_rfl))
  t3 := Tryd.underlying3
  a3 := Tryd.isAgg3
  z3 := Tryd.sizeOf3
  v3 := Tryd.zeroValue3
  t5 := Tryd.underlying5
  a5 := Tryd.isAgg5
  z5 := Tryd.sizeOf5
  v5 := Tryd.zeroValue5
  t9 := Tryd.underlying9
  a9 := Tryd.isAgg9
  z9 := Tryd.sizeOf9
  v9 := Tryd.zeroValue9 }
open Go.RowKit in
/-- strings.IndexByte: "IndexByte returns the index of the first instance of c in s, or -1 if c is not present in s.": IT RETURNS 'Lib.indexByte s c'; the world is as it was. (LAID: no walk: one application.) -/
theorem Tryd.strings_IndexByte (s : ByteArray) (c : Int) (w : World) :
    Calls Tryd.prog 73 #[.string s, .int .u8 c] w fun e w' => e = .returned (.int .i64 (Lib.indexByte s.data.toList c.toNat.toUInt8)) ∧ w' = w := Any.strings_IndexByte Tryd.lays137 s c w
open Go.RowKit in
/-- (*strings.Builder).String: "String returns the accumulated string.": OF A BUILDER THAT HOLDS AT LEAST ONE BYTE. ✋ THE MODEL FREEZES THOSE BYTES IN THE BUFFER (unsafe.String): a later write INTO them ends the model's run without an answer; a later append BEHIND them goes on. The statement's order of evaluation is drawn: one draw. THE FORM '_f': IT SAYS BESIDES THAT THE BUILDER IS A BUILDER STILL ('Lib.IsBuilderF', the same bytes): SO IT CAN BE WRITTEN ON: 'b.WriteString(b.String()[:k])'. (LAID: no walk: one application.) -/
theorem Tryd.Builder_String_f (B b : Nat) (l : List UInt8) (w : World) (h : Lib.IsBuilderF 93 5 B b (Lib.byteCells l) w) (h0 : l ≠ []) :
    Calls Tryd.prog 56 #[.pointer (some ⟨b, 0, none⟩)] w fun e w' => e = .returned (.string ⟨l.toArray⟩) ∧ (Lib.IsBuilderF 93 5 B b (Lib.byteCells l) w' ∧ Below B w w') := Any.Builder_String_f Tryd.lays169 Tryd.Builder_Extra_169 B b l w h h0
open Go.RowKit in
/-- (*strings.Builder).String OF A BUILDER THAT HOLDS NO BYTE: the empty string; THE FORM '_f': a builder still. (LAID: no walk: one application.) -/
theorem Tryd.Builder_String_empty_f (B b : Nat) (w : World) (h : Lib.IsBuilderF 93 5 B b [] w) (hBw : B ≤ w.heap.size) :
    Calls Tryd.prog 56 #[.pointer (some ⟨b, 0, none⟩)] w fun e w' => e = .returned (.string ⟨#[]⟩) ∧ (Lib.IsBuilderF 93 5 B b [] w' ∧ Below B w w') := Any.Builder_String_empty_f Tryd.lays169 Tryd.Builder_Extra_169 B b w h hBw
open Go.RowKit in
/-- (*strings.Builder).String: "String returns the accumulated string.": WHATEVER THE BUILDER HOLDS; THE FORM '_f': OF A BUILDER THAT MAY HAVE BEEN READ BEFORE; AND IT IS A BUILDER STILL, holding the same bytes: it can be written on. (LAID: no walk: one application.) -/
theorem Tryd.Builder_String_any_f (B b : Nat) (l : List UInt8) (w : World) (h : Lib.IsBuilderF 93 5 B b (Lib.byteCells l) w) (hBw : B ≤ w.heap.size) :
    Calls Tryd.prog 56 #[.pointer (some ⟨b, 0, none⟩)] w fun e w' => e = .returned (.string ⟨l.toArray⟩) ∧ (Lib.IsBuilderF 93 5 B b (Lib.byteCells l) w' ∧ Below B w w') := Any.Builder_String_any_f Tryd.lays169 Tryd.Builder_Extra_169 B b l w h hBw
open Go.RowKit in
/-- (*strings.Builder).String: "String returns the accumulated string.": OF A BUILDER THAT HOLDS AT LEAST ONE BYTE. ✋ THE MODEL FREEZES THOSE BYTES IN THE BUFFER (unsafe.String): a later write INTO them ends the model's run without an answer; a later append BEHIND them goes on. The statement's order of evaluation is drawn: one draw. THE FORM '_k': OVER 'Lib.IsBuilderF' (a builder that 'String()' may have read), AND WITH THE FRAME THAT REACHES ABOVE THE BUILDER: 'Lib.OthersKept': every block that is not b and is no row of uint8's stands as it stood: the iterator of a range among them. (LAID: no walk: one application.) -/
theorem Tryd.Builder_String_k (B b : Nat) (l : List UInt8) (w : World) (h : Lib.IsBuilderF 93 5 B b (Lib.byteCells l) w) (h0 : l ≠ []) :
    Calls Tryd.prog 56 #[.pointer (some ⟨b, 0, none⟩)] w fun e w' => e = .returned (.string ⟨l.toArray⟩) ∧ (Lib.IsBuilderF 93 5 B b (Lib.byteCells l) w' ∧ Below B w w' ∧ Lib.OthersKept 5 (some b) w w') := Any.Builder_String_k Tryd.lays169 Tryd.Builder_Extra_169 B b l w h h0
open Go.RowKit in
/-- (*strings.Builder).String OF A BUILDER THAT HOLDS NO BYTE: the empty string; THE FORM '_k': OVER 'Lib.IsBuilderF' (a builder that 'String()' may have read), AND WITH THE FRAME THAT REACHES ABOVE THE BUILDER: 'Lib.OthersKept': every block that is not b and is no row of uint8's stands as it stood: the iterator of a range among them. (LAID: no walk: one application.) -/
theorem Tryd.Builder_String_empty_k (B b : Nat) (w : World) (h : Lib.IsBuilderF 93 5 B b [] w) (hBw : B ≤ w.heap.size) :
    Calls Tryd.prog 56 #[.pointer (some ⟨b, 0, none⟩)] w fun e w' => e = .returned (.string ⟨#[]⟩) ∧ (Lib.IsBuilderF 93 5 B b [] w' ∧ Below B w w' ∧ Lib.OthersKept 5 (some b) w w') := Any.Builder_String_empty_k Tryd.lays169 Tryd.Builder_Extra_169 B b w h hBw
open Go.RowKit in
/-- (*strings.Builder).String: "String returns the accumulated string.": WHATEVER THE BUILDER HOLDS; THE FORM '_k': OVER 'Lib.IsBuilderF' (a builder that 'String()' may have read), AND WITH THE FRAME THAT REACHES ABOVE THE BUILDER: 'Lib.OthersKept': every block that is not b and is no row of uint8's stands as it stood: the iterator of a range among them. (LAID: no walk: one application.) -/
theorem Tryd.Builder_String_any_k (B b : Nat) (l : List UInt8) (w : World) (h : Lib.IsBuilderF 93 5 B b (Lib.byteCells l) w) (hBw : B ≤ w.heap.size) :
    Calls Tryd.prog 56 #[.pointer (some ⟨b, 0, none⟩)] w fun e w' => e = .returned (.string ⟨l.toArray⟩) ∧ (Lib.IsBuilderF 93 5 B b (Lib.byteCells l) w' ∧ Below B w w' ∧ Lib.OthersKept 5 (some b) w w') := Any.Builder_String_any_k Tryd.lays169 Tryd.Builder_Extra_169 B b l w h hBw
def Tryd.lays217_ren : Go.Shelf.Ren := ⟨fun | 217 => 62 | 266 => 70 | n => n, fun | 9 => 9 | 5 => 5 | 3 => 3 | n => n, fun | n => n⟩
theorem Tryd.lays217 : Go.Proofs.Lays.n217 Tryd.prog Tryd.lays217_ren := {
  mixed := by kernel_rfl
  f217 := Tryd.func62.trans (congrArg some (by kernel_rfl))
  f266 := Tryd.func70.trans (congrArg some (by kernel_rfl))
  t3 := Tryd.underlying3
  a3 := Tryd.isAgg3
  z3 := Tryd.sizeOf3
  v3 := Tryd.zeroValue3
  t5 := Tryd.underlying5
  a5 := Tryd.isAgg5
  z5 := Tryd.sizeOf5
  v5 := Tryd.zeroValue5
  t9 := Tryd.underlying9
  a9 := Tryd.isAgg9
  z9 := Tryd.sizeOf9
  v9 := Tryd.zeroValue9 }
open Go.RowKit Go.Lib in
/-- internal/stringslite.IndexByte (what strings.IndexByte calls): IT RETURNS 'Lib.indexByte s c'; the world is as it was. (LAID: no walk: one application.) -/
theorem Tryd.stringslite_IndexByte (s : ByteArray) (c : Int) (w : World) :
    Calls Tryd.prog 62 #[.string s, .int .u8 c] w fun e w' => e = .returned (.int .i64 (Lib.indexByte s.data.toList c.toNat.toUInt8)) ∧ w' = w := Any.stringslite_IndexByte Tryd.lays217 s c w
def Tryd.lays224_ren : Go.Shelf.Ren := ⟨fun | 224 => 64 | n => n, fun | 3 => 3 | n => n, fun | n => n⟩
theorem Tryd.lays224 : Go.Proofs.Lays.n224 Tryd.prog Tryd.lays224_ren := {
  mixed := by kernel_rfl
  f224 := Tryd.func64.trans (congrArg some (by kernel_rfl))
  t3 := Tryd.underlying3
  a3 := Tryd.isAgg3
  z3 := Tryd.sizeOf3
  v3 := Tryd.zeroValue3 }
open Go.RowKit Go.Lib in
/-- internal/bytealg.Cutover: "Cutover reports the number of failures of IndexByte we should tolerate before switching over to Index. n is the number of bytes processed so far.": on amd64: (n + 16) / 8. (LAID: no walk: one application.) -/
theorem Tryd.bytealg_Cutover (n : Int) (h0 : 0 ≤ n) (h1 : n < 4611686018427387904) (w : World) :
    Calls Tryd.prog 64 #[.int .i64 n] w fun e w' => e = .returned (.int .i64 ((n + 16) / 8)) ∧ w' = w := Any.bytealg_Cutover Tryd.lays224 n h0 h1 w
def Tryd.lays314_ren : Go.Shelf.Ren := ⟨fun | 314 => 71 | n => n, fun | 9 => 9 | 51 => 106 | 3 => 3 | 4 => 4 | 5 => 5 | 46 => 103 | n => n, fun | n => n⟩
theorem Tryd.lays314 : Go.Proofs.Lays.n314 Tryd.prog Tryd.lays314_ren := {
  mixed := by kernel_rfl
  f314 := Tryd.func71.trans (congrArg some (by kernel_rfl))
  t3 := Tryd.underlying3
  a3 := Tryd.isAgg3
  z3 := Tryd.sizeOf3
  v3 := Tryd.zeroValue3
  t4 := Tryd.underlying4
  a4 := Tryd.isAgg4
  z4 := Tryd.sizeOf4
  v4 := Tryd.zeroValue4
  t5 := Tryd.underlying5
  a5 := Tryd.isAgg5
  z5 := Tryd.sizeOf5
  v5 := Tryd.zeroValue5
  t9 := Tryd.underlying9
  a9 := Tryd.isAgg9
  z9 := Tryd.sizeOf9
  v9 := Tryd.zeroValue9
  t46 := Tryd.underlying103
  a46 := Tryd.isAgg103
  z46 := Tryd.sizeOf103
  v46 := Tryd.zeroValue103
  t51 := Tryd.underlying106
  a51 := Tryd.isAgg106
  z51 := Tryd.sizeOf106
  v51 := Tryd.zeroValue106 }
open Go.RowKit Go.Lib in
/-- hashStr: "returns the hash and the appropriate multiplicative factor for use in Rabin-Karp algorithm": THE HASH OF ALL OF sep, AND 16777619 ^ len(sep), both in uint32. (LAID: no walk: one application.) -/
theorem Tryd.bytealg_hashStr (sep : ByteArray) (hs : sep.size < 4294967281) (w : World) :
    Calls Tryd.prog 71 #[.string sep] w fun e w' => e = .returned (.tuple #[.int .u32 (RK.H sep.data.toList % 4294967296), .int .u32 (16777619 ^ sep.size % 4294967296)]) ∧ w' = w := Any.bytealg_hashStr Tryd.lays314 sep hs w
def Tryd.lays267_ren : Go.Shelf.Ren := ⟨fun | 267 => 65 | 314 => 71 | n => n, fun | 9 => 9 | 3 => 3 | 146 => 107 | 51 => 106 | 4 => 4 | 5 => 5 | 46 => 103 | n => n, fun | n => n⟩
theorem Tryd.lays267 : Go.Proofs.Lays.n267 Tryd.prog Tryd.lays267_ren := {
  mixed := by kernel_rfl
  f267 := Tryd.func65.trans (congrArg some (by kernel_rfl))
  f314 := Tryd.func71.trans (congrArg some (by kernel_rfl))
  t3 := Tryd.underlying3
  a3 := Tryd.isAgg3
  z3 := Tryd.sizeOf3
  v3 := Tryd.zeroValue3
  t4 := Tryd.underlying4
  a4 := Tryd.isAgg4
  z4 := Tryd.sizeOf4
  v4 := Tryd.zeroValue4
  t5 := Tryd.underlying5
  a5 := Tryd.isAgg5
  z5 := Tryd.sizeOf5
  v5 := Tryd.zeroValue5
  t9 := Tryd.underlying9
  a9 := Tryd.isAgg9
  z9 := Tryd.sizeOf9
  v9 := Tryd.zeroValue9
  t46 := Tryd.underlying103
  a46 := Tryd.isAgg103
  z46 := Tryd.sizeOf103
  v46 := Tryd.zeroValue103
  t51 := Tryd.underlying106
  a51 := Tryd.isAgg106
  z51 := Tryd.sizeOf106
  v51 := Tryd.zeroValue106
  t146 := Tryd.underlying107
  a146 := Tryd.isAgg107
  z146 := Tryd.sizeOf107
  v146 := Tryd.zeroValue107 }
open Go.RowKit Go.Lib in
theorem Tryd.bytealg_IndexRabinKarp (s sep : ByteArray) (h1 : 1 ≤ sep.size) (h2 : sep.size ≤ s.size) (hs : s.size < 4294967281) (w : World) :
    Calls Tryd.prog 65 #[.string s, .string sep] w fun e w' => e = .returned (.int .i64 (Lib.index s.data.toList sep.data.toList)) ∧ w' = w := Any.bytealg_IndexRabinKarp Tryd.lays267 s sep h1 h2 hs w
def Tryd.lays219_ren : Go.Shelf.Ren := ⟨fun | 219 => 55 | 217 => 62 | 225 => 63 | 224 => 64 | 267 => 65 | 266 => 70 | 314 => 71 | n => n, fun | 9 => 9 | 3 => 3 | 4 => 4 | 5 => 5 | 46 => 103 | 146 => 107 | 51 => 106 | n => n, fun | 1 => 1 | n => n⟩
theorem Tryd.lays219 : Go.Proofs.Lays.n219 Tryd.prog Tryd.lays219_ren := {
  mixed := by kernel_rfl
  f217 := Tryd.func62.trans (congrArg some (by kernel_rfl))
  f219 := Tryd.func55.trans (congrArg some (by kernel_rfl))
  f224 := Tryd.func64.trans (congrArg some (by kernel_rfl))
  f225 := Tryd.func63.trans (congrArg some (by kernel_rfl))
  f266 := Tryd.func70.trans (congrArg some (by kernel_rfl))
  f267 := Tryd.func65.trans (congrArg some (by kernel_rfl))
  f314 := Tryd.func71.trans (congrArg some (by kernel_rfl))
  t3 := Tryd.underlying3
  a3 := Tryd.isAgg3
  z3 := Tryd.sizeOf3
  v3 := Tryd.zeroValue3
  t4 := Tryd.underlying4
  a4 := Tryd.isAgg4
  z4 := Tryd.sizeOf4
  v4 := Tryd.zeroValue4
  t5 := Tryd.underlying5
  a5 := Tryd.isAgg5
  z5 := Tryd.sizeOf5
  v5 := Tryd.zeroValue5
  t9 := Tryd.underlying9
  a9 := Tryd.isAgg9
  z9 := Tryd.sizeOf9
  v9 := Tryd.zeroValue9
  t46 := Tryd.underlying103
  a46 := Tryd.isAgg103
  z46 := Tryd.sizeOf103
  v46 := Tryd.zeroValue103
  t51 := Tryd.underlying106
  a51 := Tryd.isAgg106
  z51 := Tryd.sizeOf106
  v51 := Tryd.zeroValue106
  t146 := Tryd.underlying107
  a146 := Tryd.isAgg107
  z146 := Tryd.sizeOf107
  v146 := Tryd.zeroValue107
  g1 := by kernel_rfl }
open Go.RowKit Go.Lib in
/-- internal/stringslite.Index (what strings.Index calls) AT A substr OF ONE BYTE c: IT RETURNS 'Lib.indexByte s c'; the world is as it was. (LAID: no walk: one application.) -/
theorem Tryd.stringslite_Index_one (s : ByteArray) (c : UInt8) (w : World) :
    Calls Tryd.prog 55 #[.string s, .string ⟨#[c]⟩] w fun e w' => e = .returned (.int .i64 (Lib.indexByte s.data.toList c)) ∧ w' = w := Any.stringslite_Index_one Tryd.lays219 s c w
open Go.RowKit Go.Lib in
/-- internal/stringslite.Index (what strings.Index calls) AT A substr OF WHATEVER LENGTH: IT RETURNS 'Lib.index s substr'; the world is as it was. 'm': what internal/bytealg.MaxLen holds: whatever. (LAID: no walk: one application.) -/
theorem Tryd.stringslite_Index (s sub : ByteArray) (m : Int) (w : World) (hs : s.size < 4294967281) (hm : w.cell? ⟨1, 0, none⟩ = some (.int .i64 m)) :
    Calls Tryd.prog 55 #[.string s, .string sub] w fun e w' => e = .returned (.int .i64 (Lib.index s.data.toList sub.data.toList)) ∧ w' = w := Any.stringslite_Index Tryd.lays219 s sub m w hs hm
def Tryd.lays220_ren : Go.Shelf.Ren := ⟨fun | 220 => 44 | 219 => 55 | 217 => 62 | 225 => 63 | 224 => 64 | 267 => 65 | 266 => 70 | 314 => 71 | n => n, fun | 9 => 9 | 4 => 4 | 3 => 3 | 5 => 5 | 46 => 103 | 146 => 107 | 51 => 106 | n => n, fun | 1 => 1 | n => n⟩
theorem Tryd.lays220 : Go.Proofs.Lays.n220 Tryd.prog Tryd.lays220_ren := {
  mixed := by kernel_rfl
  f217 := Tryd.func62.trans (congrArg some (by kernel_rfl))
  f219 := Tryd.func55.trans (congrArg some (by kernel_rfl))
  f220 := Tryd.func44.trans (congrArg some (by kernel_rfl))
  f224 := Tryd.func64.trans (congrArg some (by kernel_rfl))
  f225 := Tryd.func63.trans (congrArg some (by kernel_rfl))
  f266 := Tryd.func70.trans (congrArg some (by kernel_rfl))
  f267 := Tryd.func65.trans (congrArg some (by kernel_rfl))
  f314 := Tryd.func71.trans (congrArg some (by kernel_rfl))
  t3 := Tryd.underlying3
  a3 := Tryd.isAgg3
  z3 := Tryd.sizeOf3
  v3 := Tryd.zeroValue3
  t4 := Tryd.underlying4
  a4 := Tryd.isAgg4
  z4 := Tryd.sizeOf4
  v4 := Tryd.zeroValue4
  t5 := Tryd.underlying5
  a5 := Tryd.isAgg5
  z5 := Tryd.sizeOf5
  v5 := Tryd.zeroValue5
  t9 := Tryd.underlying9
  a9 := Tryd.isAgg9
  z9 := Tryd.sizeOf9
  v9 := Tryd.zeroValue9
  t46 := Tryd.underlying103
  a46 := Tryd.isAgg103
  z46 := Tryd.sizeOf103
  v46 := Tryd.zeroValue103
  t51 := Tryd.underlying106
  a51 := Tryd.isAgg106
  z51 := Tryd.sizeOf106
  v51 := Tryd.zeroValue106
  t146 := Tryd.underlying107
  a146 := Tryd.isAgg107
  z146 := Tryd.sizeOf107
  v146 := Tryd.zeroValue107
  g1 := by kernel_rfl }
open Go.RowKit Go.Lib in
/-- internal/stringslite.Cut (what strings.Cut calls): IT RETURNS 'Lib.cut s sep'; the world is as it was but for the count of draws. (LAID: no walk: one application.) -/
theorem Tryd.stringslite_Cut (s sep : ByteArray) (m : Int) (w : World) (hs : s.size < 4294967281) (hm : w.cell? ⟨1, 0, none⟩ = some (.int .i64 m)) :
    Calls Tryd.prog 44 #[.string s, .string sep] w fun e w' => e = .returned (.tuple #[.string ⟨(Lib.cut s.data.toList sep.data.toList).1.toArray⟩, .string ⟨(Lib.cut s.data.toList sep.data.toList).2.1.toArray⟩, .bool (Lib.cut s.data.toList sep.data.toList).2.2]) ∧ ∃ n, w' = w.drewN n := Any.stringslite_Cut Tryd.lays220 s sep m w hs hm
def Tryd.lays145_ren : Go.Shelf.Ren := ⟨fun | 145 => 31 | 220 => 44 | 219 => 55 | 217 => 62 | 225 => 63 | 224 => 64 | 267 => 65 | 266 => 70 | 314 => 71 | n => n, fun | 9 => 9 | 4 => 4 | 59 => 68 | 3 => 3 | 5 => 5 | 46 => 103 | 146 => 107 | 51 => 106 | n => n, fun | 1 => 1 | n => n⟩
theorem Tryd.lays145 : Go.Proofs.Lays.n145 Tryd.prog Tryd.lays145_ren := {
  mixed := by kernel_rfl
  f145 := Tryd.func31.trans (congrArg some (by kernel_rfl))
  f217 := Tryd.func62.trans (congrArg some (by kernel_rfl))
  f219 := Tryd.func55.trans (congrArg some (by kernel_rfl))
  f220 := Tryd.func44.trans (congrArg some (by kernel_rfl))
  f224 := Tryd.func64.trans (congrArg some (by kernel_rfl))
  f225 := Tryd.func63.trans (congrArg some (by kernel_rfl))
  f266 := Tryd.func70.trans (congrArg some (by kernel_rfl))
  f267 := Tryd.func65.trans (congrArg some (by kernel_rfl))
  f314 := Tryd.func71.trans (congrArg some (by kernel_rfl))
  t3 := Tryd.underlying3
  a3 := Tryd.isAgg3
  z3 := Tryd.sizeOf3
  v3 := Tryd.zeroValue3
  t4 := Tryd.underlying4
  a4 := Tryd.isAgg4
  z4 := Tryd.sizeOf4
  v4 := Tryd.zeroValue4
  t5 := Tryd.underlying5
  a5 := Tryd.isAgg5
  z5 := Tryd.sizeOf5
  v5 := Tryd.zeroValue5
  t9 := Tryd.underlying9
  a9 := Tryd.isAgg9
  z9 := Tryd.sizeOf9
  v9 := Tryd.zeroValue9
  t46 := Tryd.underlying103
  a46 := Tryd.isAgg103
  z46 := Tryd.sizeOf103
  v46 := Tryd.zeroValue103
  t51 := Tryd.underlying106
  a51 := Tryd.isAgg106
  z51 := Tryd.sizeOf106
  v51 := Tryd.zeroValue106
  t59 := Tryd.underlying68
  a59 := Tryd.isAgg68
  z59 := Tryd.sizeOf68
  v59 := Tryd.zeroValue68
  t146 := Tryd.underlying107
  a146 := Tryd.isAgg107
  z146 := Tryd.sizeOf107
  v146 := Tryd.zeroValue107
  g1 := by kernel_rfl }
open Go.RowKit Go.Lib in
/-- strings.Cut: "Cut slices s around the first instance of sep, returning the text before and after sep. The found result reports whether sep appears in s. If sep does not appear in s, cut returns s, "", false.": IT RETURNS 'Lib.cut s sep'; the world is as it was but for the count of draws. (LAID: no walk: one application.) -/
theorem Tryd.strings_Cut (s sep : ByteArray) (m : Int) (w : World) (hs : s.size < 4294967281) (hm : w.cell? ⟨1, 0, none⟩ = some (.int .i64 m)) :
    Calls Tryd.prog 31 #[.string s, .string sep] w fun e w' => e = .returned (.tuple #[.string ⟨(Lib.cut s.data.toList sep.data.toList).1.toArray⟩, .string ⟨(Lib.cut s.data.toList sep.data.toList).2.1.toArray⟩, .bool (Lib.cut s.data.toList sep.data.toList).2.2]) ∧ ∃ n, w' = w.drewN n := Any.strings_Cut Tryd.lays145 s sep m w hs hm
def Tryd.laysM219_ren : Go.Shelf.Ren := ⟨fun | 219 => 55 | 217 => 62 | 225 => 63 | 224 => 64 | 267 => 65 | 266 => 70 | 314 => 71 | n => n, fun | 9 => 9 | 3 => 3 | 4 => 4 | 5 => 5 | 46 => 103 | 146 => 107 | 51 => 106 | n => n, fun | 1 => 1 | n => n⟩
theorem Tryd.laysM219 : Go.Proofs.LaysM.n219 Tryd.prog Tryd.laysM219_ren := {
  mixed := by kernel_rfl
  f217 := Tryd.func62.trans (congrArg some (by kernel_rfl))
  f219 := Tryd.func55.trans (congrArg some (by kernel_rfl))
  f224 := Tryd.func64.trans (congrArg some (by kernel_rfl))
  f225 := Tryd.func63.trans (congrArg some (by kernel_rfl))
  f266 := Tryd.func70.trans (congrArg some (by kernel_rfl))
  f267 := Tryd.func65.trans (congrArg some (by kernel_rfl))
  f314 := Tryd.func71.trans (congrArg some (by kernel_rfl))
  t3 := Tryd.underlying3
  a3 := Tryd.isAgg3
  z3 := Tryd.sizeOf3
  v3 := Tryd.zeroValue3
  t4 := Tryd.underlying4
  a4 := Tryd.isAgg4
  z4 := Tryd.sizeOf4
  v4 := Tryd.zeroValue4
  t5 := Tryd.underlying5
  a5 := Tryd.isAgg5
  z5 := Tryd.sizeOf5
  v5 := Tryd.zeroValue5
  t9 := Tryd.underlying9
  a9 := Tryd.isAgg9
  z9 := Tryd.sizeOf9
  v9 := Tryd.zeroValue9
  t46 := Tryd.underlying103
  a46 := Tryd.isAgg103
  z46 := Tryd.sizeOf103
  v46 := Tryd.zeroValue103
  t51 := Tryd.underlying106
  a51 := Tryd.isAgg106
  z51 := Tryd.sizeOf106
  v51 := Tryd.zeroValue106
  t146 := Tryd.underlying107
  a146 := Tryd.isAgg107
  z146 := Tryd.sizeOf107
  v146 := Tryd.zeroValue107
  g1 := by kernel_rfl
  i3 := by kernel_rfl
  i4 := by kernel_rfl
  i5 := by kernel_rfl
  i9 := by kernel_rfl
  i46 := by kernel_rfl
  i51 := by kernel_rfl
  i146 := by kernel_rfl
  m1 := by kernel_rfl
  s1_3 := fun w h => Go.Proofs.cell_of_shapedOpen_int (zero := #[.int .i64 0]) (t := 3) h (of_decide_eq_true (by kernel_rfl)) (by kernel_rfl) rfl (by kernel_rfl) (by kernel_rfl) Tryd.underlying3 }
open Go.RowKit Go.Lib in
theorem Tryd.stringslite_Index_shaped (s sub : ByteArray) (w : World) (h : w.ShapedOpen Tryd.prog) (hs : s.size < 4294967281) :
    Calls Tryd.prog 55 #[.string s, .string sub] w fun e w' => e = .returned (.int .i64 (Lib.index s.data.toList sub.data.toList)) ∧ w' = w := Any.stringslite_Index_shaped Tryd.laysM219 s sub w h hs
def Tryd.laysM220_ren : Go.Shelf.Ren := ⟨fun | 220 => 44 | 219 => 55 | 217 => 62 | 225 => 63 | 224 => 64 | 267 => 65 | 266 => 70 | 314 => 71 | n => n, fun | 9 => 9 | 4 => 4 | 3 => 3 | 5 => 5 | 46 => 103 | 146 => 107 | 51 => 106 | n => n, fun | 1 => 1 | n => n⟩
theorem Tryd.laysM220 : Go.Proofs.LaysM.n220 Tryd.prog Tryd.laysM220_ren := {
  mixed := by kernel_rfl
  f217 := Tryd.func62.trans (congrArg some (by kernel_rfl))
  f219 := Tryd.func55.trans (congrArg some (by kernel_rfl))
  f220 := Tryd.func44.trans (congrArg some (by kernel_rfl))
  f224 := Tryd.func64.trans (congrArg some (by kernel_rfl))
  f225 := Tryd.func63.trans (congrArg some (by kernel_rfl))
  f266 := Tryd.func70.trans (congrArg some (by kernel_rfl))
  f267 := Tryd.func65.trans (congrArg some (by kernel_rfl))
  f314 := Tryd.func71.trans (congrArg some (by kernel_rfl))
  t3 := Tryd.underlying3
  a3 := Tryd.isAgg3
  z3 := Tryd.sizeOf3
  v3 := Tryd.zeroValue3
  t4 := Tryd.underlying4
  a4 := Tryd.isAgg4
  z4 := Tryd.sizeOf4
  v4 := Tryd.zeroValue4
  t5 := Tryd.underlying5
  a5 := Tryd.isAgg5
  z5 := Tryd.sizeOf5
  v5 := Tryd.zeroValue5
  t9 := Tryd.underlying9
  a9 := Tryd.isAgg9
  z9 := Tryd.sizeOf9
  v9 := Tryd.zeroValue9
  t46 := Tryd.underlying103
  a46 := Tryd.isAgg103
  z46 := Tryd.sizeOf103
  v46 := Tryd.zeroValue103
  t51 := Tryd.underlying106
  a51 := Tryd.isAgg106
  z51 := Tryd.sizeOf106
  v51 := Tryd.zeroValue106
  t146 := Tryd.underlying107
  a146 := Tryd.isAgg107
  z146 := Tryd.sizeOf107
  v146 := Tryd.zeroValue107
  g1 := by kernel_rfl
  i3 := by kernel_rfl
  i4 := by kernel_rfl
  i5 := by kernel_rfl
  i9 := by kernel_rfl
  i46 := by kernel_rfl
  i51 := by kernel_rfl
  i146 := by kernel_rfl
  m1 := by kernel_rfl
  s1_3 := fun w h => Go.Proofs.cell_of_shapedOpen_int (zero := #[.int .i64 0]) (t := 3) h (of_decide_eq_true (by kernel_rfl)) (by kernel_rfl) rfl (by kernel_rfl) (by kernel_rfl) Tryd.underlying3 }
open Go.RowKit Go.Lib in
theorem Tryd.stringslite_Cut_shaped (s sep : ByteArray) (w : World) (h : w.ShapedOpen Tryd.prog) (hs : s.size < 4294967281) :
    Calls Tryd.prog 44 #[.string s, .string sep] w fun e w' => e = .returned (.tuple #[.string ⟨(Lib.cut s.data.toList sep.data.toList).1.toArray⟩, .string ⟨(Lib.cut s.data.toList sep.data.toList).2.1.toArray⟩, .bool (Lib.cut s.data.toList sep.data.toList).2.2]) ∧ ∃ n, w' = w.drewN n := Any.stringslite_Cut_shaped Tryd.laysM220 s sep w h hs
def Tryd.laysM145_ren : Go.Shelf.Ren := ⟨fun | 145 => 31 | 220 => 44 | 219 => 55 | 217 => 62 | 225 => 63 | 224 => 64 | 267 => 65 | 266 => 70 | 314 => 71 | n => n, fun | 9 => 9 | 4 => 4 | 59 => 68 | 3 => 3 | 5 => 5 | 46 => 103 | 146 => 107 | 51 => 106 | n => n, fun | 1 => 1 | n => n⟩
theorem Tryd.laysM145 : Go.Proofs.LaysM.n145 Tryd.prog Tryd.laysM145_ren := {
  mixed := by kernel_rfl
  f145 := Tryd.func31.trans (congrArg some (by kernel_rfl))
  f217 := Tryd.func62.trans (congrArg some (by kernel_rfl))
  f219 := Tryd.func55.trans (congrArg some (by kernel_rfl))
  f220 := Tryd.func44.trans (congrArg some (by kernel_rfl))
  f224 := Tryd.func64.trans (congrArg some (by kernel_rfl))
  f225 := Tryd.func63.trans (congrArg some (by kernel_rfl))
  f266 := Tryd.func70.trans (congrArg some (by kernel_rfl))
  f267 := Tryd.func65.trans (congrArg some (by kernel_rfl))
  f314 := Tryd.func71.trans (congrArg some (by kernel_rfl))
  t3 := Tryd.underlying3
  a3 := Tryd.isAgg3
  z3 := Tryd.sizeOf3
  v3 := Tryd.zeroValue3
  t4 := Tryd.underlying4
  a4 := Tryd.isAgg4
  z4 := Tryd.sizeOf4
  v4 := Tryd.zeroValue4
  t5 := Tryd.underlying5
  a5 := Tryd.isAgg5
  z5 := Tryd.sizeOf5
  v5 := Tryd.zeroValue5
  t9 := Tryd.underlying9
  a9 := Tryd.isAgg9
  z9 := Tryd.sizeOf9
  v9 := Tryd.zeroValue9
  t46 := Tryd.underlying103
  a46 := Tryd.isAgg103
  z46 := Tryd.sizeOf103
  v46 := Tryd.zeroValue103
  t51 := Tryd.underlying106
  a51 := Tryd.isAgg106
  z51 := Tryd.sizeOf106
  v51 := Tryd.zeroValue106
  t59 := Tryd.underlying68
  a59 := Tryd.isAgg68
  z59 := Tryd.sizeOf68
  v59 := Tryd.zeroValue68
  t146 := Tryd.underlying107
  a146 := Tryd.isAgg107
  z146 := Tryd.sizeOf107
  v146 := Tryd.zeroValue107
  g1 := by kernel_rfl
  i3 := by kernel_rfl
  i4 := by kernel_rfl
  i5 := by kernel_rfl
  i9 := by kernel_rfl
  i46 := by kernel_rfl
  i51 := by kernel_rfl
  i59 := by kernel_rfl
  i146 := by kernel_rfl
  m1 := by kernel_rfl
  s1_3 := fun w h => Go.Proofs.cell_of_shapedOpen_int (zero := #[.int .i64 0]) (t := 3) h (of_decide_eq_true (by kernel_rfl)) (by kernel_rfl) rfl (by kernel_rfl) (by kernel_rfl) Tryd.underlying3 }
open Go.RowKit Go.Lib in
theorem Tryd.strings_Cut_shaped (s sep : ByteArray) (w : World) (h : w.ShapedOpen Tryd.prog) (hs : s.size < 4294967281) :
    Calls Tryd.prog 31 #[.string s, .string sep] w fun e w' => e = .returned (.tuple #[.string ⟨(Lib.cut s.data.toList sep.data.toList).1.toArray⟩, .string ⟨(Lib.cut s.data.toList sep.data.toList).2.1.toArray⟩, .bool (Lib.cut s.data.toList sep.data.toList).2.2]) ∧ ∃ n, w' = w.drewN n := Any.strings_Cut_shaped Tryd.laysM145 s sep w h hs
def Tryd.lays197_ren : Go.Shelf.Ren := ⟨fun | 197 => 59 | 260 => 67 | n => n, fun | 9 => 9 | 21 => 21 | 3 => 3 | 4 => 4 | 5 => 5 | 105 => 98 | 119 => 111 | 0 => 0 | 46 => 103 | 139 => 114 | 138 => 113 | n => n, fun | 3 => 2 | 4 => 3 | n => n⟩
theorem Tryd.lays197 : Go.Proofs.Lays.n197 Tryd.prog Tryd.lays197_ren := {
  mixed := by kernel_rfl
  f197 := Tryd.func59.trans (congrArg some (by kernel_rfl))
  f260 := Tryd.func67.trans (congrArg some (by kernel_rfl))
  t0 := Tryd.underlying0
  a0 := Tryd.isAgg0
  z0 := Tryd.sizeOf0
  v0 := Tryd.zeroValue0
  t3 := Tryd.underlying3
  a3 := Tryd.isAgg3
  z3 := Tryd.sizeOf3
  v3 := Tryd.zeroValue3
  t4 := Tryd.underlying4
  a4 := Tryd.isAgg4
  z4 := Tryd.sizeOf4
  v4 := Tryd.zeroValue4
  t5 := Tryd.underlying5
  a5 := Tryd.isAgg5
  z5 := Tryd.sizeOf5
  v5 := Tryd.zeroValue5
  t9 := Tryd.underlying9
  a9 := Tryd.isAgg9
  z9 := Tryd.sizeOf9
  v9 := Tryd.zeroValue9
  t21 := Tryd.underlying21
  a21 := Tryd.isAgg21
  z21 := Tryd.sizeOf21
  v21 := Tryd.zeroValue21
  t46 := Tryd.underlying103
  a46 := Tryd.isAgg103
  z46 := Tryd.sizeOf103
  v46 := Tryd.zeroValue103
  t105 := Tryd.underlying98
  a105 := Tryd.isAgg98
  z105 := Tryd.sizeOf98
  v105 := Tryd.zeroValue98
  t119 := Tryd.underlying111
  a119 := Tryd.isAgg111
  z119 := Tryd.sizeOf111
  t138 := Tryd.underlying113
  a138 := Tryd.isAgg113
  z138 := Tryd.sizeOf113
  v138 := Tryd.zeroValue113
  t139 := Tryd.underlying114
  a139 := Tryd.isAgg114
  z139 := Tryd.sizeOf114
  v139 := Tryd.zeroValue114
  g3 := by kernel_rfl
  g4 := by kernel_rfl }
open Go.RowKit Go.Lib in
/-- unicode/utf8.DecodeRuneInString: "DecodeRuneInString is like DecodeRune but its input is a string.": ("DecodeRune unpacks the first UTF-8 encoding in p and returns the rune and its width in bytes."): WHERE s BEGINS WITH AN ASCII BYTE x: (x, 1). (LAID: no walk: one application.) -/
theorem Tryd.utf8_DecodeRuneInString_ascii (s : ByteArray) (x : UInt8) (w : World) (h0 : s.data.toList[0]? = some x) (hx : x.toNat < 128) :
    Calls Tryd.prog 59 #[.string s] w fun e w' => e = .returned (.tuple #[.int .i32 x.toNat, .int .i64 1]) ∧ w' = w := Any.utf8_DecodeRuneInString_ascii Tryd.lays197 s x w h0 hx
def Tryd.lays152_ren : Go.Shelf.Ren := ⟨fun | 152 => 68 | 137 => 73 | 119 => 74 | 224 => 64 | 225 => 63 | 217 => 62 | 266 => 70 | n => n, fun | 9 => 9 | 21 => 21 | 3 => 3 | 4 => 4 | 5 => 5 | 0 => 0 | 46 => 103 | n => n, fun | n => n⟩
theorem Tryd.lays152 : Go.Proofs.Lays.n152 Tryd.prog Tryd.lays152_ren := {
  mixed := by kernel_rfl
  f119 := Tryd.func74.trans (congrArg some (by kernel_rfl))
  f137 := Tryd.func73.trans (congrArg some (by kernel_rfl))
  f152 := Tryd.func68.trans (congrArg some (by kernel_rfl))
  f217 := Tryd.func62.trans (congrArg some (by kernel_rfl))
  f224 := Tryd.func64.trans (congrArg some (by kernel_rfl))
  f225 := Tryd.func63.trans (congrArg some (by kernel_rfl))
  f266 := Tryd.func70.trans (congrArg some (by kernel_rfl))
  t0 := Tryd.underlying0
  a0 := Tryd.isAgg0
  z0 := Tryd.sizeOf0
  v0 := Tryd.zeroValue0
  t3 := Tryd.underlying3
  a3 := Tryd.isAgg3
  z3 := Tryd.sizeOf3
  v3 := Tryd.zeroValue3
  t4 := Tryd.underlying4
  a4 := Tryd.isAgg4
  z4 := Tryd.sizeOf4
  v4 := Tryd.zeroValue4
  t5 := Tryd.underlying5
  a5 := Tryd.isAgg5
  z5 := Tryd.sizeOf5
  v5 := Tryd.zeroValue5
  t9 := Tryd.underlying9
  a9 := Tryd.isAgg9
  z9 := Tryd.sizeOf9
  v9 := Tryd.zeroValue9
  t21 := Tryd.underlying21
  a21 := Tryd.isAgg21
  z21 := Tryd.sizeOf21
  v21 := Tryd.zeroValue21
  t46 := Tryd.underlying103
  a46 := Tryd.isAgg103
  z46 := Tryd.sizeOf103
  v46 := Tryd.zeroValue103 }
open Go.RowKit Go.Lib in
theorem Tryd.strings_IndexRune_ascii (s : ByteArray) (r : Int) (w : World) (h0 : 0 ≤ r) (h1 : r < 128) :
    Calls Tryd.prog 68 #[.string s, .int .i32 r] w fun e w' => e = .returned (.int .i64 (Lib.indexByte s.data.toList r.toNat.toUInt8)) ∧ w' = w := Any.strings_IndexRune_ascii Tryd.lays152 s r w h0 h1
def Tryd.lays151_ren : Go.Shelf.Ren := ⟨fun | 151 => 60 | 152 => 68 | 137 => 73 | 119 => 74 | 224 => 64 | 225 => 63 | 217 => 62 | 266 => 70 | n => n, fun | 9 => 9 | 21 => 21 | 4 => 4 | 3 => 3 | 5 => 5 | 0 => 0 | 46 => 103 | n => n, fun | n => n⟩
theorem Tryd.lays151 : Go.Proofs.Lays.n151 Tryd.prog Tryd.lays151_ren := {
  mixed := by kernel_rfl
  f119 := Tryd.func74.trans (congrArg some (by kernel_rfl))
  f137 := Tryd.func73.trans (congrArg some (by kernel_rfl))
  f151 := Tryd.func60.trans (congrArg some (by kernel_rfl))
  f152 := Tryd.func68.trans (congrArg some (by kernel_rfl))
  f217 := Tryd.func62.trans (congrArg some (by kernel_rfl))
  f224 := Tryd.func64.trans (congrArg some (by kernel_rfl))
  f225 := Tryd.func63.trans (congrArg some (by kernel_rfl))
  f266 := Tryd.func70.trans (congrArg some (by kernel_rfl))
  t0 := Tryd.underlying0
  a0 := Tryd.isAgg0
  z0 := Tryd.sizeOf0
  v0 := Tryd.zeroValue0
  t3 := Tryd.underlying3
  a3 := Tryd.isAgg3
  z3 := Tryd.sizeOf3
  v3 := Tryd.zeroValue3
  t4 := Tryd.underlying4
  a4 := Tryd.isAgg4
  z4 := Tryd.sizeOf4
  v4 := Tryd.zeroValue4
  t5 := Tryd.underlying5
  a5 := Tryd.isAgg5
  z5 := Tryd.sizeOf5
  v5 := Tryd.zeroValue5
  t9 := Tryd.underlying9
  a9 := Tryd.isAgg9
  z9 := Tryd.sizeOf9
  v9 := Tryd.zeroValue9
  t21 := Tryd.underlying21
  a21 := Tryd.isAgg21
  z21 := Tryd.sizeOf21
  v21 := Tryd.zeroValue21
  t46 := Tryd.underlying103
  a46 := Tryd.isAgg103
  z46 := Tryd.sizeOf103
  v46 := Tryd.zeroValue103 }
open Go.RowKit Go.Lib in
theorem Tryd.strings_ContainsRune_ascii (s : ByteArray) (r : Int) (w : World) (h0 : 0 ≤ r) (h1 : r < 128) :
    Calls Tryd.prog 60 #[.string s, .int .i32 r] w fun e w' => e = .returned (.bool (decide (0 ≤ Lib.indexByte s.data.toList r.toNat.toUInt8))) ∧ w' = w := Any.strings_ContainsRune_ascii Tryd.lays151 s r w h0 h1
def Tryd.lays227_ren : Go.Shelf.Ren := ⟨fun | 227 => 49 | n => n, fun | 9 => 9 | 116 => 82 | 4 => 4 | 0 => 0 | 3 => 3 | 5 => 5 | n => n, fun | n => n⟩
theorem Tryd.lays227 : Go.Proofs.Lays.n227 Tryd.prog Tryd.lays227_ren := {
  mixed := by kernel_rfl
  f227 := Tryd.func49.trans (congrArg some (by kernel_rfl))
  t0 := Tryd.underlying0
  a0 := Tryd.isAgg0
  z0 := Tryd.sizeOf0
  v0 := Tryd.zeroValue0
  t3 := Tryd.underlying3
  a3 := Tryd.isAgg3
  z3 := Tryd.sizeOf3
  v3 := Tryd.zeroValue3
  t4 := Tryd.underlying4
  a4 := Tryd.isAgg4
  z4 := Tryd.sizeOf4
  v4 := Tryd.zeroValue4
  t5 := Tryd.underlying5
  a5 := Tryd.isAgg5
  z5 := Tryd.sizeOf5
  v5 := Tryd.zeroValue5
  t9 := Tryd.underlying9
  a9 := Tryd.isAgg9
  z9 := Tryd.sizeOf9
  v9 := Tryd.zeroValue9
  t116 := Tryd.underlying82
  a116 := Tryd.isAgg82
  z116 := Tryd.sizeOf82 }
open Go.RowKit Go.Lib in
theorem Tryd.strings_makeASCIISet (hv116 : ∀ w, (zeroValue 82).run Tryd.prog w = .ok (.agg (Array.replicate 256 (.bool false))) w) (chars : ByteArray) (w : World) (hs : chars.size < 4294967281) (hascii : ∀ (j : Nat) b, chars.data.toList[j]? = some b → b.toNat < 128) :
    Calls Tryd.prog 49 #[.string chars] w fun e w' => e = .returned (.tuple #[.agg (Lib.setCells chars.data.toList), .bool true]) ∧ w' = w.alloc (.cells (Lib.setCells chars.data.toList) 82) := Any.strings_makeASCIISet Tryd.lays227 hv116 (by kernel_rfl) chars w hs hascii
def Tryd.lays228_ren : Go.Shelf.Ren := ⟨fun | 228 => 58 | n => n, fun | 124 => 86 | 5 => 5 | 4 => 4 | 0 => 0 | 116 => 82 | n => n, fun | n => n⟩
theorem Tryd.lays228 : Go.Proofs.Lays.n228 Tryd.prog Tryd.lays228_ren := {
  mixed := by kernel_rfl
  f228 := Tryd.func58.trans (congrArg some (by kernel_rfl))
  t0 := Tryd.underlying0
  a0 := Tryd.isAgg0
  z0 := Tryd.sizeOf0
  v0 := Tryd.zeroValue0
  t4 := Tryd.underlying4
  a4 := Tryd.isAgg4
  z4 := Tryd.sizeOf4
  v4 := Tryd.zeroValue4
  t5 := Tryd.underlying5
  a5 := Tryd.isAgg5
  z5 := Tryd.sizeOf5
  v5 := Tryd.zeroValue5
  t116 := Tryd.underlying82
  a116 := Tryd.isAgg82
  z116 := Tryd.sizeOf82
  t124 := Tryd.underlying86
  a124 := Tryd.isAgg86
  z124 := Tryd.sizeOf86
  v124 := Tryd.zeroValue86 }
open Go.RowKit Go.Lib in
/-- '(as *asciiSet) contains(c)': 'as[c]': the set lies at block b, whole. (LAID: no walk: one application.) -/
theorem Tryd.asciiSet_contains (b : Nat) (x : UInt8) (v : Bool) (w : World) (hc : w.cell? ⟨b, x.toNat, none⟩ = some (.bool v)) :
    Calls Tryd.prog 58 #[.pointer (some ⟨b, 0, none⟩), .int .u8 x.toNat] w fun e w' => e = .returned (.bool v) ∧ w' = w := Any.asciiSet_contains Tryd.lays228 b x v w hc
def Tryd.lays260_ren : Go.Shelf.Ren := ⟨fun | 260 => 67 | n => n, fun | 9 => 9 | 21 => 21 | 3 => 3 | 4 => 4 | 5 => 5 | 119 => 111 | 0 => 0 | 46 => 103 | 139 => 114 | 138 => 113 | n => n, fun | 3 => 2 | 4 => 3 | n => n⟩
theorem Tryd.lays260 : Go.Proofs.Lays.n260 Tryd.prog Tryd.lays260_ren := {
  mixed := by kernel_rfl
  f260 := Tryd.func67.trans (congrArg some (by kernel_rfl))
  t0 := Tryd.underlying0
  a0 := Tryd.isAgg0
  z0 := Tryd.sizeOf0
  v0 := Tryd.zeroValue0
  t3 := Tryd.underlying3
  a3 := Tryd.isAgg3
  z3 := Tryd.sizeOf3
  v3 := Tryd.zeroValue3
  t4 := Tryd.underlying4
  a4 := Tryd.isAgg4
  z4 := Tryd.sizeOf4
  v4 := Tryd.zeroValue4
  t5 := Tryd.underlying5
  a5 := Tryd.isAgg5
  z5 := Tryd.sizeOf5
  v5 := Tryd.zeroValue5
  t9 := Tryd.underlying9
  a9 := Tryd.isAgg9
  z9 := Tryd.sizeOf9
  v9 := Tryd.zeroValue9
  t21 := Tryd.underlying21
  a21 := Tryd.isAgg21
  z21 := Tryd.sizeOf21
  v21 := Tryd.zeroValue21
  t46 := Tryd.underlying103
  a46 := Tryd.isAgg103
  z46 := Tryd.sizeOf103
  v46 := Tryd.zeroValue103
  t119 := Tryd.underlying111
  a119 := Tryd.isAgg111
  z119 := Tryd.sizeOf111
  t138 := Tryd.underlying113
  a138 := Tryd.isAgg113
  z138 := Tryd.sizeOf113
  v138 := Tryd.zeroValue113
  t139 := Tryd.underlying114
  a139 := Tryd.isAgg114
  z139 := Tryd.sizeOf114
  v139 := Tryd.zeroValue114
  g3 := by kernel_rfl
  g4 := by kernel_rfl }
open Go.RowKit Go.Lib in
theorem Tryd.utf8_decodeRuneInStringSlow (s : ByteArray) (w : World) (hT : Lib.Utf8Tabs 2 3 w) :
    Calls Tryd.prog 67 #[.string s] w fun e w' => e = .returned (.tuple #[.int .i32 (Lib.decodeGo s).1, .int .i64 (Lib.decodeGo s).2]) ∧ Below w.heap.size w w' := Any.utf8_decodeRuneInStringSlow Tryd.lays260 s w hT
open Go.RowKit Go.Lib in
/-- **unicode/utf8.DecodeRuneInString AT EVERY STRING.** (LAID: no walk: one application.) -/
theorem Tryd.utf8_DecodeRuneInString (s : ByteArray) (w : World) (hT : Lib.Utf8Tabs 2 3 w) :
    Calls Tryd.prog 59 #[.string s] w fun e w' => e = .returned (.tuple #[.int .i32 (Lib.decodeGo s).1, .int .i64 (Lib.decodeGo s).2]) ∧ Below w.heap.size w w' := Any.utf8_DecodeRuneInString Tryd.lays197 s w hT
def Tryd.lays271_ren : Go.Shelf.Ren := ⟨fun | 271 => 61 | 120 => 69 | 197 => 59 | 260 => 67 | n => n, fun | 9 => 9 | 21 => 21 | 3 => 3 | 4 => 4 | 5 => 5 | 105 => 98 | 119 => 111 | 0 => 0 | 46 => 103 | 139 => 114 | 138 => 113 | n => n, fun | 3 => 2 | 4 => 3 | n => n⟩
theorem Tryd.lays271 : Go.Proofs.Lays.n271 Tryd.prog Tryd.lays271_ren := {
  mixed := by kernel_rfl
  f120 := Tryd.func69.trans (congrArg some (by kernel_rfl))
  f197 := Tryd.func59.trans (congrArg some (by kernel_rfl))
  f260 := Tryd.func67.trans (congrArg some (by kernel_rfl))
  f271 := Tryd.func61.trans (congrArg some (by kernel_rfl))
  t0 := Tryd.underlying0
  a0 := Tryd.isAgg0
  z0 := Tryd.sizeOf0
  v0 := Tryd.zeroValue0
  t3 := Tryd.underlying3
  a3 := Tryd.isAgg3
  z3 := Tryd.sizeOf3
  v3 := Tryd.zeroValue3
  t4 := Tryd.underlying4
  a4 := Tryd.isAgg4
  z4 := Tryd.sizeOf4
  v4 := Tryd.zeroValue4
  t5 := Tryd.underlying5
  a5 := Tryd.isAgg5
  z5 := Tryd.sizeOf5
  v5 := Tryd.zeroValue5
  t9 := Tryd.underlying9
  a9 := Tryd.isAgg9
  z9 := Tryd.sizeOf9
  v9 := Tryd.zeroValue9
  t21 := Tryd.underlying21
  a21 := Tryd.isAgg21
  z21 := Tryd.sizeOf21
  v21 := Tryd.zeroValue21
  t46 := Tryd.underlying103
  a46 := Tryd.isAgg103
  z46 := Tryd.sizeOf103
  v46 := Tryd.zeroValue103
  t105 := Tryd.underlying98
  a105 := Tryd.isAgg98
  z105 := Tryd.sizeOf98
  v105 := Tryd.zeroValue98
  t119 := Tryd.underlying111
  a119 := Tryd.isAgg111
  z119 := Tryd.sizeOf111
  t138 := Tryd.underlying113
  a138 := Tryd.isAgg113
  z138 := Tryd.sizeOf113
  v138 := Tryd.zeroValue113
  t139 := Tryd.underlying114
  a139 := Tryd.isAgg114
  z139 := Tryd.sizeOf114
  v139 := Tryd.zeroValue114
  g3 := by kernel_rfl
  g4 := by kernel_rfl }
open Go.RowKit Go.Lib in
/-- **unicode/utf8.DecodeLastRuneInString AT EVERY STRING.** (LAID: no walk: one application.) -/
theorem Tryd.utf8_DecodeLastRuneInString (s : ByteArray) (w : World) (hs : s.size ≤ 9223372036854775807) (hT : Lib.Utf8Tabs 2 3 w) :
    Calls Tryd.prog 61 #[.string s] w fun e w' => e = .returned (.tuple #[.int .i32 (Lib.decodeLastL s.data.toList).1, .int .i64 (Lib.decodeLastL s.data.toList).2]) ∧ Below w.heap.size w w' := Any.utf8_DecodeLastRuneInString Tryd.lays271 s w hs hT
end Go.Proofs

/- Trimming, values and small letters, the program's and the reference's, are those of the text Tq. Texts have a length that Go knows; small letters: at most 1000000 bytes. -/
namespace Go.Proofs.YtfacmnooklljnaaDoor
set_option linter.unusedVariables false
set_option linter.unusedSimpArgs false
open Go.RowKit Go.Shelf
set_option maxHeartbeats 1000000
theorem ba_eq {x : ByteArray} {l : List UInt8} (h : x.data.toList = l) : x = ⟨l.toArray⟩ := by subst h; cases x; simp
theorem tok_trim (s : ByteArray) (w : World) (hs : s.size ≤ 9223372036854775807) :
    Calls Tryd.prog 26 #[.string s] w fun e w' => e = .returned (.string ⟨(Tp.trim s.data.toList).toArray⟩) ∧ Below w.heap.size w w' := by
  have K : Hid (∀ W, Calls Tryd.prog 38 #[.string s, .string ⟨#[32, 9]⟩] W fun e w' => e = .returned (.string ⟨(Tp.trim s.data.toList).toArray⟩) ∧ Below W.heap.size W w') := by
    intro W
    have h := Any.strings_Trim_laid Tryd.lays160 (by kernel_rfl) s ⟨#[32, 9]⟩ W hs (by decide) (ascii_of_all (by decide))
    rw [show (⟨#[32, 9]⟩ : ByteArray).data.toList = [32, 9] from rfl, Tp.trimS_is] at h
    exact h
  go_enter Tryd.func26, Tryd.ntmps26
  go_wp2_with fail
  refine (K.out _).mono ?_
  rintro e w' ⟨rfl, hb⟩
  go_wp2
  go_ret
  exact ⟨rfl, hb⟩
theorem last_split (u : ByteArray) (h : 0 < u.size) : u.data.toList = (u.extract 0 (u.size - 1)).data.toList ++ [u[u.size - 1]] := by
  rw [Lib.extract_data, List.drop_zero, Nat.sub_zero]
  have := take_snoc u (u.size - 1) (by omega)
  rw [← this, List.take_of_length_le (by simp; omega)]
theorem slice_head (u : ByteArray) (w : World) (h : 0 < u.size) (hu : u.size ≤ 9223372036854775807) : (Instr.slice 9 (.string u) none (some (.int .i64 ((u.size : Int) - 1))) none).run Tryd.prog w = .ok (.string (u.extract 0 (u.size - 1))) w := by
  have e : ((u.size : Int) - 1) = ((u.size - 1 : Nat) : Int) := by omega
  rw [e]
  simp [go_sem, Tryd.underlying9]
theorem index_last (u : ByteArray) (w : World) (h : 0 < u.size) (hu : u.size ≤ 9223372036854775807) : (Instr.index 9 (.string u) (.int .i64 ((u.size : Int) - 1))).run Tryd.prog w = .ok (.int .u8 ((u[u.size - 1]'(by omega)).toNat : Int)) w := by
  have e : ((u.size : Int) - 1) = ((u.size - 1 : Nat) : Int) := by omega
  have hi : (0 : Int) ≤ ((u.size - 1 : Nat) : Int) ∧ ((u.size - 1 : Nat) : Int) < u.size := by omega
  rw [e, run_index_string w 9 u .i64 _ Tryd.underlying9, dif_pos hi]
  simp only [Int.toNat_natCast]
theorem nil_of_size {u : ByteArray} (h : ¬ 0 < u.size) : u.data.toList = [] := by
  apply List.length_eq_zero_iff.1
  have : u.size = 0 := by omega
  exact this
end Go.Proofs.YtfacmnooklljnaaDoor

/- Whether a text is a token or a value, and its small letters, the program's and the reference's, are those of the text Tq. Texts have at most 1000000 bytes. -/
namespace Go.Proofs.YtfacmnooklljnaaDoor
set_option linter.unusedVariables false
set_option linter.unusedSimpArgs false
open Go.RowKit Go.Shelf
set_option maxHeartbeats 1000000
theorem tok_classes (w : World) :
    Calls Tryd.prog 28 #[] w fun e w' => e = .returned (.agg #[.func (.func 39) #[] #[], .func (.func 41) #[] #[]]) ∧ Below w.heap.size w w' := by
  go_enter Tryd.func28, Tryd.ntmps28
  go_wp2
  refine bodyPost_ret (v := .agg #[.func (.func 39) #[] #[], .func (.func 41) #[] #[]]) (by simp [results, Tryd.results28, go_sem]) rfl ⟨rfl, (Below.refl _ _).alloc (Nat.le_refl _) _⟩
theorem classes_0 (w : World) : (Instr.index 65 (.agg #[.func (.func 39) #[] #[], .func (.func 41) #[] #[]]) (.int .i64 0)).run Tryd.prog w = .ok (.func (.func 39) #[] #[]) w := by kernel_rfl
theorem classes_1 (w : World) : (Instr.index 65 (.agg #[.func (.func 39) #[] #[], .func (.func 41) #[] #[]]) (.int .i64 1)).run Tryd.prog w = .ok (.func (.func 41) #[] #[]) w := by kernel_rfl
theorem beq_bytes (s : ByteArray) (l : List UInt8) : (((⟨l.toArray⟩ : ByteArray).toList == s.toList)) = (l == s.data.toList) := by
  rw [ByteArray.toList_eq, ByteArray.toList_eq]
theorem tok_token (s : ByteArray) (w : World) (hs : s.size ≤ 9223372036854775807) :
    Calls Tryd.prog 33 #[.string s] w fun e w' => e = .returned (.bool (Tp.isTok s.data.toList)) ∧ Below w.heap.size w w' := by
  have K := Lib.hid (fun W => tok_all 39 Tp.tokB (.inl rfl) cls0 s W hs)
  have i0 := classes_0
  by_cases h0 : s.data.toList.isEmpty = true
  · have HR := Lib.hid (show Tp.isTok s.data.toList = false by unfold Tp.isTok; rw [h0]; rfl)
    have h1 : s.toList.isEmpty = true := by rw [ByteArray.toList_eq]; exact h0
    go_enter Tryd.func33, Tryd.ntmps33
    go_wp2_with fail
    go_ret
    exact ⟨ret_bool HR.out.symm, Below.refl _ _⟩
  · have h0' : s.data.toList.isEmpty = false := by simpa using h0
    have HR := Lib.hid (show Tp.isTok s.data.toList = Tp.allT Tp.tokB s.data.toList by unfold Tp.isTok; rw [h0']; rfl)
    have h1 : s.toList.isEmpty = false := by rw [ByteArray.toList_eq]; exact h0'
    clear h0
    go_enter Tryd.func33, Tryd.ntmps33
    go_wp2_with fail
    refine (tok_classes _).mono ?_
    rintro e w1 ⟨rfl, hb⟩
    go_wp2_with fail
    refine (K.out _).mono ?_
    rintro e w2 ⟨rfl, hb2⟩
    go_wp2
    go_ret
    exact ⟨ret_bool HR.out.symm, hb.trans (hb2.mono hb.size)⟩
theorem tok_value (s : ByteArray) (w : World) (hs : s.size ≤ 9223372036854775807) :
    Calls Tryd.prog 22 #[.string s] w fun e w' => e = .returned (.bool (Tp.isVal s.data.toList)) ∧ Below w.heap.size w w' := by
  have K := Lib.hid (fun W => tok_all 41 Tp.valB (.inr rfl) cls1 s W hs)
  have T := Lib.hid (fun W => tok_trim s W hs)
  have i1 := classes_1
  go_enter Tryd.func22, Tryd.ntmps22
  go_wp2_with fail
  refine (T.out _).mono ?_
  rintro e w1 ⟨rfl, hb⟩
  obtain ⟨t, ht⟩ : ∃ t : ByteArray, (⟨(Tp.trim s.data.toList).toArray⟩ : ByteArray) = t := ⟨_, rfl⟩
  rw [ht]
  have hq : (t.toList == s.toList) = (Tp.trim s.data.toList == s.data.toList) := by rw [← ht]; exact beq_bytes s _
  obtain ⟨d, hd⟩ : ∃ d, (Tp.trim s.data.toList == s.data.toList) = d := ⟨_, rfl⟩
  have HD := Lib.hid hd
  rw [hd] at hq
  clear hd ht
  cases d
  · go_wp2_with fail
    go_ret
    exact ⟨ret_bool (by unfold Tp.isVal; rw [HD.out]; rfl), hb⟩
  · go_wp2_with fail
    refine (tok_classes _).mono ?_
    rintro e w2 ⟨rfl, hb2⟩
    go_wp2_with fail
    refine (K.out _).mono ?_
    rintro e w3 ⟨rfl, hb3⟩
    go_wp2
    go_ret
    exact ⟨ret_bool (by unfold Tp.isVal; rw [HD.out]; rfl), hb.trans ((hb2.mono hb.size).trans (hb3.mono (hb.trans (hb2.mono hb.size)).size))⟩
end Go.Proofs.YtfacmnooklljnaaDoor

/- Values and small letters, the reference's and the program's. Texts have a length that Go knows. -/
namespace Go.Proofs.YtfacmnooklljnaaDoor
set_option linter.unusedVariables false
set_option linter.unusedSimpArgs false
open Go.RowKit Go.Shelf
set_option maxHeartbeats 1000000
/-- the row of a text's bytes, of which the first k are in small letters -/
def lowF (l : List UInt8) (k j : Nat) : Int := if j < k then Tp.lowB ((l.getD j 0).toNat : Int) else ((l.getD j 0).toNat : Int)
def LowRow (w : World) (B n : Nat) (l : List UInt8) (k : Nat) : Prop := ∀ j, j < n → w.cell? ⟨B, j, none⟩ = some (.int .u8 (lowF l k j)) ∧ w.frozen? ⟨B, j, none⟩ = false
theorem lowRow_start (w : World) (s : ByteArray) (B : Nat) (hB : w.heap.size = B) : LowRow (Lib.bytesWorld w 5 s) B s.size s.data.toList 0 := by
  subst hB
  intro j hj
  refine ⟨?_, ?_⟩
  · rw [Lib.bytesWorld_cell w 5 s j hj]; rfl
  · unfold World.frozen?
    rw [show (⟨w.heap.size, j, none⟩ : Addr).block = w.heap.size from rfl, Lib.bytesWorld_at_new]
    have : j < (Lib.bytesCells w 5 s).size := by simp [Lib.bytesCells]; omega
    simp
    omega
theorem lowRow_keep {w : World} {B n : Nat} {l : List UInt8} {k : Nat} (h : LowRow w B n l k) (hc : Tp.lowB ((l.getD k 0).toNat : Int) = ((l.getD k 0).toNat : Int)) : LowRow w B n l (k + 1) := by
  intro j hj
  refine ⟨?_, (h j hj).2⟩
  rw [(h j hj).1]
  unfold lowF
  by_cases hjk : j = k
  · subst hjk; rw [if_neg (by omega), if_pos (by omega), hc]
  · by_cases h2 : j < k
    · rw [if_pos h2, if_pos (by omega)]
    · rw [if_neg h2, if_neg (by omega)]
theorem lowRow_set {w : World} {B n : Nat} {l : List UInt8} {k : Nat} {x : Int} (h : LowRow w B n l k) (hk : k < n) (hc : Tp.lowB ((l.getD k 0).toNat : Int) = x) : LowRow (w.setCell ⟨B, k, none⟩ (.int .u8 x)) B n l (k + 1) := by
  intro j hj
  refine ⟨?_, by rw [World.frozen?_setCell]; exact (h j hj).2⟩
  by_cases hjk : j = k
  · subst hjk
    rw [World.cell?_setCell_same _ _ _ (h j hj).1]
    unfold lowF
    rw [if_pos (by omega), hc]
  · rw [World.cell?_setCell_other _ _ _ _ (by intro e; cases e; exact hjk rfl), (h j hj).1]
    unfold lowF
    by_cases h2 : j < k
    · rw [if_pos h2, if_pos (by omega)]
    · rw [if_neg h2, if_neg (by omega)]
theorem low_back {w : World} {B cap : Nat} {s : ByteArray} (h : LowRow w B s.size s.data.toList s.size) :
    (convert 76 9 (.slice (some ⟨B, 0, none⟩) s.size cap)).run Tryd.prog w = .ok (.string ⟨(Tp.lower s.data.toList).toArray⟩) w := by
  have hl : (Tp.lower s.data.toList).length = s.size := by unfold Tp.lower; rw [List.length_map]; rfl
  have := run_convert_bytes_back (P := Tryd.prog) w 76 9 5 ⟨B, 0, none⟩ cap (Tp.lower s.data.toList) Tryd.underlying76 Tryd.underlying5 Tryd.underlying9 (fun j hj => by
    have hadd : (⟨B, 0, none⟩ : Addr).add j = ⟨B, j, none⟩ := by simp [Addr.add]; exact fun e => e.symm
    rw [hadd, (h j (by omega)).1]
    unfold lowF
    rw [if_pos (by omega)]
    have hj' : j < s.data.toList.length := by simpa [Tp.lower] using hj
    have : (Tp.lower s.data.toList)[j] = UInt8.ofNat (Tp.lowB ((s.data.toList.getD j 0).toNat : Int)).toNat := by
      rw [show s.data.toList.getD j 0 = s.data.toList[j] by simp [List.getD_eq_getElem?_getD, List.getElem?_eq_getElem hj']]
      exact List.getElem_map _
    rw [this, Tp.lower_at])
  rw [hl] at this
  exact this
theorem tok_lower (s : ByteArray) (w : World) (hs : s.size ≤ 9223372036854775807) :
    Calls Tryd.prog 32 #[.string s] w fun e w' => e = .returned (.string ⟨(Tp.lower s.data.toList).toArray⟩) ∧ Below w.heap.size w w' := by
  have hcv := fun (W : World) (s : ByteArray) => Lib.run_convert_string_bytes (P := Tryd.prog) W 9 76 5 s Tryd.underlying9 Tryd.underlying76 Tryd.underlying5
  go_enter Tryd.func32, Tryd.ntmps32
  go_wp2_with fail
  clear hcv
  have hB : w.heap.size ≤ w.heap.size := Nat.le_refl _
  have hst := Lib.hid (lowRow_start w s w.heap.size rfl)
  have hbw := Lib.hid (below_bytesWorld w.heap.size w 5 s (Nat.le_refl _))
  obtain ⟨cap, hcap⟩ : ∃ c, grownCap w s.size 0 5 = c := ⟨_, rfl⟩
  simp only [hcap]
  go_loopw [4, 5, 10] (fun _ _ i wr => ∃ k : Nat, k ≤ s.size ∧ i = .int .i64 k ∧ Below w.heap.size w wr ∧ LowRow wr w.heap.size s.size s.data.toList k) (fun _ _ i _ => s.size - (intOf i).toNat)
  case atStart => exact ⟨0, Nat.zero_le _, rfl, hbw.out, hst.out⟩
  case round =>
    clear hst hbw
    obtain ⟨k, hk, rfl, hb, hrow⟩ := hrel
    have HB := Lib.hid hb
    have HR := Lib.hid hrow
    clear hrow hb
    by_cases hlt : k < s.size
    · have hc := (HR.out k hlt).1
      have hf := (HR.out k hlt).2
      have hcur : lowF s.data.toList k k = ((s.data.toList.getD k 0).toNat : Int) := if_neg (Nat.lt_irrefl k)
      rw [hcur] at hc
      clear hcur
      have hr1 : (0 : Int) ≤ ((s.data.toList.getD k 0).toNat : Int) := by omega
      have hr2 : ((s.data.toList.getD k 0).toNat : Int) < 256 := by have := (s.data.toList.getD k 0).toNat_lt; omega
      have HS := Lib.hid (fun x => lowRow_set (x := x) HR.out hlt)
      have HK := Lib.hid (lowRow_keep HR.out)
      obtain ⟨c, hcc⟩ : ∃ c : Int, ((s.data.toList.getD k 0).toNat : Int) = c := ⟨_, rfl⟩
      rw [hcc] at hc hr1 hr2 HS HK
      clear hcc HR
      by_cases hcap : 65 ≤ c ∧ c ≤ 90
      · obtain ⟨h1, h2⟩ := hcap
        have HL := Lib.hid (show Tp.lowB c = c + 97 - 65 by unfold Tp.lowB; rw [if_pos ⟨h1, h2⟩]; omega)
        go_wp2
        go_roundw
        case rel => exact ⟨k + 1, by omega, by go_num, HB.out.setCell (Nat.le_refl _) _, HS.out _ HL.out⟩
        case measure => simp [intOf]; omega
      · have HL := Lib.hid (show Tp.lowB c = c by unfold Tp.lowB; rw [if_neg hcap])
        by_cases h1 : 65 ≤ c
        · have h2 : ¬ c ≤ 90 := fun h => hcap ⟨h1, h⟩
          clear hcap
          go_wp2
          go_roundw
          case rel => exact ⟨k + 1, by omega, by go_num, HB.out, HK.out HL.out⟩
          case measure => simp [intOf]; omega
        · clear hcap
          go_wp2
          go_roundw
          case rel => exact ⟨k + 1, by omega, by go_num, HB.out, HK.out HL.out⟩
          case measure => simp [intOf]; omega
    · have hks : k = s.size := by omega
      subst hks
      have hlb := low_back (cap := cap) HR.out
      go_wp2_with (simp only [hlb])
      go_ret
      exact ⟨rfl, HB.out⟩
end Go.Proofs.YtfacmnooklljnaaDoor

/- How layer 9 (token) cuts a list of items at its commas, as a plain function: no program in sight. And a slice of texts. -/
namespace Go.Proofs.YtfacmnooklljnaaDoor
set_option linter.unusedVariables false
set_option linter.unusedSimpArgs false
namespace Tp
/-- the parts of a text, 'cur' its first part so far -/
def parts : List UInt8 → List UInt8 → List (List UInt8)
  | cur, [] => [cur]
  | cur, c :: l => if c = 44 then cur :: parts [] l else parts (cur ++ [c]) l
def some? (l : List UInt8) : Bool := !l.isEmpty
def itm (cur rest : List UInt8) : List (List UInt8) := ((parts cur rest).map trim).filter some?
def items (l : List UInt8) : List (List UInt8) := itm [] l
theorem parts_cur : ∀ (l a b : List UInt8), parts (a ++ b) l = (match parts b l with | h :: t => (a ++ h) :: t | [] => [])
  | [], a, b => rfl
  | c :: l, a, b => by
    unfold parts
    by_cases h : c = 44
    · rw [if_pos h, if_pos h]
    · rw [if_neg h, if_neg h, List.append_assoc, parts_cur l a (b ++ [c])]
theorem parts_ne : ∀ (l a : List UInt8), parts a l ≠ []
  | [], a => by unfold parts; simp
  | c :: l, a => by
    unfold parts
    by_cases h : c = 44
    · rw [if_pos h]; simp
    · rw [if_neg h]; exact parts_ne l _
theorem split_is : ∀ l : List UInt8, Lib.splitK [44] 0 (Lib.count l [44]) l = parts [] l
  | [] => by rw [Lib.count_miss (by simp [Lib.index])]; rfl
  | c :: l => by
    have ih := split_is l
    unfold parts
    by_cases h : c = 44
    · subst h
      have hix : Lib.index (44 :: l) [44] = 0 := by rw [Lib.index]; simp [List.isPrefixOf]
      rw [if_pos rfl, Lib.count_cons_eq, Nat.add_comm, Lib.splitK, hix, ← ih]
      rfl
    · rw [if_neg h, Lib.count_cons_ne c 44 l h, List.nil_append, show [c] = [c] ++ [] from rfl, parts_cur, ← ih]
      cases hn : Lib.count l [44] with
      | zero => rfl
      | succ n =>
        obtain ⟨j, hj⟩ := Lib.index_of_count (s := l) (old := [44]) (by omega)
        have hp : ([44] : List UInt8).isPrefixOf (c :: l) = false := by simp [List.isPrefixOf, Ne.symm h]
        have hix : Lib.index (c :: l) [44] = ((j + 1 : Nat) : Int) := by
          rw [Lib.index, hp]
          simp [hj]
        rw [Lib.splitK, Lib.splitK, hix, hj]
        have h1 : ¬ ((((j + 1 : Nat) : Int)) == -1) = true := by intro e; have := beq_iff_eq.1 e; omega
        have h2 : ¬ (((j : Nat) : Int) == -1) = true := by intro e; have := beq_iff_eq.1 e; omega
        rw [if_neg h1, if_neg h2]
        simp only [Int.toNat_natCast, Nat.add_zero, List.take_succ_cons, List.singleton_append, List.length_singleton, List.drop_succ_cons]
theorem parts_len : ∀ (l a : List UInt8), ∀ p ∈ parts a l, p.length ≤ a.length + l.length
  | [], a, p, hp => by
    have : p = a := by simpa [parts] using hp
    subst this
    omega
  | c :: l, a, p, hp => by
    unfold parts at hp
    by_cases h : c = 44
    · rw [if_pos h] at hp
      rcases List.mem_cons.1 hp with rfl | hp
      · omega
      · have := parts_len l [] p hp; simp only [List.length_nil, List.length_cons] at *; omega
    · rw [if_neg h] at hp
      have := parts_len l _ p hp
      simp only [List.length_append, List.length_cons, List.length_nil] at *
      omega
theorem parts_at (l : List UInt8) (j : Nat) : ((parts [] l).getD j []).length ≤ l.length := by
  by_cases h : j < (parts [] l).length
  · have := parts_len l [] _ (List.getElem_mem h)
    simpa [List.getD_eq_getElem?_getD, List.getElem?_eq_getElem h] using this
  · simp [List.getD_eq_getElem?_getD, List.getElem?_eq_none (Nat.le_of_not_lt h)]
theorem parts_count (s : ByteArray) : (Lib.splitB ⟨#[44]⟩ 0 (Lib.countB s ⟨#[44]⟩) s).map (·.data.toList) = parts [] s.data.toList := by
  rw [Lib.splitB_data]
  exact split_is _
end Tp
open Go.RowKit
def tx (l : List UInt8) : Value := .string ⟨l.toArray⟩
/-- a slice of texts -/
def StrRow (w : World) (v : Value) (L : List (List UInt8)) : Prop :=
  ∃ p cap, v = .slice p L.length cap ∧ (L.length = 0 ∨ ∃ g, p = some ⟨g, 0, none⟩ ∧ ∀ j, j < L.length → w.cell? ⟨g, j, none⟩ = some (tx (L.getD j [])))
theorem strRow_own {w : World} {base : Nat} {e : TypeId} {v : Value} {n : Nat} {L : List (List UInt8)} (h : w.ownsRow base e 1 v n (L.map tx)) : StrRow w v L := by
  obtain ⟨hl, h⟩ := h
  have hn : n = L.length := by simpa using hl.symm
  subst hn
  rcases h with ⟨rfl, h0⟩ | ⟨g, cap, cur, rfl, _, hg, hc, _, hs, ht⟩
  · refine ⟨none, 0, by rw [h0], .inl h0⟩
  · refine ⟨some ⟨g, 0, none⟩, cap, rfl, .inr ⟨g, rfl, fun j hj => ?_⟩⟩
    unfold World.cell?
    rw [show (⟨g, j, none⟩ : Addr).block = g from rfl, hg]
    show (if (none : Option _).isSome then none else cur[j]?) = _
    have h1 : (cur.toList.take (L.length * 1))[j]? = (L.map tx)[j]? := by rw [ht]
    rw [List.getElem?_take_of_lt (by omega)] at h1
    rw [if_neg (by simp), ← Array.getElem?_toList, h1, List.getElem?_map, List.getElem?_eq_getElem hj]
    simp [List.getD_eq_getElem?_getD, List.getElem?_eq_getElem hj]
theorem StrRow.below {w w' : World} {v : Value} {L : List (List UInt8)} (h : StrRow w v L) (hb : Below w.heap.size w w') : StrRow w' v L := by
  obtain ⟨p, cap, rfl, h⟩ := h
  refine ⟨p, cap, rfl, ?_⟩
  rcases h with h | ⟨g, rfl, h⟩
  · exact .inl h
  · exact .inr ⟨g, rfl, fun j hj => cell_below hb (h j hj)⟩
end Go.Proofs.YtfacmnooklljnaaDoor

/- Two slices of texts compared; the texts that are not empty, gathered. -/
namespace Go.Proofs.YtfacmnooklljnaaDoor
set_option linter.unusedVariables false
set_option linter.unusedSimpArgs false
open Go.RowKit Go.Shelf
set_option maxHeartbeats 1000000
theorem below_drawn (B : Nat) (w : World) (n : Nat) : Below B w (w.drewN n) := ⟨rfl, rfl, rfl, Nat.le_refl _, fun _ _ => rfl⟩
theorem own_ge {w : World} {B : Nat} {e : TypeId} {v : Value} {n : Nat} {xs : List Value} (h : w.ownsRow B e 1 v n xs) : ∀ k, v.ownBlock = some k → B ≤ k := by
  intro k hk
  rcases h.2 with ⟨rfl, _⟩ | ⟨g, cap, cur, rfl, hg, _⟩
  · simp [Value.ownBlock] at hk
  · have : g = k := by simpa [Value.ownBlock] using hk
    omega
theorem filter_le (L : List (List UInt8)) (k : Nat) : ((L.take k).filter Tp.some?).length ≤ L.length :=
  Nat.le_trans (List.length_filter_le _ _) (by rw [List.length_take]; omega)
end Go.Proofs.YtfacmnooklljnaaDoor

/- A list's items, the program's: those of the text Ti. -/
namespace Go.Proofs.YtfacmnooklljnaaDoor
set_option linter.unusedVariables false
set_option linter.unusedSimpArgs false
open Go.RowKit Go.Shelf
set_option maxHeartbeats 1000000
/-- internal/bytealg.MaxLen holds some integer -/
def ML (w : World) : Prop := ∃ m, w.cell? ⟨1, 0, none⟩ = some (.int .i64 m)
theorem ML.below {w w' : World} (h : ML w) (hb : Below w.heap.size w w') : ML w' := let ⟨m, hm⟩ := h; ⟨m, cell_below hb hm⟩
/-- the row of the parts, of which the first k are trimmed -/
def trF (P : List (List UInt8)) (k j : Nat) : List UInt8 := if j < k then Tp.trim (P.getD j []) else P.getD j []
def TrRow (w : World) (B : Nat) (P : List (List UInt8)) (k : Nat) : Prop := ∀ j, j < P.length → w.cell? ⟨B, j, none⟩ = some (tx (trF P k j)) ∧ w.frozen? ⟨B, j, none⟩ = false
theorem trRow_below {w w' : World} {B : Nat} {P : List (List UInt8)} {k : Nat} (h : TrRow w B P k) (hb : Below w.heap.size w w') (hB : B < w.heap.size) : TrRow w' B P k :=
  fun j hj => ⟨cell_below hb (h j hj).1, (hb.frozen (p := ⟨B, j, none⟩) hB).trans (h j hj).2⟩
theorem trRow_set {w : World} {B : Nat} {P : List (List UInt8)} {k : Nat} (h : TrRow w B P k) (hk : k < P.length) : TrRow (w.setCell ⟨B, k, none⟩ (tx (Tp.trim (P.getD k [])))) B P (k + 1) := by
  intro j hj
  refine ⟨?_, by rw [World.frozen?_setCell]; exact (h j hj).2⟩
  by_cases hjk : j = k
  · subst hjk
    rw [World.cell?_setCell_same _ _ _ (h j hj).1]
    unfold trF
    rw [if_pos (by omega)]
  · rw [World.cell?_setCell_other _ _ _ _ (by intro e; cases e; exact hjk rfl), (h j hj).1]
    unfold trF
    by_cases h2 : j < k
    · rw [if_pos h2, if_pos (by omega)]
    · rw [if_neg h2, if_neg (by omega)]
theorem trRow_start (w : World) (s : ByteArray) (B : Nat) (hB : w.heap.size = B) : TrRow (w.alloc (.cells ((Lib.splitB ⟨#[44]⟩ 0 (Lib.countB s ⟨#[44]⟩) s).map Value.string).toArray 9)) B (Tp.parts [] s.data.toList) 0 := by
  subst hB
  intro j hj
  have hp := Tp.parts_count s
  refine ⟨?_, ?_⟩
  · rw [World.cell?_alloc_new]
    rw [← hp] at hj ⊢
    unfold trF
    rw [if_neg (by omega)]
    have hj' : j < (Lib.splitB ⟨#[44]⟩ 0 (Lib.countB s ⟨#[44]⟩) s).length := by simpa using hj
    rw [List.getElem?_toArray, List.getElem?_map, List.getElem?_eq_getElem hj', List.getD_eq_getElem?_getD, List.getElem?_map, List.getElem?_eq_getElem hj']
    rfl
  · simp [World.frozen?, World.alloc, -World.alloc_eq]
theorem trRow_done {w : World} {B cap : Nat} {P : List (List UInt8)} (h : TrRow w B P P.length) : StrRow w (.slice (some ⟨B, 0, none⟩) P.length cap) (P.map Tp.trim) := by
  refine ⟨some ⟨B, 0, none⟩, cap, by rw [List.length_map], .inr ⟨B, rfl, fun j hj => ?_⟩⟩
  rw [List.length_map] at hj
  rw [(h j hj).1]
  unfold trF
  rw [if_pos hj]
  congr 2
  simp [List.getD_eq_getElem?_getD, List.getElem?_eq_getElem hj]
end Go.Proofs.YtfacmnooklljnaaDoor

/- The reader of quoted texts: one byte taken. -/
namespace Go.Proofs.YtfacmnooklljnaaDoor
set_option linter.unusedVariables false
set_option linter.unusedSimpArgs false
open Go.RowKit Go.Shelf
set_option maxHeartbeats 1000000
namespace Tp
/-- the state behind a byte: within quotes, behind a backslash -/
def stQ (q b : Bool) (c : Int) : Bool := if b then q else if q && c == 92 then q else if c == 34 then !q else q
def stB (q b : Bool) (c : Int) : Bool := if b then false else q && c == 92
/-- whether the byte is outside -/
def stR (q b : Bool) (c : Int) : Bool := if b then false else if q && c == 92 then false else if c == 34 then q else !q
end Tp
/-- the reader's three cells -/
def RS (w : World) (B : Nat) (s : ByteArray) (q b : Bool) : Prop := w.heap[B]? = some (.cells #[.string s, .bool q, .bool b] 89 (0, 0))
theorem RS.c0 {w : World} {B : Nat} {s : ByteArray} {q b : Bool} (h : RS w B s q b) : w.cell? ⟨B, 0, none⟩ = some (.string s) := by unfold RS at h; simp [World.cell?, h]
theorem RS.c1 {w : World} {B : Nat} {s : ByteArray} {q b : Bool} (h : RS w B s q b) : w.cell? ⟨B, 1, none⟩ = some (.bool q) := by unfold RS at h; simp [World.cell?, h]
theorem RS.c2 {w : World} {B : Nat} {s : ByteArray} {q b : Bool} (h : RS w B s q b) : w.cell? ⟨B, 2, none⟩ = some (.bool b) := by unfold RS at h; simp [World.cell?, h]
theorem RS.f {w : World} {B : Nat} {s : ByteArray} {q b : Bool} (h : RS w B s q b) (j : Nat) : w.frozen? ⟨B, j, none⟩ = false := frozen_of_row _ _ _ _ _ h
theorem RS.set1 {w : World} {B : Nat} {s : ByteArray} {q b : Bool} (h : RS w B s q b) (x : Bool) : RS (w.setCell ⟨B, 1, none⟩ (.bool x)) B s x b := heap_setCell_same _ _ _ _ _ _ h
theorem RS.set2 {w : World} {B : Nat} {s : ByteArray} {q b : Bool} (h : RS w B s q b) (x : Bool) : RS (w.setCell ⟨B, 2, none⟩ (.bool x)) B s q x := heap_setCell_same _ _ _ _ _ _ h
theorem RS.below {w w' : World} {B : Nat} {s : ByteArray} {q b : Bool} (h : RS w B s q b) (hb : Below w.heap.size w w') (hB : B < w.heap.size) : RS w' B s q b := (hb.block B hB).trans h
/-- a write into the block B, or none -/
def Touch (B : Nat) (w w' : World) : Prop := w' = w ∨ ∃ i v, w' = w.setCell ⟨B, i, none⟩ v
theorem Touch.below {B N : Nat} {w w' : World} (h : Touch B w w') (hN : N ≤ B) : Below N w w' := by
  rcases h with rfl | ⟨i, v, rfl⟩
  · exact Below.refl _ _
  · exact (Below.refl _ _).setCell hN _
theorem Touch.size {B : Nat} {w w' : World} (h : Touch B w w') : w'.heap.size = w.heap.size := by
  rcases h with rfl | ⟨i, v, rfl⟩
  · rfl
  · simp
theorem Touch.heap {B : Nat} {w w' : World} (h : Touch B w w') (k : Nat) (hk : k ≠ B) : w'.heap[k]? = w.heap[k]? := by
  rcases h with rfl | ⟨i, v, rfl⟩
  · rfl
  · exact heap_setCell_other _ _ _ _ hk
theorem tok_open (B : Nat) (s : ByteArray) (q b : Bool) (c : Int) (w : World) (h0 : 0 ≤ c) (h1 : c < 256) (h : RS w B s q b) :
    Calls Tryd.prog 54 #[.pointer (some ⟨B, 0, none⟩), .int .u8 c] w fun e w' => e = .returned (.bool (Tp.stR q b c)) ∧ RS w' B s (Tp.stQ q b c) (Tp.stB q b c) ∧ Touch B w w' := by
  have HR := Lib.hid h
  have hc1 := h.c1
  have hc2 := h.c2
  have hf1 := h.f 1
  have hf2 := h.f 2
  clear h
  cases b
  · cases q
    · by_cases hc : c = 34
      · have e1 : (c == 34) = true := beq_iff_eq.2 hc
        have e2 : (c == 92) = false := beq_eq_false_iff_ne.2 (by omega)
        clear hc
        go_enter Tryd.func54, Tryd.ntmps54
        go_wp2
        go_ret
        exact ⟨ret_bool (by simp [Tp.stR, e1]), by simpa [Tp.stQ, Tp.stB, e1] using HR.out.set1 true, .inr ⟨_, _, rfl⟩⟩
      · have e1 : (c == 34) = false := beq_eq_false_iff_ne.2 hc
        clear hc
        go_enter Tryd.func54, Tryd.ntmps54
        go_wp2
        go_ret
        exact ⟨ret_bool (by simp [Tp.stR, e1]), by simpa [Tp.stQ, Tp.stB, e1] using HR.out, .inl rfl⟩
    · by_cases hc : c = 34
      · have e1 : (c == 34) = true := beq_iff_eq.2 hc
        have e2 : (c == 92) = false := beq_eq_false_iff_ne.2 (by omega)
        clear hc
        go_enter Tryd.func54, Tryd.ntmps54
        go_wp2
        go_ret
        exact ⟨ret_bool (by simp [Tp.stR, e1, e2]), by simpa [Tp.stQ, Tp.stB, e1, e2] using HR.out.set1 false, .inr ⟨_, _, rfl⟩⟩
      · have e1 : (c == 34) = false := beq_eq_false_iff_ne.2 hc
        clear hc
        by_cases hd : c = 92
        · have e2 : (c == 92) = true := beq_iff_eq.2 hd
          clear hd
          go_enter Tryd.func54, Tryd.ntmps54
          go_wp2
          go_ret
          exact ⟨ret_bool (by simp [Tp.stR, e1, e2]), by simpa [Tp.stQ, Tp.stB, e1, e2] using HR.out.set2 true, .inr ⟨_, _, rfl⟩⟩
        · have e2 : (c == 92) = false := beq_eq_false_iff_ne.2 hd
          clear hd
          go_enter Tryd.func54, Tryd.ntmps54
          go_wp2
          go_ret
          exact ⟨ret_bool (by simp [Tp.stR, e1, e2]), by simpa [Tp.stQ, Tp.stB, e1, e2] using HR.out, .inl rfl⟩
  · go_enter Tryd.func54, Tryd.ntmps54
    go_wp2
    go_ret
    exact ⟨ret_bool (by simp [Tp.stR]), by simpa [Tp.stQ, Tp.stB] using HR.out.set2 false, .inr ⟨_, _, rfl⟩⟩
end Go.Proofs.YtfacmnooklljnaaDoor

/- A list's items, the reference's: those of the text Ti. -/
namespace Go.Proofs.YtfacmnooklljnaaDoor
set_option linter.unusedVariables false
set_option linter.unusedSimpArgs false
open Go.RowKit Go.Shelf
set_option maxHeartbeats 1000000
theorem itm_nil (cur : List UInt8) : Tp.itm cur [] = [Tp.trim cur].filter Tp.some? := rfl
theorem itm_comma (cur l : List UInt8) : Tp.itm cur (44 :: l) = [Tp.trim cur].filter Tp.some? ++ Tp.itm [] l := by
  unfold Tp.itm
  rw [Tp.parts, if_pos rfl, List.map_cons, ← List.singleton_append, List.filter_append]
theorem itm_more (cur l : List UInt8) (c : UInt8) (h : c ≠ 44) : Tp.itm cur (c :: l) = Tp.itm (cur ++ [c]) l := by
  unfold Tp.itm
  rw [Tp.parts, if_neg h]
theorem cut_snoc (l : List UInt8) (a k : Nat) (h : a ≤ k) (hk : k < l.length) : (l.drop a).take (k - a) ++ [l[k]] = (l.drop a).take (k + 1 - a) := by
  rw [show k + 1 - a = (k - a) + 1 by omega, List.take_succ_eq_append_getElem (by rw [List.length_drop]; omega), List.getElem_drop]
  congr 3
  omega
theorem drop_here (l : List UInt8) (k : Nat) (hk : k < l.length) : l.drop k = l[k] :: l.drop (k + 1) := List.drop_eq_getElem_cons hk
/-- the reference's place in the text: what is gathered, and where the part began -/
def ItAt (l : List UInt8) (L : List (List UInt8)) (a k : Nat) : Prop :=
  L.length ≤ k ∧ ((k ≤ l.length ∧ a ≤ k ∧ L ++ Tp.itm ((l.drop a).take (k - a)) (l.drop k) = Tp.items l) ∨ (k = l.length + 1 ∧ L = Tp.items l))
theorem itAt_start (l : List UInt8) : ItAt l [] 0 0 := ⟨Nat.le_refl _, .inl ⟨Nat.zero_le _, Nat.le_refl _, rfl⟩⟩
theorem itAt_more {l : List UInt8} {L : List (List UInt8)} {a k : Nat} (h : ItAt l L a k) (hk : k < l.length) (hc : l[k] ≠ 44) : ItAt l L a (k + 1) := by
  obtain ⟨h1, h2⟩ := h
  rcases h2 with ⟨_, ha, h2⟩ | ⟨h2, _⟩
  · refine ⟨by omega, .inl ⟨by omega, by omega, ?_⟩⟩
    rw [drop_here l k hk, itm_more _ _ _ hc, cut_snoc l a k ha hk] at h2
    exact h2
  · omega
theorem itAt_cut {l : List UInt8} {L : List (List UInt8)} {a k : Nat} (h : ItAt l L a k) (hk : k ≤ l.length) (hc : ∀ h : k < l.length, l[k] = 44) : ItAt l (L ++ [Tp.trim ((l.drop a).take (k - a))].filter Tp.some?) (k + 1) (k + 1) := by
  obtain ⟨h1, h2⟩ := h
  rcases h2 with ⟨_, ha, h2⟩ | ⟨h2, _⟩
  · refine ⟨?_, ?_⟩
    · have := List.length_filter_le Tp.some? [Tp.trim ((l.drop a).take (k - a))]
      rw [List.length_append]
      simp only [List.length_singleton] at this
      omega
    · by_cases hlt : k < l.length
      · refine .inl ⟨hlt, Nat.le_refl _, ?_⟩
        rw [drop_here l k hlt, hc hlt, itm_comma] at h2
        rw [Nat.sub_self, List.take_zero, List.append_assoc]
        exact h2
      · refine .inr ⟨by omega, ?_⟩
        have : k = l.length := by omega
        rw [this, List.drop_length, itm_nil] at h2
        rw [this]
        exact h2
  · omega
theorem slice_mid (u : ByteArray) (w : World) (a k : Nat) (h : a ≤ k) (hk : k ≤ u.size) (hu : u.size ≤ 9223372036854775807) : (Instr.slice 9 (.string u) (some (.int .i64 (a : Int))) (some (.int .i64 (k : Int))) none).run Tryd.prog w = .ok (.string (u.extract a k)) w := by
  have h1 : (a : Int) ≤ k := by omega
  have h2 : (k : Int) ≤ u.size := by omega
  simp [go_sem, Tryd.underlying9, h1, h2]
theorem index_at (u : ByteArray) (w : World) (k : Nat) (h : k < u.size) : (Instr.index 9 (.string u) (.int .i64 (k : Int))).run Tryd.prog w = .ok (.int .u8 ((u[k]).toNat : Int)) w := by
  have hi : (0 : Int) ≤ (k : Int) ∧ (k : Int) < u.size := by omega
  rw [run_index_string w 9 u .i64 _ Tryd.underlying9, dif_pos hi]
  simp only [Int.toNat_natCast]
end Go.Proofs.YtfacmnooklljnaaDoor

/- A text cut at a byte outside of quotes: the program's. -/
namespace Go.Proofs.YtfacmnooklljnaaDoor
set_option linter.unusedVariables false
set_option linter.unusedSimpArgs false
open Go.RowKit Go.Shelf Go.Sort
set_option maxHeartbeats 1000000
namespace Tp
def cutAt (by_ : Int) : Bool → Bool → List UInt8 → Option Nat
  | _, _, [] => none
  | q, b, c :: l => if !q && ((c.toNat : Int) == by_) then some 0 else (cutAt by_ (stQ q b c.toNat) (stB q b c.toNat) l).map (· + 1)
def cut (l : List UInt8) (by_ : Int) : List UInt8 × List UInt8 × Bool :=
  match cutAt by_ false false l with
  | some k => (trim (l.take k), trim (l.drop (k + 1)), true)
  | none => (trim l, [], false)
/-- k bytes were taken, and the cut is not among them -/
def CutSt (l : List UInt8) (by_ : Int) (q b : Bool) (k : Nat) : Prop := cutAt by_ false false l = (cutAt by_ q b (l.drop k)).map (· + k)
theorem cutSt_start (l : List UInt8) (by_ : Int) : CutSt l by_ false false 0 := by
  unfold CutSt
  rw [List.drop_zero]
  cases cutAt by_ false false l <;> rfl
theorem cutSt_next {l : List UInt8} {by_ : Int} {q b : Bool} {k : Nat} (h : CutSt l by_ q b k) (hk : k < l.length) (hn : (!q && ((l[k].toNat : Int) == by_)) = false) : CutSt l by_ (stQ q b l[k].toNat) (stB q b l[k].toNat) (k + 1) := by
  unfold CutSt at *
  rw [h, List.drop_eq_getElem_cons hk, cutAt, hn]
  cases cutAt by_ (stQ q b l[k].toNat) (stB q b l[k].toNat) (l.drop (k + 1)) with
  | none => rfl
  | some x => simp; omega
theorem cutSt_hit {l : List UInt8} {by_ : Int} {q b : Bool} {k : Nat} (h : CutSt l by_ q b k) (hk : k < l.length) (hn : (!q && ((l[k].toNat : Int) == by_)) = true) : cut l by_ = (trim (l.take k), trim (l.drop (k + 1)), true) := by
  unfold CutSt at h
  rw [List.drop_eq_getElem_cons hk, cutAt, hn] at h
  unfold cut
  rw [h]
  simp
theorem cutSt_end {l : List UInt8} {by_ : Int} {q b : Bool} {k : Nat} (h : CutSt l by_ q b k) (hk : k = l.length) : cut l by_ = (trim l, [], false) := by
  unfold CutSt at h
  rw [hk, List.drop_length] at h
  unfold cut
  rw [h]
  rfl
end Tp
theorem slice_to (u : ByteArray) (w : World) (k : Nat) (hk : k ≤ u.size) (hu : u.size ≤ 9223372036854775807) : (Instr.slice 9 (.string u) none (some (.int .i64 (k : Int))) none).run Tryd.prog w = .ok (.string (u.extract 0 k)) w := by
  have h2 : (k : Int) ≤ u.size := by omega
  simp [go_sem, Tryd.underlying9, h2]
theorem slice_from (u : ByteArray) (w : World) (k : Nat) (hk : k < u.size) (hu : u.size ≤ 9223372036854775807) : (Instr.slice 9 (.string u) (some (.int .i64 ((k : Int) + 1))) none none).run Tryd.prog w = .ok (.string (u.extract (k + 1) u.size)) w := by
  have h2 : (k : Int) + 1 ≤ u.size := by omega
  have h3 : (0 : Int) ≤ (k : Int) + 1 := by omega
  have h4 : ((k : Int) + 1).toNat = k + 1 := by omega
  simp [go_sem, Tryd.underlying9, h2, h3, h4]
set_option maxRecDepth 100000 in
theorem tok_cut (s : ByteArray) (by_ : Int) (w : World) (h0 : 0 ≤ by_) (h1 : by_ < 256) (hs : s.size ≤ 1000000) :
    Calls Tryd.prog 43 #[.string s, .int .u8 by_] w fun e w' =>
      e = .returned (.tuple #[tx (Tp.cut s.data.toList by_).1, tx (Tp.cut s.data.toList by_).2.1, .bool (Tp.cut s.data.toList by_).2.2]) ∧ Below w.heap.size w w' := by
  have HIX := Lib.hid (fun k h W => index_at s W k h)
  go_enter Tryd.func43, Tryd.ntmps43
  go_wp2_with fail
  have hbl : Below w.heap.size w (w.alloc (.cells #[.string s, .bool false, .bool false] 89)) := (Below.refl _ _).alloc (Nat.le_refl _) _
  have HB0 := Lib.hid hbl
  clear hbl
  go_loopw [8, 9, 20] (fun _ _ i wr => ∃ (k : Nat) (q b : Bool), k ≤ s.size ∧ i = .int .i64 k ∧ Tp.CutSt s.data.toList by_ q b k ∧ RS wr w.heap.size s q b ∧ Below w.heap.size w wr ∧ w.heap.size < wr.heap.size) (fun _ _ i _ => s.size - (intOf i).toNat)
  case atStart => exact ⟨0, false, false, Nat.zero_le _, rfl, Tp.cutSt_start _ _, by simp [RS, World.alloc, -World.alloc_eq], HB0.out, by simp⟩
  case round =>
    clear HB0
    obtain ⟨k, q, b, hk, rfl, hst, hrs, hb, hlen⟩ := hrel
    have HS := Lib.hid hst
    have HR := Lib.hid hrs
    have HB := Lib.hid hb
    have HL := Lib.hid hlen
    clear hst hrs hb hlen
    by_cases hlt : k < s.size
    · have hix := HIX.out k hlt
      have hc1 := HR.out.c1
      have hr1 : (0 : Int) ≤ ((s[k]).toNat : Int) := by omega
      have hr2 : ((s[k]).toNat : Int) < 256 := by have := (s[k]).toNat_lt; omega
      have hkl : k < s.data.toList.length := by simpa using hlt
      have HN := Lib.hid (Tp.cutSt_next HS.out hkl)
      have HH := Lib.hid (Tp.cutSt_hit HS.out hkl)
      rw [show s.data.toList[k] = s[k] from rfl] at HN HH
      obtain ⟨x, hx⟩ : ∃ x : Int, ((s[k]).toNat : Int) = x := ⟨_, rfl⟩
      rw [hx] at hix hr1 hr2 HN HH
      have K := Lib.hid (tok_open w.heap.size s q b x wr hr1 hr2 HR.out)
      clear hx hkl hr1 hr2
      go_wp2_with (simp only [hix])
      refine K.out.mono ?_
      rintro e w2 ⟨rfl, hrs2, htc⟩
      obtain ⟨r, hr⟩ : ∃ r, Tp.stR q b x = r := ⟨_, rfl⟩
      rw [hr]
      clear hr hc1
      have HR2 := Lib.hid hrs2
      have HB2 := Lib.hid (HB.out.trans (htc.below (Nat.le_refl _)))
      have HL2 := Lib.hid (show w.heap.size < w2.heap.size by rw [htc.size]; exact HL.out)
      clear hrs2 htc K
      cases q
      · by_cases hxb : x = by_
        · have e1 : (x == by_) = true := beq_iff_eq.2 hxb
          have HC := Lib.hid (HH.out (by rw [e1]; rfl))
          clear HN HH HR HB HL hxb HS
          have hsl1 := fun W => slice_to s W k (by omega) (by omega)
          have hsl2 := fun W => slice_from s W k hlt (by omega)
          have hz1 : (s.extract 0 k).size ≤ 9223372036854775807 := by rw [ByteArray.size_extract]; omega
          have hz2 : (s.extract (k + 1) s.size).size ≤ 9223372036854775807 := by rw [ByteArray.size_extract]; omega
          have hd1 : (s.extract 0 k).data.toList = s.data.toList.take k := Lib.extract_from_zero s k
          have hd2 : (s.extract (k + 1) s.size).data.toList = s.data.toList.drop (k + 1) := Lib.extract_to_end s (k + 1)
          have c1 := fun d os => Calls.regrown_of (tok_trim (s.extract 0 k) (grow (redrawn w2 d) os) hz1)
          have c2 := fun d os => Calls.regrown_of (tok_trim (s.extract (k + 1) s.size) (grow (redrawn w2 d) os) hz2)
          rw [hd1] at c1
          rw [hd2] at c2
          clear hz1 hz2 hd1 hd2
          obtain ⟨z1, hz1⟩ : ∃ z, s.extract 0 k = z := ⟨_, rfl⟩
          obtain ⟨z2, hz2⟩ : ∃ z, s.extract (k + 1) s.size = z := ⟨_, rfl⟩
          rw [hz1] at hsl1 c1
          rw [hz2] at hsl2 c2
          clear hz1 hz2
          have C1 := Lib.hid c1
          have C2 := Lib.hid c2
          clear c1 c2
          have hw : IntKind.i64.wrap ((k : Int) + 1) = (k : Int) + 1 := IntWalk.i64_in _ (by omega)
          have hk1 : (0 : Int) ≤ (k : Int) + 1 := by omega
          go_wp2_with (simp only [hix])
          refine wp_region_quiet_below (by kernel_rfl) (by kernel_rfl) ?_
          repeat (quiet_step (first | exact C1.out _ _ | exact C2.out _ _))
          refine wpQuiet_nil ?_
          intro _ hw'
          obtain ⟨⟨dq, osq⟩, hw''⟩ := hw'
          subst hw''
          go_wp2
          refine bodyPost_ret (v := .tuple #[.string ⟨(Tp.trim (s.data.toList.take k)).toArray⟩, .string ⟨(Tp.trim (s.data.toList.drop (k + 1))).toArray⟩, .bool true]) (by simp [results, Tryd.results43, go_sem]) rfl ⟨?_, ?_⟩
          · rw [HC.out]
            rfl
          · exact HB2.out.trans ((below_regrown _ _ _).mono HB2.out.size)
        · have e1 : (x == by_) = false := beq_eq_false_iff_ne.2 hxb
          have HN2 := Lib.hid (HN.out (by rw [e1]; rfl))
          clear HN HH hxb
          go_wp2_with (simp only [hix])
          go_roundw
          case rel => exact ⟨k + 1, _, _, by omega, by go_num, HN2.out, HR2.out, HB2.out, HL2.out⟩
          case measure => simp [intOf]; omega
      · have HN2 := Lib.hid (HN.out rfl)
        clear HN HH
        go_wp2_with (simp only [hix])
        go_roundw
        case rel => exact ⟨k + 1, _, _, by omega, by go_num, HN2.out, HR2.out, HB2.out, HL2.out⟩
        case measure => simp [intOf]; omega
    · have hks : k = s.size := by omega
      have HE := Lib.hid (Tp.cutSt_end HS.out (by rw [hks]; rfl))
      have hks2 : ¬ k < s.size := hlt
      clear hks
      have T := Lib.hid (tok_trim s wr (by omega))
      go_wp2_with fail
      refine T.out.mono ?_
      rintro e w2 ⟨rfl, hb2⟩
      go_wp2
      refine bodyPost_ret (v := .tuple #[.string ⟨(Tp.trim s.data.toList).toArray⟩, .string ⟨#[]⟩, .bool false]) (by simp [results, Tryd.results43, go_sem]) rfl ⟨?_, HB.out.trans (hb2.mono HB.out.size)⟩
      rw [HE.out]
      rfl
end Go.Proofs.YtfacmnooklljnaaDoor

/- A quoted text, as a plain function: the reference's way and the program's. No program in sight. -/
namespace Go.Proofs.YtfacmnooklljnaaDoor
set_option linter.unusedVariables false
set_option linter.unusedSimpArgs false
namespace Tp
/-- behind the first quote: the reference -/
def qr : List UInt8 → List UInt8 → Option (List UInt8)
  | _, [] => none
  | acc, [c] => if c = 34 then some acc else none
  | acc, c :: d :: l => if c = 34 then none else if c = 92 then (if valB d.toNat then qr (acc ++ [d]) l else none) else if valB c.toNat then qr (acc ++ [c]) (d :: l) else none
def quoted : List UInt8 → Option (List UInt8)
  | [] => none
  | c :: l => if c = 34 then qr [] l else none
/-- behind the first quote: the program; whether a backslash stands ahead -/
def pq : Bool → List UInt8 → List UInt8 → Option (List UInt8)
  | _, _, [] => none
  | b, acc, c :: l => if b then pq false (acc ++ [c]) l else if c = 34 then (if l.isEmpty then some acc else none) else if c = 92 then pq true acc l else pq false (acc ++ [c]) l
theorem pq_nil (b : Bool) (acc : List UInt8) : pq b acc [] = none := by unfold pq; rfl
theorem pq_b (acc : List UInt8) (c : UInt8) (l : List UInt8) : pq true acc (c :: l) = pq false (acc ++ [c]) l := by rw [pq, if_pos rfl]
theorem pq_quote (acc l : List UInt8) : pq false acc (34 :: l) = if l.isEmpty then some acc else none := by rw [pq, if_neg (by decide), if_pos rfl]
theorem pq_back (acc l : List UInt8) : pq false acc (92 :: l) = pq true acc l := by rw [pq, if_neg (by decide), if_neg (by decide), if_pos rfl]
theorem pq_more (acc : List UInt8) (c : UInt8) (l : List UInt8) (h : c ≠ 34) (h2 : c ≠ 92) : pq false acc (c :: l) = pq false (acc ++ [c]) l := by rw [pq, if_neg (by decide), if_neg h, if_neg h2]
theorem quoted_cons (c : UInt8) (l : List UInt8) : quoted (c :: l) = if c = 34 then qr [] l else none := rfl
theorem allT_cons (f : Int → Bool) (c : UInt8) (l : List UInt8) : allT f (c :: l) = (f c.toNat && allT f l) := rfl
theorem valB_quote : valB ((34 : UInt8).toNat : Int) = true := by decide
theorem valB_back : valB ((92 : UInt8).toNat : Int) = true := by decide
theorem qr_is : ∀ (n : Nat) (l acc : List UInt8), l.length ≤ n → qr acc l = if allT valB l then pq false acc l else none
  | _, [], acc, _ => by unfold qr pq; split <;> rfl
  | n, [c], acc, _ => by
    unfold qr
    by_cases h : c = 34
    · subst h; rfl
    · rw [if_neg h]
      by_cases h2 : c = 92
      · subst h2; rfl
      · rw [pq_more _ _ _ h h2, pq_nil]
        split <;> rfl
  | 0, c :: d :: l, acc, hn => by simp at hn
  | n + 1, c :: d :: l, acc, hn => by
    unfold qr
    by_cases h : c = 34
    · subst h
      rw [if_pos rfl, pq_quote]
      simp
    · rw [if_neg h]
      by_cases h2 : c = 92
      · subst h2
        rw [if_pos rfl, qr_is n l (acc ++ [d]) (by simp only [List.length_cons] at hn; omega), allT_cons, allT_cons, valB_back, Bool.true_and]
        rw [pq_back, pq_b]
        by_cases hv : valB (d.toNat : Int) = true
        · rw [if_pos hv, hv, Bool.true_and]
        · have hv' : valB (d.toNat : Int) = false := by simpa using hv
          rw [if_neg hv, hv', Bool.false_and]; rfl
      · rw [if_neg h2, qr_is n (d :: l) (acc ++ [c]) (by simp only [List.length_cons] at hn ⊢; omega), allT_cons valB c]
        rw [pq_more _ _ _ h h2]
        by_cases hv : valB (c.toNat : Int) = true
        · rw [if_pos hv, hv, Bool.true_and]
        · have hv' : valB (c.toNat : Int) = false := by simpa using hv
          rw [if_neg hv, hv', Bool.false_and]; rfl
theorem quoted_none {l : List UInt8} (h : ∀ c t, l = c :: t → c ≠ 34) : quoted l = none := by
  cases l with
  | nil => rfl
  | cons c t => rw [quoted_cons, if_neg (h c t rfl)]
theorem quoted_some {t : List UInt8} (h : allT valB (34 :: t) = true) : quoted (34 :: t) = pq false [] t := by
  rw [allT_cons, valB_quote, Bool.true_and] at h
  rw [quoted_cons, if_pos rfl, qr_is t.length t [] (Nat.le_refl _), if_pos h]
theorem quoted_bad {l : List UInt8} (h : allT valB l = false) : quoted l = none := by
  cases l with
  | nil => rfl
  | cons c t =>
    rw [quoted_cons]
    by_cases hc : c = 34
    · subst hc
      rw [allT_cons, valB_quote, Bool.true_and] at h
      rw [if_pos rfl, qr_is t.length t [] (Nat.le_refl _), h]
      rfl
    · rw [if_neg hc]
def quotedS (l : List UInt8) : List UInt8 := (quoted l).getD []
def quotedE (l : List UInt8) : Int := if (quoted l).isSome then 0 else 110
end Tp
end Go.Proofs.YtfacmnooklljnaaDoor

/- What layer 12 (accept) tells of texts, as plain functions: no program in sight. -/
namespace Go.Proofs.YtfacmnooklljnaaDoor
set_option linter.unusedVariables false
set_option linter.unusedSimpArgs false
namespace Ap
/-- a text cut at a byte, nothing trimmed: what stands ahead, behind, and whether it was found -/
def cutB (c : UInt8) : List UInt8 → List UInt8 × List UInt8 × Bool
  | [] => ([], [], false)
  | x :: l => if x = c then ([], l, true) else (x :: (cutB c l).1, (cutB c l).2)
theorem cutB_nil (c : UInt8) : cutB c [] = ([], [], false) := rfl
theorem cutB_cons (c x : UInt8) (l : List UInt8) : cutB c (x :: l) = if x = c then ([], l, true) else (x :: (cutB c l).1, (cutB c l).2) := rfl
theorem cutB_len (c : UInt8) : ∀ l : List UInt8, (cutB c l).1.length + (cutB c l).2.1.length ≤ l.length
  | [] => Nat.le_refl _
  | x :: l => by
    have h := cutB_len c l
    rw [cutB_cons]
    by_cases hx : x = c
    · rw [if_pos hx]; simp
    · rw [if_neg hx]; simp only [List.length_cons]; omega
/-- all parts between bytes that stand in no quoted text, trimmed -/
def allN : Nat → List UInt8 → Int → List (List UInt8)
  | 0, _, _ => []
  | n + 1, l, b => (Tp.cut l b).1 :: (if (Tp.cut l b).2.2 = true then allN n (Tp.cut l b).2.1 b else [])
def all (l : List UInt8) (b : Int) : List (List UInt8) := allN (l.length + 1) l b
theorem trim_le (l : List UInt8) : (Tp.trim l).length ≤ l.length := by
  unfold Tp.trim Tp.trimR Tp.trimL
  rw [List.length_reverse]
  refine Nat.le_trans (List.dropWhile_sublist _).length_le ?_
  rw [List.length_reverse]
  exact (List.dropWhile_sublist _).length_le
theorem cut_lt {l : List UInt8} {b : Int} (h : (Tp.cut l b).2.2 = true) : (Tp.cut l b).2.1.length < l.length := by
  unfold Tp.cut at h ⊢
  cases hk : Tp.cutAt b false false l with
  | none => rw [hk] at h; cases h
  | some k =>
    simp only
    have hlt : ∀ (l : List UInt8) (q z : Bool) (k : Nat), Tp.cutAt b q z l = some k → k < l.length := by
      intro l
      induction l with
      | nil => intro q z k h; simp [Tp.cutAt] at h
      | cons c l ih =>
        intro q z k h
        rw [Tp.cutAt] at h
        split at h
        · cases h; simp
        · cases hc : Tp.cutAt b (Tp.stQ q z c.toNat) (Tp.stB q z c.toNat) l with
          | none => rw [hc] at h; cases h
          | some j =>
            rw [hc] at h
            cases h
            have := ih _ _ _ hc
            simp; omega
    have h2 := hlt l false false k hk
    refine Nat.lt_of_le_of_lt (trim_le _) ?_
    rw [List.length_drop]; omega
theorem cut_fst_le (l : List UInt8) (b : Int) : (Tp.cut l b).1.length ≤ l.length := by
  unfold Tp.cut
  split
  · refine Nat.le_trans (trim_le _) ?_
    rw [List.length_take]; omega
  · exact trim_le _
theorem allN_more : ∀ (n m : Nat) (l : List UInt8) (b : Int), l.length < n → l.length < m → allN n l b = allN m l b
  | 0, _, _, _, h, _ => absurd h (by omega)
  | _, 0, _, _, _, h => absurd h (by omega)
  | n + 1, m + 1, l, b, h1, h2 => by
    unfold allN
    by_cases hf : (Tp.cut l b).2.2 = true
    · have h3 := cut_lt hf
      rw [if_pos hf, if_pos hf, allN_more n m _ b (by omega) (by omega)]
    · rw [if_neg hf, if_neg hf]
theorem all_eq (l : List UInt8) (b : Int) : all l b = (Tp.cut l b).1 :: (if (Tp.cut l b).2.2 = true then all (Tp.cut l b).2.1 b else []) := by
  unfold all
  conv => lhs; unfold allN
  by_cases hf : (Tp.cut l b).2.2 = true
  · have h3 := cut_lt hf
    rw [if_pos hf, if_pos hf, allN_more _ ((Tp.cut l b).2.1.length + 1) _ b (by omega) (by omega)]
  · rw [if_neg hf, if_neg hf]
theorem all_len_pos (l : List UInt8) (b : Int) : 0 < (all l b).length := by rw [all_eq]; simp
theorem allN_len : ∀ (n : Nat) (l : List UInt8) (b : Int), (allN n l b).length ≤ l.length + 1
  | 0, _, _ => by simp [allN]
  | n + 1, l, b => by
    unfold allN
    by_cases hf : (Tp.cut l b).2.2 = true
    · have h3 := cut_lt hf
      have h4 := allN_len n (Tp.cut l b).2.1 b
      rw [if_pos hf, List.length_cons]; omega
    · rw [if_neg hf]; simp
theorem all_len (l : List UInt8) (b : Int) : (all l b).length ≤ l.length + 1 := allN_len _ _ _
theorem allN_mem : ∀ (n : Nat) (l : List UInt8) (b : Int), ∀ p ∈ allN n l b, p.length ≤ l.length
  | 0, _, _, p, hp => by simp [allN] at hp
  | n + 1, l, b, p, hp => by
    unfold allN at hp
    rcases List.mem_cons.1 hp with rfl | hp
    · exact cut_fst_le l b
    · by_cases hf : (Tp.cut l b).2.2 = true
      · rw [if_pos hf] at hp
        have := allN_mem n _ b p hp
        have := cut_lt hf
        omega
      · rw [if_neg hf] at hp; cases hp
theorem all_mem {l : List UInt8} {b : Int} {p : List UInt8} (h : p ∈ all l b) : p.length ≤ l.length := allN_mem _ _ _ p h
/-- the text that is left when k parts were taken -/
def restA : Nat → List UInt8 → Int → List UInt8
  | 0, l, _ => l
  | k + 1, l, b => restA k (Tp.cut l b).2.1 b
theorem restA_succ : ∀ (k : Nat) (l : List UInt8) (b : Int), restA (k + 1) l b = (Tp.cut (restA k l b) b).2.1
  | 0, _, _ => rfl
  | k + 1, l, b => by
    show restA (k + 1) (Tp.cut l b).2.1 b = (Tp.cut (restA k (Tp.cut l b).2.1 b) b).2.1
    exact restA_succ k _ b
/-- the k-th part is what is cut off the text that is left; it is the last one just if nothing was found -/
theorem all_at : ∀ (k : Nat) (l : List UInt8) (b : Int), k < (all l b).length → (all l b).getD k [] = (Tp.cut (restA k l b) b).1 ∧ ((Tp.cut (restA k l b) b).2.2 = true ↔ k + 1 < (all l b).length) ∧ (restA k l b).length ≤ l.length
  | 0, l, b, _ => by
    rw [all_eq]
    refine ⟨rfl, ?_, Nat.le_refl _⟩
    show (Tp.cut l b).2.2 = true ↔ _
    by_cases hf : (Tp.cut l b).2.2 = true
    · rw [if_pos hf]
      have := all_len_pos (Tp.cut l b).2.1 b
      simp only [hf, List.length_cons, true_iff]; omega
    · rw [if_neg hf]; simp [hf]
  | k + 1, l, b, h => by
    rw [all_eq] at h ⊢
    by_cases hf : (Tp.cut l b).2.2 = true
    · rw [if_pos hf] at h ⊢
      obtain ⟨h1, h2, h3⟩ := all_at k (Tp.cut l b).2.1 b (by simpa using h)
      have := cut_lt hf
      refine ⟨by show ((Tp.cut l b).1 :: all (Tp.cut l b).2.1 b).getD (k + 1) [] = (Tp.cut (restA k (Tp.cut l b).2.1 b) b).1; simpa using h1, ?_, by show (restA k (Tp.cut l b).2.1 b).length ≤ _; omega⟩
      show (Tp.cut (restA k (Tp.cut l b).2.1 b) b).2.2 = true ↔ _
      rw [h2, List.length_cons]; omega
    · rw [if_neg hf] at h; simp at h
/-- a range: its type, its subtype, how many parameters, its quality -/
abbrev Ra := List UInt8 × List UInt8 × Nat × Int
def fig (c : UInt8) : Bool := decide (48 ≤ (c.toNat : Int) ∧ (c.toNat : Int) ≤ 57)
def num (l : List UInt8) : Int := l.foldl (fun n c => 10 * n + ((c.toNat : Int) - 48)) 0
/-- the thousandths of a quality's text -/
def thou (s : List UInt8) : Option Int :=
  if ((cutB 46 s).1 = [48] ∨ (cutB 46 s).1 = [49]) ∧ (cutB 46 s).2.1.length ≤ 3 ∧ ((cutB 46 s).2.1 ++ ([48, 48, 48] : List UInt8).drop (cutB 46 s).2.1.length).all fig = true then
    (if (cutB 46 s).1 = [49] then (if num ((cutB 46 s).2.1 ++ ([48, 48, 48] : List UInt8).drop (cutB 46 s).2.1.length) = 0 then some 1000 else none) else some (num ((cutB 46 s).2.1 ++ ([48, 48, 48] : List UInt8).drop (cutB 46 s).2.1.length)))
  else none
/-- a parameter's name, its value -/
def par (s : List UInt8) : Option (List UInt8 × List UInt8) :=
  if Tp.isTok (Tp.lower (Tp.trim (cutB 61 s).1)) = true then
    (if (cutB 61 s).2.2 = true ∧ Tp.isTok (Tp.trim (cutB 61 s).2.1) = false then (Tp.quoted (Tp.trim (cutB 61 s).2.1)).map fun v => (Tp.lower (Tp.trim (cutB 61 s).1), v)
     else some (Tp.lower (Tp.trim (cutB 61 s).1), Tp.trim (cutB 61 s).2.1))
  else none
/-- what parameters make of how many there are, the quality, and whether that was seen -/
def take1 (st : Nat × Int × Bool) (s : List UInt8) : Option (Nat × Int × Bool) :=
  if s = [] then some st else
  (par s).bind fun nv => if st.2.2 = true then some st else if nv.1 = [113] then (thou nv.2).map fun q => (st.1, q, true) else some (st.1 + 1, st.2.1, false)
def takes : List (List UInt8) → Nat × Int × Bool → Option (Nat × Int × Bool)
  | [], st => some st
  | s :: l, st => (take1 st s).bind (takes l)
/-- a range -/
def one (s : List UInt8) : Option Ra :=
  if (cutB 47 (Tp.lower ((all s 59).getD 0 []))).2.2 = true ∧ Tp.isTok (cutB 47 (Tp.lower ((all s 59).getD 0 []))).1 = true ∧ Tp.isTok (cutB 47 (Tp.lower ((all s 59).getD 0 []))).2.1 = true ∧
      ((cutB 47 (Tp.lower ((all s 59).getD 0 []))).1 = [42] → (cutB 47 (Tp.lower ((all s 59).getD 0 []))).2.1 = [42]) then
    (takes ((all s 59).drop 1) (0, 1000, false)).map fun st => ((cutB 47 (Tp.lower ((all s 59).getD 0 []))).1, (cutB 47 (Tp.lower ((all s 59).getD 0 []))).2.1, st.1, st.2.1)
  else none
/-- a list's ranges, behind those that were read -/
def rd : List (List UInt8) → List Ra → Option (List Ra)
  | [], acc => some acc
  | p :: l, acc => if p = [] then rd l acc else (one p).bind fun r => rd l (acc ++ [r])
def parse (s : List UInt8) : Option (List Ra) := if Tp.isVal s = true then rd (all s 44) [] else none
/-- how well a range fits -/
def fits (r : Ra) (k u : List UInt8) : Int :=
  if 0 < r.2.2.1 then 0 else if r.1 = [42] ∧ r.2.1 = [42] then 1 else if r.1 = k ∧ r.2.1 = [42] then 2 else if r.1 = k ∧ r.2.1 = u then 3 else 0
/-- the first one of which something is the most -/
def best1 (f : Ra → Int) (st : Option Ra × Int) (r : Ra) : Option Ra × Int := if st.2 < f r then (some r, f r) else st
def best (f : Ra → Int) (l : List Ra) : Option Ra × Int := l.foldl (best1 f) (none, 0)
/-- a type's quality; none: an error -/
def qual (s k u : List UInt8) : Option Int := (parse s).map fun l => if l = [] then 1000 else match (best (fun r => fits r k u) l).1 with
  | none => 0
  | some r => r.2.2.2
end Ap
end Go.Proofs.YtfacmnooklljnaaDoor

/- Ranges over strings: what bytes decode to, iterators (out of XG5, under names of their own). No conditions but those that each law states. -/
namespace Go.Proofs.YtfacmnooklljnaaDoor
set_option linter.unusedVariables false
set_option linter.unusedSimpArgs false
open Go.RowKit
set_option maxHeartbeats 2000000
set_option maxRecDepth 100000
theorem get_atY (s : ByteArray) (i : Nat) (h : i < s.size) : s.get! i = s[i]'h := by
  simp [ByteArray.get!, getElem!_pos, h]
  rfl
theorem decodeN_hiY (n b0 b1 b2 b3 : Nat) (hn : 1 ≤ n) (h0 : 128 ≤ b0) (h0' : b0 < 256) (h1 : b1 < 256) (h2 : b2 < 256) (h3 : b3 < 256) :
    128 ≤ (Lib.decodeN n b0 b1 b2 b3).1 ∧ (Lib.decodeN n b0 b1 b2 b3).1 ≤ 1114111 ∧ 1 ≤ (Lib.decodeN n b0 b1 b2 b3).2 ∧ (Lib.decodeN n b0 b1 b2 b3).2 ≤ n ∧ (Lib.decodeN n b0 b1 b2 b3).2 ≤ 4 ∧
      (2 ≤ (Lib.decodeN n b0 b1 b2 b3).2 → 128 ≤ b1) ∧ (3 ≤ (Lib.decodeN n b0 b1 b2 b3).2 → 128 ≤ b2) ∧ (4 ≤ (Lib.decodeN n b0 b1 b2 b3).2 → 128 ≤ b3) := by
  unfold Lib.decodeN
  repeat' split
  all_goals (simp only; refine ⟨?_, ?_, ?_, ?_, ?_, ?_, ?_, ?_⟩ <;> first | omega | (intro; omega))
theorem decode_hiY (s : ByteArray) (i : Nat) (h : i < s.size) (hb : 128 ≤ (s[i]'h).toNat) :
    ∃ r k : Nat, Utf8.decode s i = (r, k) ∧ 128 ≤ r ∧ r ≤ 1114111 ∧ 1 ≤ k ∧ i + k ≤ s.size ∧ ∀ j, i ≤ j → j < i + k → ∀ hj : j < s.size, 128 ≤ (s[j]'hj).toNat := by
  have g0 := get_atY s i h
  have hd := decodeN_hiY (s.size - i) (s.get! i).toNat (s.get! (i + 1)).toNat (s.get! (i + 2)).toNat (s.get! (i + 3)).toNat (by omega) (by rw [g0]; exact hb) (UInt8.toNat_lt _) (UInt8.toNat_lt _) (UInt8.toNat_lt _) (UInt8.toNat_lt _)
  rw [← Lib.decode_at] at hd
  refine ⟨(Utf8.decode s i).1, (Utf8.decode s i).2, rfl, hd.1, hd.2.1, hd.2.2.1, by omega, ?_⟩
  intro j hj hk hs
  obtain ⟨_, _, _, h4, h5, hb1, hb2, hb3⟩ := hd
  rcases (show j = i ∨ j = i + 1 ∨ j = i + 2 ∨ j = i + 3 by omega) with e | e | e | e <;> subst e
  · exact hb
  · have := hb1 (by omega); rwa [get_atY _ _ hs] at this
  · have := hb2 (by omega); rwa [get_atY _ _ hs] at this
  · have := hb3 (by omega); rwa [get_atY _ _ hs] at this
def setIterY (w : World) (b : Nat) (s : ByteArray) (p : Nat) : World := { w with heap := w.heap.setIfInBounds b (.stringIter s p) }
theorem setIter_atY {w : World} {b : Nat} {s t : ByteArray} {p q : Nat} (h : w.heap[b]? = some (.stringIter t q)) : (setIterY w b s p).heap[b]? = some (.stringIter s p) := by
  have hb : b < w.heap.size := by
    rcases Nat.lt_or_ge b w.heap.size with h' | h'
    · exact h'
    · rw [Array.getElem?_eq_none h'] at h; simp at h
  simp [setIterY, hb]
theorem setIter_belowY (w : World) (b B : Nat) (s : ByteArray) (p : Nat) (hB : B ≤ b) : Below B w (setIterY w b s p) :=
  ⟨rfl, rfl, rfl, by simp [setIterY], fun k hk => by simp only [setIterY]; rw [Array.getElem?_setIfInBounds_ne]; omega⟩
theorem next_atY (w : World) (b : Nat) (s : ByteArray) (pos : Nat) (ty : TypeId) (hb : w.heap[b]? = some (.stringIter s pos)) (h : pos < s.size) :
    (Instr.next (.pointer (some ⟨b, 0, none⟩)) true ty).run Tryd.prog w = .ok (.tuple #[.bool true, .int .i64 pos, .int .i32 (Utf8.decode s pos).1]) (setIterY w b s (pos + (Utf8.decode s pos).2)) := by
  simp only [Instr.next, getObj, setObj, Sem.run_bind, Sem.run, hb, Result.andThen, h, if_true]
  simp [goInt, Sem.run, hb, setIterY]
theorem next_overY (w : World) (b : Nat) (s : ByteArray) (pos : Nat) (ty : TypeId) (hb : w.heap[b]? = some (.stringIter s pos)) (h : ¬ pos < s.size) :
    (Instr.next (.pointer (some ⟨b, 0, none⟩)) true ty).run Tryd.prog w = .ok (.tuple #[.bool false]) w := by
  simp [Instr.next, getObj, Sem.run, hb, h]
def iterPosY (w : World) (b : Nat) : Nat := match w.heap[b]? with
  | some (.stringIter _ p) => p
  | _ => 0
theorem iterPos_isY {w : World} {b : Nat} {s : ByteArray} {p : Nat} (h : w.heap[b]? = some (.stringIter s p)) : iterPosY w b = p := by unfold iterPosY; rw [h]
/-- what a byte decodes to: a figure, or nothing of the kind -/
theorem fig_decode (s : ByteArray) (k : Nat) (h : k < s.size) : ∃ r n : Nat, Utf8.decode s k = (r, n) ∧ ((Ap.fig (s.data.toList[k]'h) = true ∧ n = 1 ∧ r = (s.data.toList[k]'h).toNat ∧ 48 ≤ r ∧ r ≤ 57) ∨ (Ap.fig (s.data.toList[k]'h) = false ∧ (r < 48 ∨ 57 < r) ∧ r ≤ 1114111)) := by
  have hc : s.data.toList[k]'h = s[k]'h := rfl
  rw [hc]
  by_cases ha : (s[k]'h).toNat < 128
  · refine ⟨_, _, decode_ascii s k h ha, ?_⟩
    unfold Ap.fig
    by_cases hf : 48 ≤ ((s[k]'h).toNat : Int) ∧ ((s[k]'h).toNat : Int) ≤ 57
    · left
      rw [decide_eq_true hf]
      exact ⟨rfl, rfl, rfl, by omega, by omega⟩
    · right
      rw [decide_eq_false hf]
      exact ⟨rfl, by omega, by omega⟩
  · obtain ⟨r, n, hd, h1, h2, _⟩ := decode_hiY s k h (by omega)
    refine ⟨r, n, hd, .inr ⟨?_, by omega, h2⟩⟩
    unfold Ap.fig
    exact decide_eq_false (by omega)
end Go.Proofs.YtfacmnooklljnaaDoor

/- strings.Cut at one byte: both parts told (XN2's proof, of any byte). No conditions but those that each law states. -/
namespace Go.Proofs.YtfacmnooklljnaaDoor
set_option linter.unusedVariables false
set_option linter.unusedSimpArgs false
open Go.RowKit Go.Shelf
set_option maxHeartbeats 4000000
set_option maxRecDepth 100000
namespace Ap
theorem ix_no {l : List UInt8} {c : UInt8} (h : (cutB c l).2.2 = false) : Lib.indexByte l c = -1 ∧ cutB c l = (l, [], false) := by
  induction l with
  | nil => exact ⟨rfl, rfl⟩
  | cons b l ih =>
    rw [cutB_cons] at h ⊢
    by_cases hb : b = c
    · rw [if_pos hb] at h; cases h
    · rw [if_neg hb] at h ⊢
      obtain ⟨h1, h2⟩ := ih h
      unfold Lib.indexByte
      rw [h1, if_neg (by simpa using hb), h2]
      exact ⟨rfl, rfl⟩
theorem ix_yes {l : List UInt8} {c : UInt8} (h : (cutB c l).2.2 = true) : ∃ k : Nat, Lib.indexByte l c = (k : Int) ∧ k < l.length ∧ cutB c l = (l.take k, l.drop (k + 1), true) := by
  induction l with
  | nil => cases h
  | cons b l ih =>
    rw [cutB_cons] at h ⊢
    by_cases hb : b = c
    · subst hb
      rw [if_pos rfl]
      exact ⟨0, by unfold Lib.indexByte; simp, by simp, rfl⟩
    · rw [if_neg hb] at h ⊢
      obtain ⟨k, h1, h2, h3⟩ := ih h
      refine ⟨k + 1, ?_, by simpa using h2, ?_⟩
      · unfold Lib.indexByte
        rw [if_neg (by simpa using hb), h1, if_neg (by simp)]
        push_cast
        rfl
      · rw [h3]; rfl
end Ap
theorem sl_CutB (s : ByteArray) (c : UInt8) (w : World) (hs : s.size ≤ 1000000) :
    Calls Tryd.prog 44 #[.string s, .string ⟨#[c]⟩] w fun e w' => e = .returned (.tuple #[tx (Ap.cutB c s.data.toList).1, tx (Ap.cutB c s.data.toList).2.1, .bool (Ap.cutB c s.data.toList).2.2]) ∧ Below w.heap.size w w' := by
  have K := Lib.hid (fun W => Tryd.stringslite_Index_one s c W)
  have hsz : s.size = s.data.toList.length := rfl
  cases h : (Ap.cutB c s.data.toList).2.2 with
  | true =>
    obtain ⟨k, h1, h2, h3⟩ := Ap.ix_yes h
    rw [h1] at K
    have hk2 : k < s.size := by rw [hsz]; exact h2
    have HT := Lib.hid (show tx (Ap.cutB c s.data.toList).1 = .string (s.extract 0 k) by
      rw [h3]; unfold tx; congr 1; apply ByteArray.ext; apply Array.ext'; rw [Lib.extract_data]; simp)
    have HD := Lib.hid (show tx (Ap.cutB c s.data.toList).2.1 = .string (s.extract (k + 1) s.size) by
      rw [h3]; unfold tx; congr 1; apply ByteArray.ext; apply Array.ext'
      rw [Lib.extract_to_end s (k + 1)])
    have hw : IntKind.i64.wrap ((k : Int) + 1) = (k : Int) + 1 := by simp [IntKind.wrap, IntKind.bits, IntKind.signed]; omega
    clear h h1 h2 h3 hsz
    go_enter Tryd.func44, Tryd.ntmps44
    go_wp2_with fail
    refine (K.out w).mono ?_
    rintro e w' ⟨rfl, rfl⟩
    go_wp2_with fail
    go_quiet (fail)
    go_wp2_with fail
    simp [bodyPost, results, Tryd.results44, go_sem]
    rw [HT.out, HD.out]
    exact ⟨⟨rfl, rfl⟩, ⟨rfl, rfl, rfl, Nat.le_refl _, fun _ _ => rfl⟩⟩
  | false =>
    obtain ⟨h1, h3⟩ := Ap.ix_no h
    rw [h1] at K
    have HT := Lib.hid (show tx (Ap.cutB c s.data.toList).1 = .string s by rw [h3]; rfl)
    have HD := Lib.hid (show tx (Ap.cutB c s.data.toList).2.1 = .string ⟨#[]⟩ by rw [h3]; rfl)
    clear h h1 h3 hsz
    go_enter Tryd.func44, Tryd.ntmps44
    go_wp2_with fail
    refine (K.out w).mono ?_
    rintro e w' ⟨rfl, rfl⟩
    go_wp2_with fail
    simp [bodyPost, results, Tryd.results44, go_sem]
    rw [HT.out, HD.out]
    exact ⟨⟨rfl, rfl⟩, Below.refl _ _⟩
theorem str_CutB (s : ByteArray) (c : UInt8) (w : World) (hs : s.size ≤ 1000000) :
    Calls Tryd.prog 31 #[.string s, .string ⟨#[c]⟩] w fun e w' => e = .returned (.tuple #[tx (Ap.cutB c s.data.toList).1, tx (Ap.cutB c s.data.toList).2.1, .bool (Ap.cutB c s.data.toList).2.2]) ∧ Below w.heap.size w w' := by
  have K0 := sl_CutB s c w hs
  unfold tx at K0 ⊢
  obtain ⟨x, hx⟩ : ∃ z : ByteArray, (⟨(Ap.cutB c s.data.toList).1.toArray⟩ : ByteArray) = z := ⟨_, rfl⟩
  obtain ⟨y, hy⟩ : ∃ z : ByteArray, (⟨(Ap.cutB c s.data.toList).2.1.toArray⟩ : ByteArray) = z := ⟨_, rfl⟩
  obtain ⟨b, hb⟩ : ∃ z, (Ap.cutB c s.data.toList).2.2 = z := ⟨_, rfl⟩
  rw [hx, hy, hb] at K0 ⊢
  have K := Lib.hid K0
  clear hx hy hb K0
  go_enter Tryd.func31, Tryd.ntmps31
  go_wp2_with fail
  refine K.out.mono ?_
  rintro e w' ⟨rfl, hbb⟩
  have HBB := Lib.hid hbb
  clear hbb
  go_wp2_with fail
  simp [bodyPost, results, Tryd.results31, go_sem]
  exact HBB.out
end Go.Proofs.YtfacmnooklljnaaDoor

/- target: must gives up; caught, of a frame that returns and of one that panics. -/
namespace Go.Proofs.YtfacmnooklljnaaDoor
set_option linter.unusedVariables false
set_option linter.unusedSimpArgs false
open Go.RowKit
set_option maxHeartbeats 1000000
/-- what is given up with -/
def errno (n : Int) : Value := .iface 29 (.int .i64 n)
theorem errno_is (v : Value) (W : World) : (Instr.typeAssert (.iface 29 v) 20 29 true).run Tryd.prog W = .ok (.tuple #[v, .bool true]) W := by
  simp [Instr.typeAssert, go_sem, Tryd.underlying29, Result.andThen]
end Go.Proofs.YtfacmnooklljnaaDoor

/- accept: must, caught. No conditions but those that each law states. -/
namespace Go.Proofs.YtfacmnooklljnaaDoor
set_option linter.unusedVariables false
set_option linter.unusedSimpArgs false
open Go.RowKit
set_option maxHeartbeats 8000000
set_option maxRecDepth 100000
theorem callsDInW_of_wpS {P : Program} {f : FuncId} {fn : Func} {c : Code} {args : Array Value} {u : FrameMode} {w : World} {R : Ending → FrameMode → World → Prop} (m : Nat)
    (hf : P.funcs[f]? = some fn) (hb : fn.body = some c)
    (h : ∀ (c₀ : Frame) (cs : List Frame), c₀.mode = u →
      c.wpS P (bodyPostS P fn c₀ cs R) { tmps := args ++ Array.replicate (fn.ntmps - args.size) undef, defers := [] } (c₀ :: cs) w) :
    CallsDIn Fence.wide m P f args u w R := by
  refine ⟨trivial, fun c₀ cs hu _ => ?_⟩
  let b : Frame := { (default : Frame) with fn := f, kind := .deferred }
  have henter : Frame.enter P f args .deferred =
      b.at { tmps := args ++ Array.replicate (fn.ntmps - args.size) undef, defers := [] } [.code c] := by
    simp [Frame.enter, Frame.at, hf, hb, b]
  obtain ⟨e, a', cs', w', hq, harr⟩ := h c₀ cs hu b [] rfl rfl
  rw [← henter] at harr
  cases e with
  | normal =>
    obtain ⟨hd, u', rfl, v, hr, hR⟩ := hq
    exact ⟨.returned v, u', w', _, hR, comesIn_wide.2 (Steps.trans harr (.one step_end)), rfl, rfl, rfl, hd, fn, hf, hr⟩
  | ret =>
    obtain ⟨hd, u', rfl, v, hr, hR⟩ := hq
    obtain ⟨todo, hs⟩ := harr
    exact ⟨.returned v, u', w', _, hR, comesIn_wide.2 hs, rfl, rfl, rfl, hd, fn, hf, hr⟩
  | panic chain =>
    obtain ⟨hd, u', rfl, hR⟩ := hq
    obtain ⟨todo, hs⟩ := harr
    exact ⟨.panicked chain, u', w', _, hR, comesIn_wide.2 hs, rfl, rfl, rfl, hd, fn, hf⟩
  | exit id => exact hq.elim
  | goto l => exact hq.elim
  | outgrown =>
    obtain ⟨u', hR⟩ := hq
    exact ⟨.outgrown, u', w', b, hR, comesIn_wide.2 (harr.resolve_left (by simp [b])), rfl, rfl, trivial⟩
theorem ac_must (n : Int) (w : World) :
    Calls Tryd.prog 21 #[.bool true, .int .i64 n] w fun e w' => e = .returned (.tuple #[]) ∧ w' = w := by
  go_enter Tryd.func21, Tryd.ntmps21
  go_wp2
  all_goals first | contradiction | simp [bodyPost, results, Tryd.results21, go_sem]
theorem ac_must_no (n : Int) (w : World) :
    Calls Tryd.prog 21 #[.bool false, .int .i64 n] w fun e w' => e = .panicked [{ v := errno n, recovered := false }] ∧ w' = w := by
  go_enter Tryd.func21, Tryd.ntmps21
  go_wp2
  all_goals first | contradiction | simp [errno, bodyPost]
theorem ac_caught_idle (m : Nat) (p : Addr) (w : World) :
    CallsDIn Fence.wide m Tryd.prog 20 #[.pointer (some p)] .returning w fun e u' w' => e = .returned (.tuple #[]) ∧ u' = .returning ∧ w' = w := by
  refine callsDInW_of_wpS m Tryd.func20 rfl fun c₀ cs hu => ?_
  apply wpS_seq
  apply wpS_region
  simp [wpOpsS, go_sem, recoverD, hu, Tryd.ntmps20, Exit.thenS]
  apply wpS_seq
  apply wpS_region
  simp [wpOpsS, go_sem, recoverD, hu, Exit.thenS]
  refine wpS_cond (t := false) (by simp [Act.eval, Array.replicate]) ?_
  simp only [Bool.false_eq_true, if_false]
  refine wpS_of_wp (wp_skip ?_)
  cases c₀
  simp_all [bodyPostS, results, Tryd.results20]
theorem ac_caught (m : Nat) (p : Addr) (n : Int) (older : List PanicEntry) (w : World) (old : Value) (hc : w.cell? p = some old) (hz : w.frozen? p = false) :
    CallsDIn Fence.wide m Tryd.prog 20 #[.pointer (some p)] (.panicking ({ v := errno n, recovered := false } :: older)) w fun e u' w' =>
      e = .returned (.tuple #[]) ∧ u' = .panicking ({ v := errno n, recovered := true } :: older) ∧ w' = w.setCell p (.int .i64 n) := by
  refine callsDInW_of_wpS m Tryd.func20 rfl fun c₀ cs hu => ?_
  apply wpS_seq
  apply wpS_region
  simp [wpOpsS, go_sem, recoverD, hu, Tryd.ntmps20, Exit.thenS]
  apply wpS_seq
  apply wpS_region
  simp [wpOpsS, go_sem, recoverD, hu, Exit.thenS, errno]
  refine wpS_cond (t := true) (by simp [Act.eval, Array.replicate]) ?_
  simp only [if_true]
  refine wpS_of_wp ?_
  simp [Array.replicate, List.replicate, List.setIfInBounds_toArray]
  have hta : ∀ (v : Value) (W : World), (Instr.typeAssert (.iface 29 v) 20 29 true).run Tryd.prog W = .ok (.tuple #[v, .bool true]) W := errno_is
  go_wp2_with fail
  simp [bodyPostS, results, Tryd.results20, go_sem]
end Go.Proofs.YtfacmnooklljnaaDoor

/- accept: the thousandths of a quality's text. No conditions but those that the law states. -/
namespace Go.Proofs.YtfacmnooklljnaaDoor
set_option linter.unusedVariables false
set_option linter.unusedSimpArgs false
open Go.RowKit Go.Shelf
set_option maxHeartbeats 8000000
set_option maxRecDepth 100000
/-- what is told of a number, or that it gives up -/
def acNo : Ending := .panicked [{ v := errno 220, recovered := false }]
def thOut (o : Option Int) : Ending := match o with
  | some n => .returned (.int .i64 n)
  | none => acNo
theorem num_snoc (l : List UInt8) (c : UInt8) : Ap.num (l ++ [c]) = 10 * Ap.num l + ((c.toNat : Int) - 48) := by
  unfold Ap.num; rw [List.foldl_append]; rfl
theorem num_bound : ∀ (k : Nat) (l : List UInt8), l.length = k → l.all Ap.fig = true → 0 ≤ Ap.num l ∧ Ap.num l < 10 ^ k := by
  intro k
  induction k with
  | zero => intro l h _; obtain rfl := List.length_eq_zero_iff.1 h; exact ⟨by decide, by decide⟩
  | succ k ih =>
    intro l h ha
    obtain ⟨l', c, rfl⟩ : ∃ l' c, l = l' ++ [c] := ⟨l.dropLast, l.getLast (by intro e; rw [e] at h; cases h), (List.dropLast_concat_getLast _).symm⟩
    rw [List.length_append, List.length_singleton] at h
    rw [List.all_append, Bool.and_eq_true] at ha
    have h1 := ih l' (by omega) ha.1
    have h2 : Ap.fig c = true := by simpa using ha.2
    unfold Ap.fig at h2
    have h3 := of_decide_eq_true h2
    rw [num_snoc]
    have e : (10 : Int) ^ (k + 1) = 10 * 10 ^ k := by rw [Int.pow_succ]; omega
    omega
theorem ac_thou (s : ByteArray) (w : World) (hs : s.size ≤ 100000) :
    Calls Tryd.prog 46 #[.string s] w fun e w' => e = thOut (Ap.thou s.data.toList) ∧ Below w.heap.size w w' := by
  have KC := str_CutB s 46 w (by omega)
  unfold Ap.thou
  have hlen := Ap.cutB_len 46 s.data.toList
  have hsl : s.data.toList.length = s.size := rfl
  have hdot : (Ap.cutB 46 s.data.toList).2.2 = false → (Ap.cutB 46 s.data.toList).2.1 = [] := fun h => by rw [(Ap.ix_no h).2]
  obtain ⟨wh, hwh⟩ : ∃ z, (Ap.cutB 46 s.data.toList).1 = z := ⟨_, rfl⟩
  obtain ⟨pa, hpa⟩ : ∃ z, (Ap.cutB 46 s.data.toList).2.1 = z := ⟨_, rfl⟩
  obtain ⟨d, hd⟩ : ∃ z, (Ap.cutB 46 s.data.toList).2.2 = z := ⟨_, rfl⟩
  rw [hwh, hpa, hd] at KC
  rw [hwh, hpa] at hlen ⊢
  rw [hpa, hd] at hdot
  unfold tx at KC
  obtain ⟨wb, hwb⟩ : ∃ z : ByteArray, (⟨wh.toArray⟩ : ByteArray) = z := ⟨_, rfl⟩
  obtain ⟨pb, hpb⟩ : ∃ z : ByteArray, (⟨pa.toArray⟩ : ByteArray) = z := ⟨_, rfl⟩
  rw [hwb, hpb] at KC
  have hwl : wb.toList = wh := by rw [ByteArray.toList_eq, ← hwb]
  have hpl : pb.toList = pa := by rw [ByteArray.toList_eq, ← hpb]
  have hpz : pb.size = pa.length := by rw [← hpb]; simp [ByteArray.size]
  have hpd : pb.data.toList = pa := by rw [← hpb]
  have K := Lib.hid KC
  obtain ⟨b0, hb0⟩ : ∃ z, (wh == ([48] : List UInt8)) = z := ⟨_, rfl⟩
  obtain ⟨b1, hb1⟩ : ∃ z, (wh == ([49] : List UInt8)) = z := ⟨_, rfl⟩
  have g0 : (wb.toList == ([48] : List UInt8)) = b0 := by rw [hwl]; exact hb0
  have g1 : (wb.toList == ([49] : List UInt8)) = b1 := by rw [hwl]; exact hb1
  obtain ⟨o, ho⟩ : ∃ o : Option Int, (if (wh = [48] ∨ wh = [49]) ∧ pa.length ≤ 3 ∧ (pa ++ ([48, 48, 48] : List UInt8).drop pa.length).all Ap.fig = true then
    (if wh = [49] then (if Ap.num (pa ++ ([48, 48, 48] : List UInt8).drop pa.length) = 0 then some 1000 else none) else some (Ap.num (pa ++ ([48, 48, 48] : List UInt8).drop pa.length)))
    else none) = o := ⟨_, rfl⟩
  rw [ho]
  have HO := Lib.hid ho
  have HB0 := Lib.hid hb0
  have HB1 := Lib.hid hb1
  by_cases hno : b0 = false ∧ b1 = false
  · have HN := Lib.hid (show o = none by
      rw [← HO.out, if_neg]
      rintro ⟨h | h, _⟩
      · rw [h] at hb0; rw [hno.1] at hb0; cases hb0
      · rw [h] at hb1; rw [hno.2] at hb1; cases hb1)
    obtain ⟨rfl, rfl⟩ := hno
    clear hlen hsl hdot hwh hpa hd hwb hpb hwl hpl hpz hpd KC hb0 hb1 ho
    go_enter Tryd.func46, Tryd.ntmps46
    go_wp2_with fail
    refine K.out.mono ?_
    rintro e w1 ⟨rfl, hb⟩
    have HB := Lib.hid hb
    clear hb
    go_wp2_with fail
    refine (ac_must_no 220 w1).mono ?_
    rintro e w2 ⟨rfl, hw⟩
    subst hw
    exact ⟨rfl, by rw [HN.out]; rfl, HB.out⟩
  by_cases h3 : 3 < pa.length
  · have HN := Lib.hid (show o = none by rw [← HO.out, if_neg (fun h => by omega)])
    have hsz : ¬ ((pb.size : Int) ≤ 3) := by omega
    clear hlen hsl hdot hwh hpa hd hwb hpb hwl hpl hpz hpd KC hb0 hb1 ho h3
    cases b0 <;> cases b1 <;> first | exact absurd ⟨rfl, rfl⟩ hno | skip
    all_goals
      clear hno
      go_enter Tryd.func46, Tryd.ntmps46
      go_wp2_with fail
      refine K.out.mono ?_
      rintro e w1 ⟨rfl, hb⟩
      have HB := Lib.hid hb
      clear hb
      go_wp2_with fail
      refine (ac_must_no 220 w1).mono ?_
      rintro e w2 ⟨rfl, hw⟩
      subst hw
      exact ⟨rfl, by rw [HN.out]; rfl, HB.out⟩
  have h3' : pa.length ≤ 3 := by omega
  obtain ⟨D, hD⟩ : ∃ z, pa ++ ([48, 48, 48] : List UInt8).drop pa.length = z := ⟨_, rfl⟩
  rw [hD] at ho
  have hDl : D.length = 3 := by rw [← hD, List.length_append, List.length_drop]; simp; omega
  obtain ⟨zb, hzb⟩ : ∃ z : ByteArray, (⟨#[48, 48, 48]⟩ : ByteArray).extract pb.size 3 = z := ⟨_, rfl⟩
  have hsl3 : ∀ W, (Instr.slice 9 (.string ⟨#[48, 48, 48]⟩) (some (.int .i64 (pb.size : Int))) none none).run Tryd.prog W = .ok (.string zb) W := fun W => by
    have q1 : (pb.size : Int) ≤ 3 := by omega
    have q2 : (⟨#[48, 48, 48]⟩ : ByteArray).size = 3 := rfl
    simp [go_sem, Tryd.underlying9, q2, q1]
    all_goals exact hzb
  have hzd : zb.data.toList = ([48, 48, 48] : List UInt8).drop pa.length := by
    rw [← hzb, Lib.extract_data, hpz]
    simp
    try rw [List.take_of_length_le]
    all_goals (try simp)
    all_goals (try omega)
  obtain ⟨tb, htb⟩ : ∃ z : ByteArray, pb ++ zb = z := ⟨_, rfl⟩
  have htd : tb.data.toList = D := by rw [← htb, ByteArray.data_append, Array.toList_append, hpd, hzd, hD]
  have htz : tb.size = 3 := by rw [← hDl, ← htd]; rfl
  have hbt : pb.size + zb.size ≤ 3 := by rw [← ByteArray.size_append, htb, htz]; exact Nat.le_refl _
  have hbt2 : (pb ++ zb).size ≤ 3 := by rw [htb, htz]; exact Nat.le_refl _
  have hp3 : (pb.size : Int) ≤ 3 := by omega
  have HTB := Lib.hid htb
  have HI := Lib.hid (fun W => (World.iter_heap W tb 0))
  have HTD := Lib.hid htd
  have HTZ := Lib.hid htz
  have HDL := Lib.hid hDl
  have HOD := Lib.hid (show o = if D.all Ap.fig = true then (if wh = [49] then (if Ap.num D = 0 then some 1000 else none) else some (Ap.num D)) else none by
    rw [← ho]
    by_cases hf : D.all Ap.fig = true
    · rw [if_pos ⟨by
        cases hc0 : b0 with
        | true => left; rw [hc0] at hb0; simpa using hb0
        | false =>
          cases hc1 : b1 with
          | true => right; rw [hc1] at hb1; simpa using hb1
          | false => exact absurd ⟨hc0, hc1⟩ hno, h3', hf⟩, if_pos hf]
    · rw [if_neg (fun h => hf h.2.2), if_neg hf])
  have hpe : d = false → (pb.toList == ([] : List UInt8)) = true := fun h => by rw [hpl, hdot h]; rfl
  have HPE := Lib.hid hpe
  have hw1 : wh = [49] ↔ b1 = true := by rw [← hb1]; simp
  have HW1 := Lib.hid hw1
  have H01 := Lib.hid (show b0 = true ∨ b1 = true by
    cases b0 <;> cases b1 <;> first | exact absurd ⟨rfl, rfl⟩ hno | exact .inl rfl | exact .inr rfl)
  clear hlen hsl hdot hwh hpa hd hwb hpb hwl hpl hpz hpd KC hb0 hb1 ho h3 h3' hD hDl hzb hzd htd htz hpe hw1 hno HO HB0 HB1 htb
  have main : ∀ (c0 c1 c2 : Bool), c0 = b0 → c1 = b1 → c2 = d → Calls Tryd.prog 46 #[.string s] w fun e w' => e = thOut o ∧ Below w.heap.size w w' := by
    intro c0 c1 c2 e0 e1 e2
    subst e0 e1 e2
    go_enter Tryd.func46, Tryd.ntmps46
    go_wp2_with fail
    refine K.out.mono ?_
    rintro e w1 ⟨rfl, hb⟩
    have HB := Lib.hid hb
    clear hb
    go_upto_region 2 with (fail)
    go_cut [] from 14 (fun wx => Below w.heap.size w wx)
    case first =>
      have hc : c0 = true ∨ c1 = true := H01.out
      have hm := ac_must 220 w1
      have HM := Lib.hid hm
      have HP := HPE.out
      cases c2 with
      | true =>
        clear HP
        cases c0 with
        | true =>
          go_wp2_with fail
          refine HM.out.mono ?_
          rintro e w2 ⟨rfl, hw⟩
          subst hw
          go_wp2_with fail
          go_meet
          exact HB.out
        | false =>
          obtain rfl : c1 = true := hc.resolve_left (by decide)
          clear hc
          go_wp2_with fail
          refine HM.out.mono ?_
          rintro e w2 ⟨rfl, hw⟩
          subst hw
          go_wp2_with fail
          go_meet
          exact HB.out
      | false =>
        have hpe := HP rfl
        clear HP
        cases c0 with
        | true =>
          go_wp2_with fail
          refine HM.out.mono ?_
          rintro e w2 ⟨rfl, hw⟩
          subst hw
          go_wp2_with fail
          go_meet
          exact HB.out
        | false =>
          obtain rfl : c1 = true := hc.resolve_left (by decide)
          clear hc
          go_wp2_with fail
          refine HM.out.mono ?_
          rintro e w2 ⟨rfl, hw⟩
          subst hw
          go_wp2_with fail
          go_meet
          exact HB.out
    case rest =>
      have HBC := Lib.hid hcut
      obtain ⟨wd, rfl⟩ : ∃ z, z = wc := ⟨_, rfl⟩
      clear hcut g0
      obtain ⟨H, hH⟩ : ∃ z, wd.heap.size = z := ⟨_, rfl⟩
      have HI2 := Lib.hid (show (wd.iter tb 0).heap[H]? = some (.stringIter tb 0) by rw [← hH]; exact HI.out wd)
      have HBW := Lib.hid (show Below w.heap.size w (wd.iter tb 0) from HBC.out.alloc HBC.out.size _)
      have HHB := Lib.hid (show w.heap.size ≤ H by rw [← hH]; exact HBC.out.size)
      have HH := Lib.hid hH
      clear hH
      go_upto_region 4 with (fail)
      rw [HTB.out, HH.out]
      go_loopw [2, 7] (fun v _ wr => ∃ k : Nat, k ≤ 3 ∧ v = .int .i64 (Ap.num (D.take k)) ∧ wr.heap[H]? = some (.stringIter tb k) ∧ Below w.heap.size w wr ∧ (D.take k).all Ap.fig = true) (fun _ _ wr => 3 - iterPosY wr H)
      case atStart => exact ⟨0, Nat.zero_le _, rfl, HI2.out, HBW.out, rfl⟩
      case round =>
        obtain ⟨k, hk, rfl, hit, hbl, hal⟩ := hrel
        have hnb := num_bound (D.take k).length (D.take k) rfl hal
        have hkl : (D.take k).length = k := by rw [List.length_take, HDL.out]; omega
        rw [hkl] at hnb
        have HIK := Lib.hid (iterPos_isY hit)
        have HBL := Lib.hid hbl
        have HAL := Lib.hid hal
        by_cases hlt : k < 3
        · have hlt2 : k < tb.size := by rw [HTZ.out]; exact hlt
          have hn := fun ty => next_atY wr H tb k ty hit hlt2
          obtain ⟨r, n, hdec, hor⟩ := fig_decode tb k hlt2
          rw [hdec] at hn
          have HS2 := Lib.hid (setIter_atY (s := tb) (p := k + n) hit)
          have HB2 := Lib.hid (hbl.trans (setIter_belowY wr H w.heap.size tb (k + n) HHB.out))
          have hgk : tb.data.toList[k]'hlt2 = D[k]'(by rw [HDL.out]; exact hlt) := by simp only [HTD.out]
          rw [hgk] at hor
          have HTK := Lib.hid (show D.take (k + 1) = D.take k ++ [D[k]'(by rw [HDL.out]; exact hlt)] from List.take_succ_eq_append_getElem (by rw [HDL.out]; exact hlt))
          have hmem : D[k]'(by rw [HDL.out]; exact hlt) ∈ D := List.getElem_mem _
          obtain ⟨x, hx⟩ : ∃ z, D[k]'(by rw [HDL.out]; exact hlt) = z := ⟨_, rfl⟩
          rw [hx] at hor hmem
          have HTK := Lib.hid (show D.take (k + 1) = D.take k ++ [x] by rw [HTK.out, hx])
          obtain ⟨m, hm⟩ : ∃ z, Ap.num (D.take k) = z := ⟨_, rfl⟩
          have hm3 : 0 ≤ m ∧ m < 1000 := by
            rw [hm] at hnb
            have h1 : (10 : Int) ^ k ≤ 10 ^ 3 := by
              match k, hlt with
              | 0, _ => decide
              | 1, _ => decide
              | 2, _ => decide
            have e : (10 : Int) ^ 3 = 1000 := by decide
            omega
          rw [hm]
          have HM := Lib.hid hm
          rcases hor with ⟨hok, h1, h2, h3, h4⟩ | ⟨hok, hbad, hr4⟩
          · subst h1
            have i1 : (48 : Int) ≤ (r : Int) := by omega
            have i2 : (r : Int) ≤ 57 := by omega
            have w1 : IntKind.i32.wrap ((r : Int) - 48) = (r : Int) - 48 := by simp [IntKind.wrap, IntKind.bits, IntKind.signed]; omega
            have w2 : IntKind.i64.wrap (10 * m) = 10 * m := by simp [IntKind.wrap, IntKind.bits, IntKind.signed]; omega
            have w3 : IntKind.i64.wrap (10 * m + ((r : Int) - 48)) = 10 * m + ((r : Int) - 48) := by simp [IntKind.wrap, IntKind.bits, IntKind.signed]; omega
            have w4 : IntKind.i64.wrap ((r : Int) - 48) = (r : Int) - 48 := by simp [IntKind.wrap, IntKind.bits, IntKind.signed]; omega
            have HNX := Lib.hid (show Ap.num (D.take (k + 1)) = 10 * m + ((r : Int) - 48) by rw [HTK.out, num_snoc, HM.out, h2])
            have HAX := Lib.hid (show (D.take (k + 1)).all Ap.fig = true by rw [HTK.out, List.all_append, HAL.out]; simp [hok])
            have MU := Lib.hid (fun W => ac_must 220 W)
            clear hnb hkl hit hbl hal hdec hgk hmem hx hm hok h2 h3 h4
            go_wp2_with fail
            refine (MU.out _).mono ?_
            rintro e w5 ⟨rfl, hw⟩
            subst hw
            go_wp2_with fail
            go_roundw
            case rel => exact ⟨k + 1, hlt, by rw [HNX.out], HS2.out, HB2.out, HAX.out⟩
            case measure => rw [iterPos_isY HS2.out, HIK.out]; omega
          · have HN := Lib.hid (show o = none by
              rw [HOD.out, if_neg]
              intro h
              have h2 := List.all_eq_true.1 h x hmem
              rw [hok] at h2; cases h2)
            have MU := Lib.hid (fun W => ac_must_no 220 W)
            have HBD := Lib.hid hbad
            by_cases h48 : r < 48
            · have i1 : ¬ (48 : Int) ≤ (r : Int) := by omega
              clear hnb hkl hit hbl hal hdec hgk hmem hx hm hok hbad h48
              go_wp2_with fail
              refine (MU.out _).mono ?_
              rintro e w5 ⟨rfl, hw⟩
              subst hw
              exact ⟨rfl, by rw [HN.out]; rfl, HB2.out⟩
            · have i1 : (48 : Int) ≤ (r : Int) := by omega
              have i2 : ¬ (r : Int) ≤ 57 := by omega
              clear hnb hkl hit hbl hal hdec hgk hmem hx hm hok hbad h48
              go_wp2_with fail
              refine (MU.out _).mono ?_
              rintro e w5 ⟨rfl, hw⟩
              subst hw
              exact ⟨rfl, by rw [HN.out]; rfl, HB2.out⟩
        · obtain rfl : k = 3 := by omega
          have hn := fun ty => next_overY wr H tb 3 ty hit (by rw [HTZ.out]; omega)
          rw [List.take_of_length_le (by rw [HDL.out]; exact Nat.le_refl _)] at hal ⊢
          have HOE := Lib.hid (show o = if wh = [49] then (if Ap.num D = 0 then some 1000 else none) else some (Ap.num D) by rw [HOD.out, if_pos hal])
          obtain ⟨m, hm⟩ : ∃ z, Ap.num D = z := ⟨_, rfl⟩
          rw [hm] at HOE ⊢
          clear hnb hkl hit hbl hal hm
          cases c1 with
          | false =>
            have HE := Lib.hid (show o = some m by rw [HOE.out, if_neg (fun h => by have := HW1.out.1 h; cases this)])
            go_wp2_with fail
            go_ret
            exact ⟨by rw [HE.out]; rfl, HBL.out⟩
          | true =>
            have h49 := HW1.out.2 rfl
            by_cases h0 : m = 0
            · subst h0
              have HE := Lib.hid (show o = some 1000 by rw [HOE.out, if_pos h49, if_pos rfl])
              have MU := Lib.hid (fun W => ac_must 220 W)
              clear h49
              go_wp2_with fail
              refine (MU.out _).mono ?_
              rintro e w5 ⟨rfl, hw⟩
              subst hw
              go_wp2_with fail
              go_ret
              exact ⟨by rw [HE.out]; rfl, HBL.out⟩
            · have HE := Lib.hid (show o = none by rw [HOE.out, if_pos h49, if_neg h0])
              have hm0 : (m == 0) = false := beq_eq_false_iff_ne.2 h0
              have MU := Lib.hid (fun W => ac_must_no 220 W)
              clear h49 h0
              go_wp2_with fail
              refine (MU.out _).mono ?_
              rintro e w5 ⟨rfl, hw⟩
              subst hw
              exact ⟨rfl, by rw [HE.out]; rfl, HBL.out⟩
  exact main b0 b1 d rfl rfl rfl
end Go.Proofs.YtfacmnooklljnaaDoor

/- A quoted text, the reference's: that of the text Tk. -/
namespace Go.Proofs.YtfacmnooklljnaaDoor
set_option linter.unusedVariables false
set_option linter.unusedSimpArgs false
open Go.RowKit Go.Shelf
set_option maxHeartbeats 1000000
namespace Tp
theorem qr_end (acc : List UInt8) : qr acc [34] = some acc := rfl
theorem qr_quote (acc : List UInt8) (d : UInt8) (l : List UInt8) : qr acc (34 :: d :: l) = none := by rw [qr, if_pos rfl]
theorem qr_one (acc : List UInt8) (c : UInt8) (h : c ≠ 34) : qr acc [c] = none := by rw [qr, if_neg h]
theorem qr_back (acc : List UInt8) (d : UInt8) (l : List UInt8) : qr acc (92 :: d :: l) = if valB d.toNat then qr (acc ++ [d]) l else none := by rw [qr, if_neg (by decide), if_pos rfl]
theorem qr_nil (acc : List UInt8) : qr acc [] = none := by unfold qr; rfl
theorem qr_more (acc : List UInt8) (c : UInt8) (l : List UInt8) (h : c ≠ 34) (h2 : c ≠ 92) : qr acc (c :: l) = if valB c.toNat then qr (acc ++ [c]) l else none := by
  cases l with
  | nil => rw [qr_one _ _ h, qr_nil]; split <;> rfl
  | cons d l => rw [qr, if_neg h, if_neg h2]
theorem qs_none {l : List UInt8} (h : quoted l = none) : quotedS l = [] ∧ quotedE l = 110 := by unfold quotedS quotedE; rw [h]; exact ⟨rfl, rfl⟩
theorem qs_some {l a : List UInt8} (h : quoted l = some a) : quotedS l = a ∧ quotedE l = 0 := by unfold quotedS quotedE; rw [h]; exact ⟨rfl, rfl⟩
/-- the reference's place: k bytes read, 'acc' gathered -/
def QAt (l acc : List UInt8) (k : Nat) : Prop := acc.length ≤ k ∧ qr acc (l.drop k) = quoted l
theorem qAt_end {l acc : List UInt8} {k : Nat} (h : QAt l acc k) (hk : l.length ≤ k) : quoted l = none := by
  rw [← h.2, List.drop_eq_nil_of_le hk, qr_nil]
theorem qAt_last {l acc : List UInt8} {k : Nat} (h : QAt l acc k) (hk : k < l.length) (hc : l[k] = 34) (hl : k + 1 = l.length) : quoted l = some acc := by
  rw [← h.2, drop_here l k hk, hc, hl, List.drop_length, qr_end]
theorem qAt_mid {l acc : List UInt8} {k : Nat} (h : QAt l acc k) (hk : k < l.length) (hc : l[k] = 34) (hl : k + 1 < l.length) : quoted l = none := by
  rw [← h.2, drop_here l k hk, hc, drop_here l (k + 1) hl, qr_quote]
theorem qAt_back_end {l acc : List UInt8} {k : Nat} (h : QAt l acc k) (hk : k < l.length) (hc : l[k] = 92) (hl : l.length ≤ k + 1) : quoted l = none := by
  rw [← h.2, drop_here l k hk, List.drop_eq_nil_of_le hl, hc, qr_one _ _ (by decide)]
theorem qAt_back_bad {l acc : List UInt8} {k : Nat} (h : QAt l acc k) (hk : k < l.length) (hc : l[k] = 92) (hl : k + 1 < l.length) (hv : valB (l[k + 1].toNat : Int) = false) : quoted l = none := by
  rw [← h.2, drop_here l k hk, hc, drop_here l (k + 1) hl, qr_back, hv]; rfl
theorem qAt_back {l acc : List UInt8} {k : Nat} (h : QAt l acc k) (hk : k < l.length) (hc : l[k] = 92) (hl : k + 1 < l.length) (hv : valB (l[k + 1].toNat : Int) = true) : QAt l (acc ++ [l[k + 1]]) (k + 2) := by
  refine ⟨by rw [List.length_append]; have := h.1; simp; omega, ?_⟩
  rw [← h.2, drop_here l k hk, hc, drop_here l (k + 1) hl, qr_back, hv]; rfl
theorem qAt_bad {l acc : List UInt8} {k : Nat} (h : QAt l acc k) (hk : k < l.length) (h1 : l[k] ≠ 34) (h2 : l[k] ≠ 92) (hv : valB (l[k].toNat : Int) = false) : quoted l = none := by
  rw [← h.2, drop_here l k hk, qr_more _ _ _ h1 h2, hv]; rfl
theorem qAt_more {l acc : List UInt8} {k : Nat} (h : QAt l acc k) (hk : k < l.length) (h1 : l[k] ≠ 34) (h2 : l[k] ≠ 92) (hv : valB (l[k].toNat : Int) = true) : QAt l (acc ++ [l[k]]) (k + 1) := by
  refine ⟨by rw [List.length_append]; have := h.1; simp; omega, ?_⟩
  rw [← h.2, drop_here l k hk, qr_more _ _ _ h1 h2, hv]; rfl
end Tp
def bv (b : UInt8) : Value := .int .u8 b.toNat
theorem conv_own {w : World} {B : Nat} {v : Value} {l : List UInt8} (h : w.ownsRow B 5 1 v l.length (l.map bv)) : (convert 76 9 v).run Tryd.prog w = .ok (.string ⟨l.toArray⟩) w := by
  rcases h.2 with ⟨rfl, h0⟩ | ⟨g, cap, cur, rfl, _, hg, hc, _, hs, ht⟩
  · have : l = [] := List.length_eq_zero_iff.1 h0
    subst this
    rw [run_convert_bytes_string w 76 9 5 none 0 0 Tryd.underlying76 Tryd.underlying5 Tryd.underlying9]
    rfl
  · refine run_convert_bytes_back w 76 9 5 ⟨g, 0, none⟩ cap l Tryd.underlying76 Tryd.underlying5 Tryd.underlying9 (fun j hj => ?_)
    rw [Lib.add_plain, Nat.zero_add]
    unfold World.cell?
    rw [show (⟨g, j, none⟩ : Addr).block = g from rfl, hg]
    show (if (none : Option _).isSome then none else cur[j]?) = _
    have h1 : (cur.toList.take (l.length * 1))[j]? = (l.map bv)[j]? := by rw [ht]
    rw [List.getElem?_take_of_lt (by omega)] at h1
    rw [if_neg (by simp), ← Array.getElem?_toList, h1, List.getElem?_map, List.getElem?_eq_getElem hj]
    rfl
theorem app_own {w1 : World} {B : Nat} {v' : Value} {acc : List UInt8} {d : UInt8} {y : Int} (hy : (d.toNat : Int) = y) (h : w1.ownsRow B 5 1 v' (acc.length + 1) (acc.map bv ++ [.int .u8 y])) : w1.ownsRow B 5 1 v' (acc ++ [d]).length ((acc ++ [d]).map bv) := by
  subst hy
  rw [List.length_append, List.map_append]
  exact h
end Go.Proofs.YtfacmnooklljnaaDoor

/- strings.Builder's copyCheck and WriteByte, walked at this program (the shelf's own laws of them cannot be laid here). The builder's row lies at 'base' or above, so that all below but the builder stands. -/
namespace Go.Proofs.YtfacmnooklljnaaDoor
set_option linter.unusedVariables false
set_option linter.unusedSimpArgs false
open Go.RowKit Go.Shelf
set_option maxHeartbeats 2000000
set_option maxRecDepth 100000
/-- below 'base' all but block b stands -/
structure Fr (b base : Nat) (w w' : World) : Prop where
  os : w'.os = w.os
  tape : w'.tape = w.tape
  output : w'.output = w.output
  size : w.heap.size ≤ w'.heap.size
  block : ∀ k, k < base → k ≠ b → w'.heap[k]? = w.heap[k]?
theorem Fr.trans {b base : Nat} {w1 w2 w3 : World} (h : Fr b base w1 w2) (k : Fr b base w2 w3) : Fr b base w1 w3 :=
  ⟨k.os.trans h.os, k.tape.trans h.tape, k.output.trans h.output, Nat.le_trans h.size k.size, fun i hi hb => (k.block i hi hb).trans (h.block i hi hb)⟩
theorem Fr.of {b base : Nat} {w w' : World} (h : Below base w w') : Fr b base w w' := ⟨h.os, h.tape, h.output, h.size, fun k hk _ => h.block k hk⟩
theorem Fr.set (b base i : Nat) (w : World) (v : Value) : Fr b base w (w.setCell ⟨b, i, none⟩ v) := ⟨rfl, rfl, rfl, by simp, fun k _ hk => heap_setCell_other _ _ _ _ hk⟩
theorem Fr.below {b base B : Nat} {w w' : World} (h : Fr b base w w') (hB : B ≤ b) (hb : B ≤ base) : Below B w w' := ⟨h.os, h.tape, h.output, h.size, fun k hk => h.block k (by omega) (by omega)⟩
def BD (w : World) (b base : Nat) (p : Value) (bs : List Value) : Prop :=
  ∃ v, w.heap[b]? = some (.cells #[p, v] 93 (0, 0)) ∧ w.ownsRow base 5 1 v bs.length bs
theorem builder_used (b : Nat) (w : World) (h0 : w.cell? ⟨b, 0, none⟩ = some (.pointer (some ⟨b, 0, none⟩))) :
    Calls Tryd.prog 66 #[.pointer (some ⟨b, 0, none⟩)] w fun e w' => e = .returned (.tuple #[]) ∧ w' = w := by
  obtain ⟨j, hj, _⟩ := Option.map_eq_some_iff.1 (show (Tryd.prog.info? 93).map (·.size) = some 2 by kernel_rfl)
  go_enter Tryd.func66, Tryd.ntmps66
  go_wp2
  rw [Lib.run_neq_ptr_same w _ Tryd.underlying91 hj]
  go_wp2
  go_end0
  exact ⟨rfl, rfl⟩
theorem builder_fresh (b : Nat) (w : World) (h0 : w.cell? ⟨b, 0, none⟩ = some (.pointer none)) (hsh : w.shape? b = some (93, 2)) (hfz : w.frozen? ⟨b, 0, none⟩ = false) :
    Calls Tryd.prog 66 #[.pointer (some ⟨b, 0, none⟩)] w fun e w' => e = .returned (.tuple #[]) ∧ w' = w.setCell ⟨b, 0, none⟩ (.pointer (some ⟨b, 0, none⟩)) := by
  obtain ⟨j, hj, hjs⟩ := Option.map_eq_some_iff.1 (show (Tryd.prog.info? 93).map (·.size) = some 2 by kernel_rfl)
  have hl : liesAt Tryd.prog Tryd.prog.depth 93 (2 / Tryd.prog.cellsOf 93) 0 93 1 = true := by kernel_rfl
  go_enter Tryd.func66, Tryd.ntmps66
  go_wp2
  rw [Lib.run_to_unsafe w ⟨b, 0, none⟩ Tryd.underlying91 Tryd.underlying109 hj (by rw [hjs]; decide) hsh (Nat.zero_lt_succ 1)]
  simp only [Result.andThen]
  rw [Oper.upon_value]
  go_wp2
  rw [run_callFunc_extern Tryd.func72 (by kernel_rfl) (by kernel_rfl) (by kernel_rfl) (e := Extern.AbiNoEscape.same) (by kernel_rfl)]
  rw [Lib.run_noEscape]
  simp only [Result.andThen]
  rw [Oper.upon_value]
  go_wp2
  rw [Lib.run_from_unsafe w ⟨b, 0, none⟩ Tryd.underlying109 Tryd.underlying91 hj hsh hl]
  simp only [Result.andThen]
  rw [Oper.upon_value]
  go_wp2
  go_end0
  exact ⟨rfl, rfl⟩
theorem bd_used {w : World} {b base : Nat} {p q : Value} {bs : List Value} (h : BD w b base p bs) (hb : b < base) : BD (w.setCell ⟨b, 0, none⟩ q) b base q bs := by
  obtain ⟨v, hv, hown⟩ := h
  exact ⟨v, heap_setCell_same _ _ _ _ _ _ hv, ownsRow_setCell_below hown hb _⟩
theorem builder_check (b base : Nat) (p : Value) (bs : List Value) (w : World) (hp : p = .pointer none ∨ p = .pointer (some ⟨b, 0, none⟩)) (h : BD w b base p bs) (hb : b < base) :
    Calls Tryd.prog 66 #[.pointer (some ⟨b, 0, none⟩)] w fun e w' => e = .returned (.tuple #[]) ∧ BD w' b base (.pointer (some ⟨b, 0, none⟩)) bs ∧ Fr b base w w' := by
  have hh := h
  obtain ⟨v, hv, hown⟩ := hh
  have c0 : w.cell? ⟨b, 0, none⟩ = some p := by simp [World.cell?, hv]
  rcases hp with rfl | rfl
  · refine (builder_fresh b w c0 (by simp [World.shape?, hv]) (frozen_of_row _ _ _ _ _ hv)).mono ?_
    rintro e w' ⟨rfl, rfl⟩
    exact ⟨rfl, bd_used h hb, Fr.set _ _ _ _ _⟩
  · refine (builder_used b w c0).mono ?_
    rintro e w' ⟨rfl, rfl⟩
    exact ⟨rfl, h, Fr.of (Below.refl _ _)⟩
theorem builder_byte (b base : Nat) (p : Value) (bs : List Value) (c : Int) (w : World) (hp : p = .pointer none ∨ p = .pointer (some ⟨b, 0, none⟩)) (h : BD w b base p bs) (hb : b < base) (hw : base ≤ w.heap.size) (hl : bs.length ≤ 1000000) :
    Calls Tryd.prog 57 #[.pointer (some ⟨b, 0, none⟩), .int .u8 c] w fun e w' => e = .returned .nilIface ∧ BD w' b base (.pointer (some ⟨b, 0, none⟩)) (bs ++ [.int .u8 c]) ∧ Fr b base w w' := by
  obtain ⟨i0, hi, hz0, hz1, hz2⟩ := info_parts (show (Tryd.prog.info? 5).map (fun i => (i.zero, i.size, i.bytes)) = some (some (.int .u8 0), 1, 1) by kernel_rfl)
  have K := Lib.hid (builder_check b base p bs w hp h hb)
  clear h hp
  go_enter Tryd.func57, Tryd.ntmps57
  go_wp2_with fail
  refine K.out.mono ?_
  rintro e w1 ⟨rfl, ⟨v, hv, hown⟩, hfr⟩
  have HV := Lib.hid hv
  have HO := Lib.hid hown
  have HF := Lib.hid hfr
  have hw1 : base ≤ w1.heap.size := Nat.le_trans hw hfr.size
  have c1 : w1.cell? ⟨b, 1, none⟩ = some v := by simp [World.cell?, hv]
  clear K hv hown hfr hw
  go_wp2_with (at_builtin; refine wpList_append_own _ rfl _ _ 76 rfl base 5 i0 (.int .u8 0) 1 1 Tryd.underlying76 hi hz0 hz1 hz2 rfl (by decide) _ _ _ rfl (HO.out.alloc _) ⟨w1.heap.size, 0, none⟩ 1 1 [.int .u8 c] rfl rfl ?c1 ?c2 ?c3 ?c4 ?c5 ?_)
  case c1 =>
    intro j u hj
    match j, hj with
    | 0, hj => simp at hj; subst hj; simp [Addr.add]
  case c2 => intro u hu; simp at hu; subst hu; rfl
  case c3 => unfold maxLen; omega
  case c4 => omega
  case c5 => simp; omega
  intro v' w2 hown' hgrow _
  have hblt : b < w1.heap.size := Nat.lt_of_lt_of_le hb hw1
  have hne : v.ownBlock ≠ some b := fun e => by have := own_ge HO.out b e; omega
  have hb2 : w2.heap[b]? = some (.cells #[.pointer (some ⟨b, 0, none⟩), v] 93 (0, 0)) := by
    rw [hgrow.block b (by simp; omega) (fun e => hne e.symm), Lib.alloc_old w1 _ b hblt]
    exact HV.out
  have HB2 := Lib.hid hb2
  have f1 : w2.frozen? ⟨b, 1, none⟩ = false := frozen_of_row _ _ _ _ _ hb2
  have d1 : w2.cell? ⟨b, 1, none⟩ = some v := by simp [World.cell?, hb2]
  have HBL := Lib.hid (show Below base w1 w2 from Below.grown ((Below.refl _ _).alloc hw1 _) hgrow (by simp; omega) (own_ge HO.out))
  obtain ⟨g, cap, rfl⟩ : ∃ g cap, v' = .slice (some ⟨g, 0, none⟩) (bs.length + 1) cap := by
    rcases hown'.2 with ⟨_, h0⟩ | ⟨g, cap, cur, hv, _⟩
    · omega
    · exact ⟨g, cap, hv⟩
  have HO2 := Lib.hid hown'
  clear hgrow hown' hb2 hne
  go_wp2
  go_ret
  refine ⟨rfl, ⟨_, heap_setCell_same _ _ _ _ _ _ HB2.out, ?_⟩, HF.out.trans ((Fr.of HBL.out).trans (Fr.set _ _ _ _ _))⟩
  rw [List.length_append]
  exact ownsRow_setCell_below HO2.out hb _
theorem builder_string (b base : Nat) (p : Value) (l : List UInt8) (w : World) (hp : p = .pointer none ∨ p = .pointer (some ⟨b, 0, none⟩)) (h : BD w b base p (Lib.byteCells l)) (hb : b < base) (hw : base ≤ w.heap.size) :
    Calls Tryd.prog 56 #[.pointer (some ⟨b, 0, none⟩)] w fun e w' => e = .returned (.string ⟨l.toArray⟩) ∧ Below b w w' := by
  obtain ⟨v, hv, hown⟩ := h
  have hne : v.ownBlock ≠ some b := fun e => by have := own_ge hown b e; omega
  have ho : w.ownsRow b 5 1 v (Lib.byteCells l).length (Lib.byteCells l) := by
    refine ⟨hown.1, ?_⟩
    rcases hown.2 with h | ⟨g, cap, cur, h1, h2, h3⟩
    · exact .inl h
    · exact .inr ⟨g, cap, cur, h1, by omega, h3⟩
  have hB : Lib.IsBuilder 93 5 b b (Lib.byteCells l) w := by
    rcases hp with rfl | rfl
    · exact .inl ⟨Nat.le_refl _, v, hv, ho, hne⟩
    · exact .inr ⟨Nat.le_refl _, v, hv, ho, hne⟩
  exact Tryd.Builder_String_any b b l w hB (by omega)
end Go.Proofs.YtfacmnooklljnaaDoor

/- A quoted text, the program's: that of the text Tk. -/
namespace Go.Proofs.YtfacmnooklljnaaDoor
set_option linter.unusedVariables false
set_option linter.unusedSimpArgs false
open Go.RowKit Go.Shelf Go.Sort
set_option maxHeartbeats 1000000
theorem BD.alloc {w : World} {b base : Nat} {p : Value} {bs : List Value} (h : BD w b base p bs) (hb : b < w.heap.size) (o : Obj) : BD (w.alloc o) b base p bs := by
  obtain ⟨v, hv, hown⟩ := h
  exact ⟨v, (Below.heap_alloc w o b hb).trans hv, hown.alloc o⟩
theorem BD.touch {w w' : World} {b base g : Nat} {p : Value} {bs : List Value} (h : BD w b base p bs) (ht : Touch g w w') (hne : b ≠ g) (hg : g < base) : BD w' b base p bs := by
  obtain ⟨v, hv, hown⟩ := h
  rcases ht with rfl | ⟨i, x, rfl⟩
  · exact ⟨v, hv, hown⟩
  · exact ⟨v, (heap_setCell_other _ _ _ _ hne).trans hv, ownsRow_setCell_below hown hg _⟩
namespace Tp
/-- the program's place: k bytes taken -/
def PAt (l : List UInt8) (k : Nat) (q b : Bool) (acc : List UInt8) : Prop :=
  acc.length ≤ k ∧ ((k = 0 ∧ q = false ∧ b = false ∧ acc = []) ∨ (1 ≤ k ∧ q = true ∧ pq b acc (l.drop k) = quoted l))
theorem pAt_first {l : List UInt8} (h0 : 0 < l.length) (h : l[0] = 34) (ha : allT valB l = true) : PAt l 1 true false [] := by
  refine ⟨Nat.zero_le _, .inr ⟨Nat.le_refl _, rfl, ?_⟩⟩
  have hd : l = 34 :: l.drop 1 := by
    have := (List.drop_zero (l := l)).symm.trans (drop_here l 0 h0)
    rwa [h] at this
  rw [hd] at ha
  conv => rhs; rw [hd]
  rw [quoted_some ha]
theorem pAt_end {l acc : List UInt8} {k : Nat} {q b : Bool} (h : PAt l k q b acc) (h0 : 0 < k) (hk : l.length ≤ k) : quoted l = none := by
  rcases h.2 with ⟨h, _⟩ | ⟨_, _, h⟩
  · omega
  · rw [← h, List.drop_eq_nil_of_le hk, pq_nil]
theorem pAt_eq {l acc : List UInt8} {k : Nat} {q b : Bool} (h : PAt l k q b acc) (h0 : 0 < k) : q = true ∧ pq b acc (l.drop k) = quoted l := by
  rcases h.2 with ⟨h, _⟩ | ⟨_, h1, h2⟩
  · omega
  · exact ⟨h1, h2⟩
theorem pAt_b {l acc : List UInt8} {k : Nat} {q : Bool} (h : PAt l k q true acc) (h0 : 0 < k) (hk : k < l.length) : PAt l (k + 1) true false (acc ++ [l[k]]) := by
  refine ⟨by rw [List.length_append]; have := h.1; simp; omega, .inr ⟨by omega, rfl, ?_⟩⟩
  rw [← (pAt_eq h h0).2, drop_here l k hk, pq_b]
theorem pAt_last {l acc : List UInt8} {k : Nat} {q : Bool} (h : PAt l k q false acc) (h0 : 0 < k) (hk : k < l.length) (hc : l[k] = 34) (hl : k + 1 = l.length) : quoted l = some acc := by
  rw [← (pAt_eq h h0).2, drop_here l k hk, hc, hl, List.drop_length, pq_quote]; rfl
theorem pAt_mid {l acc : List UInt8} {k : Nat} {q : Bool} (h : PAt l k q false acc) (h0 : 0 < k) (hk : k < l.length) (hc : l[k] = 34) (hl : k + 1 < l.length) : quoted l = none := by
  rw [← (pAt_eq h h0).2, drop_here l k hk, hc, drop_here l (k + 1) hl, pq_quote]; rfl
theorem pAt_back {l acc : List UInt8} {k : Nat} {q : Bool} (h : PAt l k q false acc) (h0 : 0 < k) (hk : k < l.length) (hc : l[k] = 92) : PAt l (k + 1) true true acc := by
  refine ⟨by have := h.1; omega, .inr ⟨by omega, rfl, ?_⟩⟩
  rw [← (pAt_eq h h0).2, drop_here l k hk, hc, pq_back]
theorem pAt_more {l acc : List UInt8} {k : Nat} {q : Bool} (h : PAt l k q false acc) (h0 : 0 < k) (hk : k < l.length) (h1 : l[k] ≠ 34) (h2 : l[k] ≠ 92) : PAt l (k + 1) true false (acc ++ [l[k]]) := by
  refine ⟨by rw [List.length_append]; have := h.1; simp; omega, .inr ⟨by omega, rfl, ?_⟩⟩
  rw [← (pAt_eq h h0).2, drop_here l k hk, pq_more _ _ _ h1 h2]
end Tp
theorem bytes_snoc (acc : List UInt8) (c : UInt8) : Lib.byteCells (acc ++ [c]) = Lib.byteCells acc ++ [.int .u8 (c.toNat : Int)] := by unfold Lib.byteCells; rw [List.map_append]; rfl
set_option maxRecDepth 100000 in
set_option maxHeartbeats 4000000 in
theorem tok_quoted (s : ByteArray) (w : World) (hs : s.size ≤ 1000000) :
    Calls Tryd.prog 45 #[.string s] w fun e w' => e = .returned (.tuple #[.string ⟨(Tp.quotedS s.data.toList).toArray⟩, .int .i64 (Tp.quotedE s.data.toList)]) ∧ Below w.heap.size w w' := by
  have hbad : ∀ w', Below w.heap.size w w' → Tp.quoted s.data.toList = none → (Ending.returned (.tuple #[.string ⟨#[]⟩, .int .i64 110]) = .returned (.tuple #[.string ⟨(Tp.quotedS s.data.toList).toArray⟩, .int .i64 (Tp.quotedE s.data.toList)]) ∧ Below w.heap.size w w') := by
    intro w' hb hq
    obtain ⟨h1, h2⟩ := Tp.qs_none hq
    rw [h1, h2]
    exact ⟨rfl, hb⟩
  have HBAD := Lib.hid hbad
  clear hbad
  obtain ⟨W2, hW2⟩ : ∃ W, (w.alloc (.cells #[.pointer none, .slice none 0 0] 93)).alloc (.cells #[.string s, .bool false, .bool false] 89) = W := ⟨_, rfl⟩
  have HB2 := Lib.hid (show Below w.heap.size w W2 by rw [← hW2]; exact ((Below.refl _ _).alloc (Nat.le_refl _) _).alloc (by simp) _)
  have HR2 := Lib.hid (show RS W2 (w.heap.size + 1) s false false by rw [← hW2]; simp only [RS, World.alloc]; rw [show w.heap.size + 1 = (w.heap.push (.cells #[.pointer none, .slice none 0 0] 93 (0, 0))).size by simp]; exact Array.getElem?_push_size)
  have HD2 := Lib.hid (show W2.heap[w.heap.size]? = some (.cells #[.pointer none, .slice none 0 0] 93 (0, 0)) by rw [← hW2]; simp [World.alloc, -World.alloc_eq, Array.getElem?_push])
  have HS2 := Lib.hid (show W2.heap.size = w.heap.size + 2 by rw [← hW2]; simp)
  have HW2 := Lib.hid hW2
  clear hW2
  have HBG := Lib.hid (fun d os => HB2.out.trans ((below_regrown W2 d os).mono HB2.out.size))
  by_cases h0 : s.size = 0
  · have he : s.toList.isEmpty = true := by rw [ByteArray.toList_eq, isEmpty_size, decide_eq_true h0]
    have HQ := Lib.hid (show Tp.quoted s.data.toList = none by rw [List.length_eq_zero_iff.1 (show s.data.toList.length = 0 from h0)]; rfl)
    go_enter Tryd.func45, Tryd.ntmps45
    go_wp2_with fail
    refine wp_scope_fwd 0 rfl ?_
    go_wp2_with fail
    rw [HW2.out]
    refine wp_region_quiet_below (by kernel_rfl) (by kernel_rfl) ?_
    repeat (go_big_quiet_step (fail))
    refine wpQuiet_nil ?_
    intro _ hw'
    obtain ⟨⟨dq, osq⟩, hw''⟩ := hw'
    subst hw''
    go_wp2_with fail
    go_step3
    simp only [Exit.then]
    refine onGoto_goto ?_
    go_wp2
    rw [Exit.noGoto_ret]
    exact bodyPost_ret (v := .tuple #[.string ⟨#[]⟩, .int .i64 110]) (by simp [results, Tryd.results45, go_sem]) rfl (HBAD.out _ (HBG.out _ _) HQ.out)
  · have he : s.toList.isEmpty = false := by rw [ByteArray.toList_eq, isEmpty_size, decide_eq_false h0]
    have HL0 := Lib.hid (show 0 < s.data.toList.length from (by have : s.data.toList.length = s.size := rfl; omega))
    have hp : 0 < s.size := by omega
    obtain ⟨x, hx⟩ : ∃ x : Int, ((s[0]'hp).toNat : Int) = x := ⟨_, rfl⟩
    have HX := Lib.hid (show ((s.data.toList[0]'HL0.out).toNat : Int) = x from hx)
    by_cases hc : x = 34
    · have hc1 : (x == 34) = true := beq_iff_eq.2 hc
      have hc2 : (x != 34) = false := by unfold bne; rw [hc1]; rfl
      have H34 := Lib.hid (show s.data.toList[0]'HL0.out = 34 from UInt8.toNat_inj.1 (by have := HX.out; show (s.data.toList[0]'HL0.out).toNat = 34; omega))
      clear hc
      have c0 : ∀ d os, (grow (redrawn W2 d) os).cell? ⟨w.heap.size + 1, 0, none⟩ = some (.string s) := fun d os => cell_regrown HR2.out.c0 d os
      have C1 := Lib.hid (fun d os => Calls.regrown_of (tok_classes (grow (redrawn W2 d) os)))
      have C2 := Lib.hid (fun d os => Calls.regrown_of (tok_all 41 Tp.valB (.inr rfl) cls1 s (grow (redrawn W2 d) os) (by omega)))
      have i1 := classes_1
      obtain ⟨al, hal⟩ : ∃ a, Tp.allT Tp.valB s.data.toList = a := ⟨_, rfl⟩
      rw [hal] at C2
      have HAL := Lib.hid hal
      clear hal
      cases al
      · have HQ := Lib.hid (Tp.quoted_bad HAL.out)
        go_enter Tryd.func45, Tryd.ntmps45
        go_wp2_with fail
        refine wp_scope_fwd 0 rfl ?_
        go_wp2_with fail
        rw [HW2.out]
        refine wp_region_quiet_below (by kernel_rfl) (by kernel_rfl) ?_
        repeat (go_big_quiet_step (first | exact C1.out _ _ | exact C2.out _ _))
        refine wpQuiet_nil ?_
        intro _ hw'
        obtain ⟨⟨dq, osq⟩, hw''⟩ := hw'
        subst hw''
        go_wp2_with fail
        go_step3
        simp only [Exit.then]
        refine onGoto_goto ?_
        go_wp2
        rw [Exit.noGoto_ret]
        exact bodyPost_ret (v := .tuple #[.string ⟨#[]⟩, .int .i64 110]) (by simp [results, Tryd.results45, go_sem]) rfl (HBAD.out _ (HBG.out _ _) HQ.out)
      · go_enter Tryd.func45, Tryd.ntmps45
        have hcv := fun (W : World) (s : ByteArray) => Lib.run_convert_string_bytes (P := Tryd.prog) W 9 76 5 s Tryd.underlying9 Tryd.underlying76 Tryd.underlying5
        go_wp2_with fail
        refine wp_scope_fwd 0 rfl ?_
        go_wp2_with fail
        rw [HW2.out]
        refine wp_region_quiet_below (by kernel_rfl) (by kernel_rfl) ?_
        repeat (go_big_quiet_step (first | exact C1.out _ _ | exact C2.out _ _))
        refine wpQuiet_nil ?_
        intro _ hw'
        obtain ⟨⟨dq, osq⟩, hw''⟩ := hw'
        subst hw''
        have HB3 := Lib.hid (HBG.out dq osq)
        have HR3 := Lib.hid (HR2.out.below (below_regrown W2 dq osq) (by rw [HS2.out]; omega))
        have HD3 := Lib.hid (((below_regrown W2 dq osq).block w.heap.size (by rw [HS2.out]; omega)).trans HD2.out)
        have HS3 := Lib.hid (show w.heap.size + 2 ≤ (grow (redrawn W2 dq) osq).heap.size by rw [← HS2.out]; exact (below_regrown W2 dq osq).size)
        obtain ⟨W3, hW3⟩ : ∃ W, grow (redrawn W2 dq) osq = W := ⟨_, rfl⟩
        rw [hW3] at HB3 HR3 HD3 HS3 ⊢
        clear hW3 HBG C1 C2 c0 i1 hc1 hc2 hx HX hp he h0
        go_wp2_with fail
        clear hcv
        have HB4 := Lib.hid (HB3.out.trans (below_bytesWorld w.heap.size W3 5 s (by have := HS3.out; omega)))
        have HY4 := Lib.hid (fun (k : Nat) (h : k < s.size) => Lib.bytesWorld_cell W3 5 s k h)
        have HS4 := Lib.hid (Lib.bytesWorld_size W3 5 s)
        have HR4 := Lib.hid (show RS (Lib.bytesWorld W3 5 s) (w.heap.size + 1) s false false from (Lib.bytesWorld_at_old W3 5 s (w.heap.size + 1) (by have := HS3.out; omega)).trans HR3.out)
        have HD4 := Lib.hid (show (Lib.bytesWorld W3 5 s).heap[w.heap.size]? = _ from (Lib.bytesWorld_at_old W3 5 s w.heap.size (by have := HS3.out; omega)).trans HD3.out)
        obtain ⟨G, hG⟩ : ∃ G, W3.heap.size = G := ⟨_, rfl⟩
        obtain ⟨W4, hW4⟩ : ∃ W, Lib.bytesWorld W3 5 s = W := ⟨_, rfl⟩
        obtain ⟨cap, hcap⟩ : ∃ c, grownCap W3 s.size 0 5 = c := ⟨_, rfl⟩
        rw [hG] at HS3 HY4 HS4
        rw [hW4] at HB4 HY4 HS4 HR4 HD4
        simp only [hG, hW4, hcap]
        clear hcap hW4 hG HB3 HR3 HD3
        go_loopw [33] (fun i wr => ∃ (k : Nat) (q b : Bool) (acc : List UInt8) (p : Value), k ≤ s.size ∧ i = .int .i64 k ∧ Tp.PAt s.data.toList k q b acc ∧ RS wr (w.heap.size + 1) s q b ∧ BD wr w.heap.size (G + 1) p (Lib.byteCells acc) ∧ (p = .pointer none ∨ p = .pointer (some ⟨w.heap.size, 0, none⟩)) ∧ wr.heap[G]? = W4.heap[G]? ∧ Below w.heap.size w wr ∧ G + 1 ≤ wr.heap.size) (fun i _ => s.size - (intOf i).toNat)
        case atStart => exact ⟨0, false, false, [], .pointer none, Nat.zero_le _, rfl, ⟨Nat.le_refl _, .inl ⟨rfl, rfl, rfl, rfl⟩⟩, HR4.out, ⟨_, HD4.out, World.ownsRow_nil _ _ _ _⟩, .inl rfl, rfl, HB4.out, by rw [HS4.out]; exact Nat.le_refl _⟩
        case round =>
          obtain ⟨k, q, b, acc, p, hk, rfl, hpat, hrs, hbd, hpp, hgb, hbl, hsz⟩ := hrel
          have HP := Lib.hid hpat
          have HRS := Lib.hid hrs
          have HBD := Lib.hid hbd
          have HPP := Lib.hid hpp
          have HGB := Lib.hid hgb
          have HBL := Lib.hid hbl
          have HSZ := Lib.hid hsz
          clear hpat hrs hbd hpp hgb hbl hsz HB4 HR4 HD4 HS4
          by_cases hlt : k < s.size
          · have HKL := Lib.hid (show k < s.data.toList.length from hlt)
            have hcG : wr.cell? ⟨G, k, none⟩ = some (.int .u8 ((s.data.toList.getD k 0).toNat : Int)) := (World.cell?_of_block (w := W4) HGB.out).trans (HY4.out k hlt)
            rw [show s.data.toList.getD k 0 = s.data.toList[k]'HKL.out by simp [List.getD_eq_getElem?_getD, List.getElem?_eq_getElem HKL.out]] at hcG
            obtain ⟨c, hcc⟩ : ∃ c, s.data.toList[k]'HKL.out = c := ⟨_, rfl⟩
            rw [hcc] at hcG
            have HC := Lib.hid hcc
            clear hcc
            obtain ⟨x, hx⟩ : ∃ x : Int, (c.toNat : Int) = x := ⟨_, rfl⟩
            rw [hx] at hcG
            have HX := Lib.hid hx
            have hr1 : (0 : Int) ≤ x := by omega
            have hr2 : x < 256 := by have := c.toNat_lt; omega
            clear hx
            have K := Lib.hid (tok_open (w.heap.size + 1) s q b x (wr.alloc (.cells #[.string s, .bool q, .bool b] 89)) hr1 hr2 (HRS.out.below ((Below.refl _ _).alloc (Nat.le_refl _) _) (by have := HS3.out; have := HSZ.out; omega)))
            have h0 := HRS.out.c0
            have h1 := HRS.out.c1
            have h2 := HRS.out.c2
            go_wp2_with fail
            refine K.out.mono ?_
            rintro e w2 ⟨rfl, hrs2, htc⟩
            obtain ⟨r, hr⟩ : ∃ r, Tp.stR q b x = r := ⟨_, rfl⟩
            rw [hr]
            clear hr hcG h0 h1 h2 K
            have hwas : w2.cell? ⟨wr.heap.size, 2, none⟩ = some (.bool b) := by
              have e1 : (wr.alloc (.cells #[.string s, .bool q, .bool b] 89)).cell? ⟨wr.heap.size, 2, none⟩ = some (.bool b) := by simp
              rw [← e1]
              exact World.cell?_of_block (htc.heap wr.heap.size (by have := HS3.out; have := HSZ.out; omega))
            have HBD2 := Lib.hid ((HBD.out.alloc (by have := HS3.out; have := HSZ.out; omega) (.cells #[.string s, .bool q, .bool b] 89)).touch htc (by omega) (by have := HS3.out; omega))
            have HGB2 := Lib.hid ((htc.heap G (by have := HS3.out; omega)).trans ((Below.heap_alloc wr _ G (by have := HSZ.out; omega)).trans HGB.out))
            have HBL2 := Lib.hid ((HBL.out.alloc (by have := HS3.out; have := HSZ.out; omega) (.cells #[.string s, .bool q, .bool b] 89)).trans (htc.below (Nat.le_succ _)))
            have HSZ2 := Lib.hid (show G + 1 ≤ w2.heap.size by rw [htc.size]; simp; have := HSZ.out; omega)
            clear htc HBD HGB HBL HSZ HRS
            by_cases hk0 : k = 0
            · subst hk0
              obtain ⟨rfl, rfl, rfl⟩ : q = false ∧ b = false ∧ acc = [] := by
                rcases HP.out.2 with ⟨_, h⟩ | ⟨h, _⟩
                · exact h
                · omega
              have e1 : (x == 34) = true := beq_iff_eq.2 (by rw [← HX.out, ← HC.out, H34.out]; rfl)
              have HNEXT := Lib.hid (Tp.pAt_first HL0.out H34.out HAL.out)
              have HRS2 := Lib.hid (show RS w2 (w.heap.size + 1) s true false by simpa [Tp.stQ, Tp.stB, e1] using hrs2)
              have hcb := HRS2.out.c2
              clear hrs2
              go_wp2_with fail
              go_roundw
              case rel => exact ⟨1, true, false, [], p, by omega, by go_num, HNEXT.out, HRS2.out, HBD2.out, HPP.out, HGB2.out, HBL2.out, HSZ2.out⟩
              case measure => simp [intOf]; omega
            · have hk1 : 0 < k := by omega
              obtain ⟨rfl, _⟩ := Tp.pAt_eq HP.out hk1
              have hkk : (0 : Int) < (k : Int) := by omega
              cases b
              · by_cases h34 : x = 34
                · have e1 : (x == 34) = true := beq_iff_eq.2 h34
                  have e2 : (x == 92) = false := beq_eq_false_iff_ne.2 (by omega)
                  have HC34 := Lib.hid (show c = 34 from UInt8.toNat_inj.1 (by have := HX.out; show c.toNat = 34; omega))
                  have HRS2 := Lib.hid (show RS w2 (w.heap.size + 1) s false false by simpa [Tp.stQ, Tp.stB, e1, e2] using hrs2)
                  have hcb := HRS2.out.c2
                  clear hrs2 h34
                  by_cases hlast : (k : Int) = (s.size : Int) - 1
                  · have HS := Lib.hid (Tp.qs_some (Tp.pAt_last HP.out hk1 HKL.out (HC.out.trans HC34.out) (by have : s.data.toList.length = s.size := rfl; omega)))
                    have hl1 : ((k : Int) == (s.size : Int) - 1) = true := beq_iff_eq.2 hlast
                    have K2 := Lib.hid (builder_string w.heap.size (G + 1) p acc w2 HPP.out HBD2.out (by have := HS3.out; omega) HSZ2.out)
                    clear hlast
                    go_wp2_with fail
                    refine K2.out.mono ?_
                    rintro e w3 ⟨rfl, hb3⟩
                    go_wp2
                    rw [onGoto_ret]
                    refine bodyPost_ret (v := .tuple #[.string ⟨acc.toArray⟩, .int .i64 0]) (by simp [results, Tryd.results45, go_sem]) rfl ⟨?_, HBL2.out.trans hb3⟩
                    rw [HS.out.1, HS.out.2]
                  · have HN := Lib.hid (Tp.pAt_mid HP.out hk1 HKL.out (HC.out.trans HC34.out) (by have : s.data.toList.length = s.size := rfl; omega))
                    have hl1 : ((k : Int) == (s.size : Int) - 1) = false := beq_eq_false_iff_ne.2 hlast
                    clear hlast
                    go_wp2_with fail
                    go_step3
                    try simp only [Exit.then]
                    refine onGoto_goto (Q := fun _ _ _ => False) ?_
                    go_wp2
                    rw [Exit.noGoto_ret]
                    exact bodyPost_ret (v := .tuple #[.string ⟨#[]⟩, .int .i64 110]) (by simp [results, Tryd.results45, go_sem]) rfl (HBAD.out _ HBL2.out HN.out)
                · have e1 : (x == 34) = false := beq_eq_false_iff_ne.2 h34
                  have HC34 := Lib.hid (show c ≠ 34 from fun e => h34 (by rw [← HX.out, e]; rfl))
                  clear h34
                  by_cases h92 : x = 92
                  · have e2 : (x == 92) = true := beq_iff_eq.2 h92
                    have HC92 := Lib.hid (show c = 92 from UInt8.toNat_inj.1 (by have := HX.out; show c.toNat = 92; omega))
                    clear h92
                    have HNEXT := Lib.hid (Tp.pAt_back HP.out hk1 HKL.out (HC.out.trans HC92.out))
                    have HRS2 := Lib.hid (show RS w2 (w.heap.size + 1) s true true by simpa [Tp.stQ, Tp.stB, e1, e2] using hrs2)
                    have hcb := HRS2.out.c2
                    clear hrs2
                    go_wp2_with fail
                    go_roundw
                    case rel => exact ⟨k + 1, true, true, acc, p, by omega, by go_num, HNEXT.out, HRS2.out, HBD2.out, HPP.out, HGB2.out, HBL2.out, HSZ2.out⟩
                    case measure => simp [intOf]; omega
                  · have e2 : (x == 92) = false := beq_eq_false_iff_ne.2 h92
                    have HC92 := Lib.hid (show c ≠ 92 from fun e => h92 (by rw [← HX.out, e]; rfl))
                    clear h92
                    have HNEXT0 := Lib.hid (Tp.pAt_more HP.out hk1 HKL.out (by rw [HC.out]; exact HC34.out) (by rw [HC.out]; exact HC92.out))
                    rw [HC.out] at HNEXT0
                    have HNEXT := HNEXT0
                    clear HNEXT0
                    have HRS2 := Lib.hid (show RS w2 (w.heap.size + 1) s true false by simpa [Tp.stQ, Tp.stB, e1, e2] using hrs2)
                    have hcb := HRS2.out.c2
                    clear hrs2
                    have K2 := Lib.hid (builder_byte w.heap.size (G + 1) p (Lib.byteCells acc) x w2 HPP.out HBD2.out (by have := HS3.out; omega) HSZ2.out (by rw [Lib.byteCells_length]; have := HP.out.1; omega))
                    go_wp2_with fail
                    refine K2.out.mono ?_
                    rintro e w3 ⟨rfl, hbd3, hfr⟩
                    have HBD3 := Lib.hid (show BD w3 w.heap.size (G + 1) (.pointer (some ⟨w.heap.size, 0, none⟩)) (Lib.byteCells (acc ++ [c])) by rw [bytes_snoc, HX.out]; exact hbd3)
                    have HRS3 := Lib.hid (show RS w3 (w.heap.size + 1) s true false from (hfr.block (w.heap.size + 1) (by have := HS3.out; omega) (by omega)).trans HRS2.out)
                    have HGB3 := Lib.hid ((hfr.block G (by omega) (by have := HS3.out; omega)).trans HGB2.out)
                    have HBL3 := Lib.hid (HBL2.out.trans (hfr.below (Nat.le_refl _) (by have := HS3.out; omega)))
                    have HSZ3 := Lib.hid (Nat.le_trans HSZ2.out hfr.size)
                    clear hbd3 hfr
                    go_wp2
                    go_roundw
                    case rel => exact ⟨k + 1, true, false, acc ++ [c], _, by omega, by go_num, HNEXT.out, HRS3.out, HBD3.out, .inr rfl, HGB3.out, HBL3.out, HSZ3.out⟩
                    case measure => simp [intOf]; omega
              · have HNEXT0 := Lib.hid (Tp.pAt_b HP.out hk1 HKL.out)
                rw [HC.out] at HNEXT0
                have HNEXT := HNEXT0
                clear HNEXT0
                have HRS2 := Lib.hid (show RS w2 (w.heap.size + 1) s true false by simpa [Tp.stQ, Tp.stB] using hrs2)
                have hcb := HRS2.out.c2
                clear hrs2
                have K2 := Lib.hid (builder_byte w.heap.size (G + 1) p (Lib.byteCells acc) x w2 HPP.out HBD2.out (by have := HS3.out; omega) HSZ2.out (by rw [Lib.byteCells_length]; have := HP.out.1; omega))
                go_wp2_with fail
                refine K2.out.mono ?_
                rintro e w3 ⟨rfl, hbd3, hfr⟩
                have HBD3 := Lib.hid (show BD w3 w.heap.size (G + 1) (.pointer (some ⟨w.heap.size, 0, none⟩)) (Lib.byteCells (acc ++ [c])) by rw [bytes_snoc, HX.out]; exact hbd3)
                have HRS3 := Lib.hid (show RS w3 (w.heap.size + 1) s true false from (hfr.block (w.heap.size + 1) (by have := HS3.out; omega) (by omega)).trans HRS2.out)
                have HGB3 := Lib.hid ((hfr.block G (by omega) (by have := HS3.out; omega)).trans HGB2.out)
                have HBL3 := Lib.hid (HBL2.out.trans (hfr.below (Nat.le_refl _) (by have := HS3.out; omega)))
                have HSZ3 := Lib.hid (Nat.le_trans HSZ2.out hfr.size)
                clear hbd3 hfr
                go_wp2
                go_roundw
                case rel => exact ⟨k + 1, true, false, acc ++ [c], _, by omega, by go_num, HNEXT.out, HRS3.out, HBD3.out, .inr rfl, HGB3.out, HBL3.out, HSZ3.out⟩
                case measure => simp [intOf]; omega
          · have HN := Lib.hid (Tp.pAt_end HP.out (by have := HL0.out; have : s.data.toList.length = s.size := rfl; omega) (by have : s.data.toList.length = s.size := rfl; omega))
            have HBL2 := HBL
            go_wp2_with fail
            go_step3
            go_wp2
            rw [onGoto_ret]
            exact bodyPost_ret (v := .tuple #[.string ⟨#[]⟩, .int .i64 110]) (by simp [results, Tryd.results45, go_sem]) rfl (HBAD.out _ HBL2.out HN.out)
    · have hc1 : (x == 34) = false := beq_eq_false_iff_ne.2 hc
      have hc2 : (x != 34) = true := by unfold bne; rw [hc1]; rfl
      have HQ := Lib.hid (show Tp.quoted s.data.toList = none from Tp.quoted_none (fun c t h e => hc (by rw [← HX.out]; simp only [h]; show (c.toNat : Int) = 34; rw [e]; rfl)))
      clear hc
      go_enter Tryd.func45, Tryd.ntmps45
      go_wp2_with fail
      refine wp_scope_fwd 0 rfl ?_
      go_wp2_with fail
      rw [HW2.out]
      refine wp_region_quiet_below (by kernel_rfl) (by kernel_rfl) ?_
      repeat (go_big_quiet_step (fail))
      refine wpQuiet_nil ?_
      intro _ hw'
      obtain ⟨⟨dq, osq⟩, hw''⟩ := hw'
      subst hw''
      go_wp2_with fail
      go_step3
      simp only [Exit.then]
      refine onGoto_goto ?_
      go_wp2
      rw [Exit.noGoto_ret]
      exact bodyPost_ret (v := .tuple #[.string ⟨#[]⟩, .int .i64 110]) (by simp [results, Tryd.results45, go_sem]) rfl (HBAD.out _ (HBG.out _ _) HQ.out)
end Go.Proofs.YtfacmnooklljnaaDoor
